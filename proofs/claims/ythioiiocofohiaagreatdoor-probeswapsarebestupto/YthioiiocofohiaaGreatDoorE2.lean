/-
  Helping texts: plain functions and plain laws. No statement of the seed is proved here.
-/
import Derived.Test.YthioiiocofohiaaGreatDoorE1
import Derived.Test.YthioiiocofohiaaGreatDoorA2
set_option linter.unusedVariables false
set_option linter.unusedSimpArgs false
set_option linter.unusedSectionVars false
namespace Go.Gk
open Go Classical
section
variable {N:Nat}
section
variable {α:Type}
def t9 (P:α->Bool) (l:List α) (n:Nat):List Nat:=(List.range n).filter (fun k=>(l[k]?).any P)
theorem Ff {P:α->Bool} {l:List α} {n:Nat} {x:α} (h:l[n]? =some x):t9 P l (n+1)=if P x=true then t9 P l n++[n] else t9 P l n:=by
 unfold t9
 rw [List.range_succ,jL]
 by_cases hp:P x=true
 ·rw [aC hp];simp [h,hp]
 ·rw [aD hp];simp [h,hp]
theorem BB (P:α->Bool) (l:List α) (n:Nat): (t9 P l n).length<=n:=by
 have:=nn (fun k=>(l[k]?).any P) (List.range n)
 rw [List.length_range] at this;exact this
theorem Hc {P:α->Bool} {l:List α} {n k:Nat}:k∈t9 P l n↔k<n/\(l[k]?).any P=true:=by unfold t9;simp
theorem w5 {β:Type} {l:List α} (P:α->Bool) (g:Nat->β):px l.length (fun k=>(l[k]?).bind fun x=>if P x=true then some (g k) else none)= (l.findIdx? P).map g:=by
 cases h:l.findIdx? P with
 | none=>
  rw [List.findIdx?_eq_none_iff] at h
  refine jJ.2 fun k hk=>?_
  rw [aL hk]
  have:=h _ (cO hk)
  simp [this]
 | some j=>
  obtain⟨hj,hp,hn⟩:=List.findIdx?_eq_some_iff_getElem.1 h
  refine ku.2 ⟨j,hj,by rw [aL hj];simp [hp],fun i hi=>?_⟩
  rw [aL (by omega)]
  have:=hn i hi
  simp [this]
end
def ints (l:List Nat):List Int:=l.map fun i=>((i:Nat):Int)
theorem uc (l m:List Nat):ints (l++m)=ints l++ints m:=dU
theorem nE (l:List Nat): (ints l).length=l.length:=dN _
theorem Ad {l:List Nat} {x:Int}:x∈ints l↔∃i∈l,x= ((i:Nat):Int):=by
 unfold ints;rw [cS]
 constructor
 ·rintro⟨i,h1,h2⟩;exact⟨i,h1,h2.symm⟩
 ·rintro⟨i,h1,h2⟩;exact⟨i,h1,h2.symm⟩
def Gj (p0 p1:aH):Bool:=((((decide (p0.X0<p1.X1))&&(decide (p1.X0<p0.X1)))&&((p0.Y1==p1.Y0)||(p1.Y1==p0.Y0)))||(((decide (p0.Y0<p1.Y1))&&(decide (p1.Y0<p0.Y1)))&&((p0.X1==p1.X0)||(p1.X1==p0.X0))))
def nF (b:cD) (p:aJ):Bool:=b.iO&&(j4 b p.eV&&p.o4.any (fun r=>Gj r (tX b)))
def nj (bs:List cD) (pcs:List aJ):List (List Int):=bs.map fun b=>ints (t9 (nF b) pcs pcs.length)
theorem qJ {l:List aH} {φ:aH->Option Bool} (p:aH->Bool) (hl:l.length<=4611686018427387904) (h: ∀x∈l,φ x=some (p x)):f0 N l φ=some (l.any p):=
 rn p hl h
theorem IZ {bs:List cD} {pcs:List aJ} (hb:mB bs) (hp:pcs.length<=1073741824) (hr: ∀p∈pcs,p.o4.length<=1073741824):jk N bs pcs []=some (nj bs pcs):=by
 refine Ok.get ?_
 have hbl:=hb.len
 unfold jk
 refine Ok.bind (Ok.lF (fun k st=>st=nj (bs.take k) pcs) (by omega) rfl (fun k st hk e=>?_)) (fun st e=>Ok.ret (by rw [e,fw]))
 subst e
 have hg:=hb.ok _ (cO hk)
 refine Ok.idx hk ?_
 refine Ok.bind (P:=fun t=>t=ints (t9 (nF bs[k]) pcs pcs.length)) (Ok.lF (fun j t=>t=ints (t9 (nF bs[k]) pcs j)) (by omega) rfl (fun j t hj e=>?_)) (fun t e=>?_)
 ·subst e
  have hjx:pcs[j]? =some pcs[j]:=aL hj
  have hl:=BB (nF bs[k]) pcs j
  refine Ok.ix hjx ?_
  refine Ok.eq (x:=nF bs[k] pcs[j]) ?_ ?_
  ·unfold nF
   cases bs[k].iO with
   | false=>rfl
   | true=>
    rw [aO,Ab,aB,Bool.true_and]
    cases j4 bs[k] pcs[j].eV with
    | false=>rfl
    | true=>
     rw [aO,qJ (fun r=>Gj r (tX bs[k])) (by have:=hr _ (cO hj);omega) (fun r _=>by
      unfold jt;rw [mb hg.1];rfl),aB,Bool.true_and]
  ·rw [Ff hjx]
   cases ht:nF bs[k] pcs[j] with
   | false=>rw [aN,aD (by simp)];exact Ok.eq rfl (Ok.ret rfl)
   | true=>
    rw [aO,aC rfl]
    refine Ok.eq (x:=ints (t9 (nF bs[k]) pcs j)++[((j:Nat):Int)]) (by rw [jX (by rw [nE];simp;omega),aB]) (Ok.ret ?_)
    rw [uc];rfl
 ·subst e
  refine Ok.app ?_ (Ok.ret ?_)
  ·unfold nj;simp;omega
  ·unfold nj
   rw [eF hk,dU];rfl
def Eb (r:List aH) (p:bH):Bool:=r.any (fun x=>decide (p.X>=x.X0)&&(decide (p.X<x.X1)&&(decide (p.Y>=x.Y0)&&decide (p.Y<x.Y1))))
theorem w6 {r:List aH} {p:bH} (hl:r.length<=4611686018427387904):jI N r p=some (Eb r p):=by
 unfold jI
 rw [qJ (fun x=>decide (p.X>=x.X0)&&(decide (p.X<x.X1)&&(decide (p.Y>=x.Y0)&&decide (p.Y<x.Y1)))) hl (fun x _=>by
  unfold kK
  cases decide (p.X>=x.X0) <;> cases decide (p.X<x.X1) <;> cases decide (p.Y>=x.Y0) <;> rfl)];rfl
def vW (l:dD) (b:cD):Bool:=b.iO&&(j4 b l.eV&&Eb [tX b] l.At)
def w7 (l:dD) (p:aJ):Bool:=(p.eV==l.eV)&&Eb p.o4 l.At
def qs (bs:List cD) (pcs:List aJ) (l:dD):Option fJ:=match bs.findIdx? (vW l) with
 | some k=>some ⟨true,((k:Nat):Int)⟩
 | none=>(pcs.findIdx? (w7 l)).map fun k=>⟨false,((k:Nat):Int)⟩
theorem I0 {bs:List cD} {pcs:List aJ} (hb:mB bs) (hp:pcs.length<=1073741824) (hr: ∀p∈pcs,p.o4.length<=1073741824) (l:dD):
  jm N bs pcs l=some ((qs bs pcs l).getD ⟨false,0⟩,(qs bs pcs l).isSome):=by
 have hbl:=hb.len
 unfold jm
 rw [pR (fun k=>(bs[k]?).bind fun x=>if vW l x=true then some ((⟨true,((k:Nat):Int)⟩:fJ),true) else none) (by omega) (fun k hk _=>by
  have hkx:bs[k]? =some bs[k]:=aL hk
  have hg:=hb.ok _ (cO hk)
  rw [dY hkx,aB,hkx,mb hg.1,aB,aB,w6 (by simp)]
  unfold vW
  cases bs[k].iO with
  | false=>rfl
  | true=>
   show (((bif j4 bs[k] l.eV then _ else _:Option Bool)).bind _)=_
   cases j4 bs[k] l.eV with
   | false=>rfl
   | true=>
    cases Eb [tX bs[k]] l.At <;> rfl),aB,w5 (vW l) (fun k=>((⟨true,((k:Nat):Int)⟩:fJ),true))]
 unfold qs
 cases bs.findIdx? (vW l) with
 | some k=>rfl
 | none=>
  show ((qX pcs.length _ ()).bind _)=_
  rw [pR (fun k=>(pcs[k]?).bind fun x=>if w7 l x=true then some ((⟨false,((k:Nat):Int)⟩:fJ),true) else none) (by omega) (fun k hk _=>by
   have hkx:pcs[k]? =some pcs[k]:=aL hk
   rw [dY hkx,aB,hkx,aB,w6 (by have:=hr _ (cO hk);omega)]
   unfold w7
   cases pcs[k].eV==l.eV with
   | false=>rfl
   | true=>cases Eb pcs[k].o4 l.At <;> rfl),aB,w5 (w7 l) (fun k=>((⟨false,((k:Nat):Int)⟩:fJ),true))]
  cases pcs.findIdx? (w7 l) <;> rfl
def Lk (n:Nat) (tch:List (List Int)) (i j:Nat):Prop:=∃(k:Nat) (l:List Int),tch[k]? =some l/\((i:Nat):Int)∈l/\j=n+k
structure A0 (n m:Nat) (tch:List (List Int)) (r:Nat->Nat):Prop where
 le: ∀i,i<n+m->r i<=i
 rr: ∀i,i<n+m->r (r i)=r i
 co: ∀i j,Lk n tch i j->r i=r j
 fi: ∀S:Nat->Prop,(∀i j,Lk n tch i j->(S i↔S j))->∀i j,i<n+m->j<n+m->r i=r j->S i->S j
theorem BC {n m:Nat} {tch:List (List Int)} (hm:tch.length=m) (ht: ∀l∈tch,l.length<=1073741824/\∀x∈l,∃i:Nat,i<n/\x= ((i:Nat):Int)) (hn:n<=1073741824) (hm2:m<=1073741824) {up:List Int} (hu:UF (n+m) up (fun i=>i)) (hN:4398046511104<=N):
  Ok (lF tch.length (fun(k34:Nat) (s35: (List Int))=>((idx tch (k34:Int)).bind fun x89=>(lF x89.length (fun(k92:Nat) (s93: (List Int))=>((idx x89 (k92:Int)).bind fun x107=>(dQ N s93 x107 (IntKind.wrap .i64 ((n:Int)+ (k34:Int)))).bind fun x109=>some x109:Option ((List Int)))) s35).bind fun s93=>some s93:Option ((List Int)))) up)
   (fun up'=>∃r,UF (n+m) up' r/\A0 n m tch r):=by
 have base:Ok (lF tch.length (fun(k34:Nat) (s35: (List Int))=>((idx tch (k34:Int)).bind fun x89=>(lF x89.length (fun(k92:Nat) (s93: (List Int))=>((idx x89 (k92:Int)).bind fun x107=>(dQ N s93 x107 (IntKind.wrap .i64 ((n:Int)+ (k34:Int)))).bind fun x109=>some x109:Option ((List Int)))) s35).bind fun s93=>some s93:Option ((List Int)))) up)
   (fun up'=>∃r E,UF (n+m) up' r/\oV r E/\yN (n+m) r E/\(∀p∈E,Lk n tch p.1 p.2)/\∀(k:Nat) l (i:Nat),k<tch.length->tch[k]? =some l->((i:Nat):Int)∈l->(i,n+k)∈E):=by
  refine Ok.lF (fun q up'=>∃r E,UF (n+m) up' r/\oV r E/\yN (n+m) r E/\(∀p∈E,Lk n tch p.1 p.2)/\∀(k:Nat) l (i:Nat),k<q->tch[k]? =some l->((i:Nat):Int)∈l->(i,n+k)∈E) (by omega)
   ⟨_,_,hu,oV.id,yN.id _,fun p hp=>(by cases hp),fun k l i hk=>by omega⟩ (fun q up' hq hI=>?_)
  obtain⟨r,E,h1,h2,h3,h4,h5⟩:=hI
  have hqx:tch[q]? =some tch[q]:=aL hq
  obtain⟨hl1,hl2⟩:=ht _ (cO hq)
  refine Ok.ix hqx ?_
  rw [wrap_add (by omega)]
  refine Ok.bind (Ok.lF (fun t up'=>∃r E,UF (n+m) up' r/\oV r E/\yN (n+m) r E/\(∀p∈E,Lk n tch p.1 p.2)/\(∀(k:Nat) l (i:Nat),k<q->tch[k]? =some l->((i:Nat):Int)∈l->(i,n+k)∈E)/\∀i:Nat,((i:Nat):Int)∈tch[q].take t->(i,n+q)∈E) (by omega)
   ⟨r,E,h1,h2,h3,h4,h5,fun i hi=>by simp at hi⟩ (fun t up' htl hI=>?_)) (fun up' hI=>Ok.ret ?_)
  ·obtain⟨r,E,h1,h2,h3,h4,h5,h6⟩:=hI
   refine Ok.idx htl ?_
   obtain⟨i,hi,e⟩:=hl2 _ (cO htl)
   rw [e]
   obtain⟨u2,a1,a2⟩:=Kb (N:=N) h1 (i:=i) (k:=n+q) (by omega) (by omega) (by omega)
   refine Ok.eq a1 (Ok.ret ⟨_,_,a2,h2.join i (n+q) (h1.rr i (by omega)),h3.join (by omega) (by omega),fun p hp=>?_,fun k l j hk hl hj=>List.mem_append_left _ (h5 k l j hk hl hj),fun j hj=>?_⟩)
   ·rcases cY.1 hp with hp | hp
    ·exact h4 p hp
    ·simp at hp;subst hp
     exact⟨q,tch[q],hqx,by rw [<-e];exact cO htl,rfl⟩
   ·rw [eF htl,cY] at hj
    rcases hj with hj | hj
    ·exact List.mem_append_left _ (h6 j hj)
    ·rw [List.mem_singleton,e] at hj
     have:j=i:=by omega
     subst this;simp
  ·obtain⟨r,E,h1,h2,h3,h4,h5,h6⟩:=hI
   refine⟨r,E,h1,h2,h3,h4,fun k l i hk hl hi=>?_⟩
   by_cases hkq:k<q
   ·exact h5 k l i hkq hl hi
   ·have:k=q:=by omega
    subst this
    rw [hqx] at hl;injection hl with hl;subst hl
    exact h6 i (by rw [fw];exact hi)
 obtain⟨up',e,r,E,h1,h2,h3,h4,h5⟩:=base
 have hE: ∀i j,Lk n tch i j->(i,j)∈E:=fun i j ⟨k,l,hl,hi,hj⟩=>by
  rw [hj];exact h5 k l i (aW.1 hl).1 hl hi
 exact⟨up',e,r,h1,h1.le,h1.rr,fun i j h=>h2 (i,j) (hE i j h),fun S hS i j hi hj=>h3 S (fun p hp=>hS p.1 p.2 (h4 p hp)) i j hi hj⟩
def A1 (bs:List cD) (j:Nat):Bool:=(bs[j]?).any (fun b=>b.iO)
def gP (n:Nat) (c:List Nat):List Nat:=c.filter (fun i=>decide (i<n))
def gB (bs:List cD) (n:Nat) (c:List Nat):List Nat:=(c.filter (fun i=> !decide (i<n)&&A1 bs (i - n))).map (fun i=>i - n)
def I8 (bs:List cD) (n:Nat) (c:List Nat):Bool:=decide (0< (gP n c).length+ (gB bs n c).length)
def Pw (bs:List cD) (n:Nat) (c:List Nat):cU:=⟨ints (gP n c),ints (gB bs n c),[]⟩
theorem Gl (n:Nat) (c:List Nat) (i:Nat):gP n (c++[i])=if i<n then gP n c++[i] else gP n c:=by
 unfold gP;rw [jL];split <;> rename_i h <;> simp [h]
theorem Gm (bs:List cD) (n:Nat) (c:List Nat) (i:Nat):gB bs n (c++[i])=if i<n then gB bs n c else if A1 bs (i - n)=true then gB bs n c++[i - n] else gB bs n c:=by
 unfold gB;rw [jL,dU]
 split
 ·rename_i h;simp [h]
 ·rename_i h
  split <;> rename_i h2 <;> simp [h,h2]
theorem I9 (n:Nat) (c:List Nat): (gP n c).length<=c.length:=nn _ _
theorem Ja (bs:List cD) (n:Nat) (c:List Nat): (gB bs n c).length<=c.length:=by unfold gB;rw [dN];exact nn _ _
def live (bs:List cD) (n t:Nat) (r:Nat->Nat) (hs:List Nat):List Nat:=hs.filter (fun h=>I8 bs n (cls t r h))
def sj (bs:List cD) (n t:Nat) (r:Nat->Nat) (hs:List Nat):List cU:=(live bs n t r hs).map (fun h=>Pw bs n (cls t r h))
theorem Hd (bs:List cD) (n t:Nat) (r:Nat->Nat) (hs:List Nat) (h:Nat):live bs n t r (hs++[h])=if I8 bs n (cls t r h)=true then live bs n t r hs++[h] else live bs n t r hs:=by
 unfold live;rw [jL];split <;> rename_i h2 <;> simp [h2]
theorem w8 (bs:List cD) (n t:Nat) (r:Nat->Nat) (hs:List Nat): (sj bs n t r hs).length= (live bs n t r hs).length:=by unfold sj;rw [dN]
def gi (bs:List cD) (n t:Nat) (r:Nat->Nat) (h:Nat):Nat:=(live bs n t r ((bQ t r).takeWhile (fun x=>decide (x≠h)))).length
theorem vm {l:List Nat} (hn:l.Nodup) {k h:Nat} (hk:l[k]? =some h):l.takeWhile (fun x=>decide (x≠h))=l.take k:=by
 induction l generalizing k with
 | nil=>simp at hk
 | cons a l ih=>
  cases k with
  | zero=>simp at hk;subst hk;simp
  | succ k=>
   have hk:l[k]? =some h:=by simpa using hk
   have hne:a≠h:=fun e=>(List.nodup_cons.1 hn).1 (by rw [e];exact eW hk)
   rw [List.takeWhile_cons,aC (by simpa using hne),List.take_succ_cons,ih (List.nodup_cons.1 hn).2 hk]
theorem w9 (bs:List cD) (n t:Nat) (r:Nat->Nat) (hs:List Nat): (live bs n t r hs).length<=hs.length:=nn _ _
theorem Jb {bs:List cD} {n t:Nat} {r:Nat->Nat} {h:Nat} (hh:h∈bQ t r) (hne:I8 bs n (cls t r h)=true):gi bs n t r h< (live bs n t r (bQ t r)).length/\(live bs n t r (bQ t r))[gi bs n t r h]? =some h:=by
 obtain⟨k,hk⟩:=dV hh
 have hkl:=(aW.1 hk).1
 unfold gi
 rw [vm (ni t r) hk]
 have e:bQ t r= (bQ t r).take k++h::(bQ t r).drop (k+1):=by
  have h1:=(List.take_append_drop k (bQ t r)).symm
  rw [po hkl,(aW.1 hk).2] at h1;exact h1
 have e2:live bs n t r (bQ t r)=live bs n t r ((bQ t r).take k)++h::live bs n t r ((bQ t r).drop (k+1)):=by
  conv=>lhs;rw [e]
  unfold live
  rw [jL,List.filter_cons,aC hne]
 constructor
 ·rw [e2];simp
 ·rw [e2]
  simp
end
end Go.Gk
namespace Go.Gk
open Go Classical
section
variable {N:Nat}
theorem BD {l:List Nat} (h:l.Nodup) {i j a:Nat} (hi:l[i]? =some a) (hj:l[j]? =some a):i=j:=
 (List.getElem_inj (h₀:=(aW.1 hi).1) (h₁:=(aW.1 hj).1) h).1 (by rw [(aW.1 hi).2,(aW.1 hj).2])
theorem uL {n i k:Nat} {r:Nat->Nat}:i∈cls n r k↔i<n/\r i=k:=by unfold cls;simp
theorem He (n:Nat) (r:Nat->Nat) (k:Nat): (cls n r k).Nodup:=List.Nodup.sublist List.filter_sublist List.nodup_range
structure NR (bs:List cD) (n m:Nat) (r:Nat->Nat) (hs:List Nat) (ofP ofB:List Int):Prop where
 lp:ofP.length=n
 lb:ofB.length=m
 pc: ∀i,i<n->r i∈hs->ofP[i]? =some ((gi bs n (n+m) r (r i):Nat):Int)
 bo: ∀j,j<m->r (n+j)∈hs->ofB[j]? =some (if A1 bs j=true then ((gi bs n (n+m) r (r (n+j)):Nat):Int) else -1)
theorem Ec {bs:List cD} {n m:Nat} {r:Nat->Nat} (hm:bs.length=m) (hn:n<=1073741824) (hm2:m<=1073741824) {op ob:List Int} (hop:op.length=n) (hob:ob.length=m)
  {body:Nat->List cU×List Int×List Int->Option (List cU×List Int×List Int)}
  (hbody:body= (fun(k123:Nat) (s124: (List cU)×(List Int)×(List Int))=>((idx (qc (n+m) r) (k123:Int)).bind fun x455=>(lF x455.length (fun(k458:Nat) (s459: (List Int)×(List Int)×(List Int)×(List Int))=>((idx x455 (k458:Int)).bind fun x556=>(bif (decide (x556< (n:Int))) then ((idx s459.1 x556).bind fun x580=>(app 8 s459.2.2.1 ([x556]: (List Int))).bind fun x582=>some ((s459.1.set (Int.toNat x556) (s124.1.length:Int)),s459.2.1,x582,s459.2.2.2)) else ((idx bs (IntKind.wrap .i64 (x556 - (n:Int)))).bind fun x584=>(bif x584.iO then ((idx s459.2.1 (IntKind.wrap .i64 (x556 - (n:Int)))).bind fun x594=>(app 8 s459.2.2.2 ([(IntKind.wrap .i64 (x556 - (n:Int)))]: (List Int))).bind fun x596=>some ((s459.2.1.set (Int.toNat (IntKind.wrap .i64 (x556 - (n:Int)))) (s124.1.length:Int)),x596)) else ((idx s459.2.1 (IntKind.wrap .i64 (x556 - (n:Int)))).bind fun x598=>some ((s459.2.1.set (Int.toNat (IntKind.wrap .i64 (x556 - (n:Int)))) (-1)),s459.2.2.2))).bind fun s592=>some (s459.1,s592.1,s459.2.2.1,s592.2))).bind fun s577=>some (s577.1,s577.2.1,s577.2.2.1,s577.2.2.2):Option ((List Int)×(List Int)×(List Int)×(List Int)))) (s124.2.1,s124.2.2,([]: (List Int)),([]: (List Int)))).bind fun s459=>(bif (decide ((IntKind.wrap .i64 ((s459.2.2.1.length:Int)+ (s459.2.2.2.length:Int)))>0)) then ((app 72 s124.1 [(⟨s459.2.2.1,s459.2.2.2,([]: (List fE))⟩:cU)]).bind fun x610=>some x610) else (some s124.1)).bind fun s606=>some (s606,s459.1,s459.2.1):Option ((List cU)×(List Int)×(List Int))))):
  Ok (lF (qc (n+m) r).length body ([],op,ob)) (fun st=>st.1=sj bs n (n+m) r (bQ (n+m) r)/\NR bs n m r (bQ (n+m) r) st.2.1 st.2.2):=by
 subst hbody
 have hsl: (qc (n+m) r).length= (bQ (n+m) r).length:=by unfold qc;simp
 have hhl:=om (n+m) r
 refine Ok.mono (Ok.lF (fun(k:Nat) (st:List cU×List Int×List Int)=>st.1=sj bs n (n+m) r ((bQ (n+m) r).take k)/\NR bs n m r ((bQ (n+m) r).take k) st.2.1 st.2.2) (by omega) ⟨rfl,hop,hob,fun i hi h=>by simp at h,fun j hj h=>by simp at h⟩ (fun k st hk hI=>?_)) (fun st h=>by rw [hsl,fw] at h;exact h)
 obtain⟨gs,ofP,ofB⟩:=st
 obtain⟨e1,I⟩:=hI
 dsimp only at e1 I ⊢
 subst e1
 rw [hsl] at hk
 have hkx: (bQ (n+m) r)[k]? =some (bQ (n+m) r)[k]:=aL hk
 have hts: (bQ (n+m) r).take (k+1)= (bQ (n+m) r).take k++[(bQ (n+m) r)[k]]:=eF hk
 have hgk:gi bs n (n+m) r (bQ (n+m) r)[k]= (sj bs n (n+m) r ((bQ (n+m) r).take k)).length:=by
  unfold gi;rw [vm (ni _ _) hkx,w8]
 generalize hh: (bQ (n+m) r)[k]=h at *
 have hsx: (qc (n+m) r)[k]? =some (ints (cls (n+m) r h)):=by unfold qc;rw [gJ,hkx];rfl
 refine Ok.ix hsx ?_
 have hcl:=CC (n+m) r h
 rw [nE]
 have hgl: (sj bs n (n+m) r ((bQ (n+m) r).take k)).length<=n+m:=by
  rw [w8]
  have:=w9 bs n (n+m) r ((bQ (n+m) r).take k)
  rw [cI] at this;omega
 have hold: ∀i∈cls (n+m) r h,∀i',r i'∈(bQ (n+m) r).take k->i≠i':=fun i hi i' hi' e=>by
  subst e
  rw [(uL.1 hi).2] at hi'
  obtain⟨j,hj⟩:=dV hi'
  have hjk:j<k:=by have:=(aW.1 hj).1;rw [cI] at this;omega
  rw [List.getElem?_take_of_lt hjk] at hj
  have:=BD (ni (n+m) r) hj hkx
  omega
 refine Ok.bind (P:=fun s'=>NR bs n m r ((bQ (n+m) r).take (k+1)) s'.1 s'.2.1/\s'.2.2.1=ints (gP n (cls (n+m) r h))/\s'.2.2.2=ints (gB bs n (cls (n+m) r h))) (Ok.mono (Ok.lF
  (fun(t:Nat) (s':List Int×List Int×List Int×List Int)=>NR bs n m r ((bQ (n+m) r).take k) s'.1 s'.2.1/\s'.2.2.1=ints (gP n ((cls (n+m) r h).take t))/\s'.2.2.2=ints (gB bs n ((cls (n+m) r h).take t))/\
   (∀i∈(cls (n+m) r h).take t,i<n->s'.1[i]? =some ((gi bs n (n+m) r h:Nat):Int))/\∀i∈(cls (n+m) r h).take t,¬i<n->s'.2.1[i - n]? =some (if A1 bs (i - n)=true then ((gi bs n (n+m) r h:Nat):Int) else -1)) (by omega)
   ⟨I,rfl,rfl,fun i hi=>by simp at hi,fun i hi=>by simp at hi⟩ (fun t s' ht hI'=>?_)) ?_) ?_
 ·obtain⟨oP,oB,pp,bb⟩:=s'
  obtain⟨J,e2,e3,J1,J2⟩:=hI'
  dsimp only at J e2 e3 J1 J2 ⊢
  subst e2;subst e3
  have htx: (ints (cls (n+m) r h))[t]? =some (((cls (n+m) r h)[t]:Nat):Int):=by unfold ints;rw [gJ,aL ht];rfl
  refine Ok.ix htx ?_
  have htt: (cls (n+m) r h).take (t+1)= (cls (n+m) r h).take t++[(cls (n+m) r h)[t]]:=eF ht
  have hcm:=cO ht
  have hdist: ∀i∈(cls (n+m) r h).take t,i≠(cls (n+m) r h)[t]:=fun i hi e=>by
   obtain⟨j,hj⟩:=dV hi
   have hjt:j<t:=by have:=(aW.1 hj).1;rw [cI] at this;omega
   rw [List.getElem?_take_of_lt hjt] at hj
   have:=BD (He (n+m) r h) hj (by rw [e];exact aL ht)
   omega
  generalize (cls (n+m) r h)[t]=c at *
  obtain⟨hc1,hc2⟩:=uL.1 hcm
  have hgp:=I9 n ((cls (n+m) r h).take t)
  have hgb:=Ja bs n ((cls (n+m) r h).take t)
  rw [cI] at hgp hgb
  by_cases hcn:c<n
  ·rw [bG (by omega: ((c:Nat):Int)< ((n:Nat):Int)),aO]
   refine Ok.bind (P:=fun x=>x= (oP.set c ((gi bs n (n+m) r h:Nat):Int),oB,ints (gP n ((cls (n+m) r h).take t))++[((c:Nat):Int)],ints (gB bs n ((cls (n+m) r h).take t)))) ?_ ?_
   ·refine Ok.idx (by rw [J.lp];exact hcn) (Ok.app (by rw [nE];simp;omega) (Ok.ret ?_))
    rw [bX,hgk]
   ·rintro _ rfl
    refine Ok.ret ⟨⟨by simp [J.lp],J.lb,fun i hi hr=>?_,J.bo⟩,?_,?_,fun i hi hin=>?_,fun i hi hin=>?_⟩
    ·dsimp only
     rw [mY (by rw [J.lp];exact hcn),aD (fun e=>hold c hcm i hr e.symm)];exact J.pc i hi hr
    ·dsimp only;rw [htt,Gl,aC hcn,uc];rfl
    ·dsimp only;rw [htt,Gm,aC hcn]
    ·dsimp only
     rw [mY (by rw [J.lp];exact hcn)]
     split
     ·rfl
     ·rename_i hne
      rw [htt] at hi
      rcases cY.1 hi with hi | hi
      ·exact J1 i hi hin
      ·exact absurd (by simpa using hi) hne
    ·rw [htt] at hi
     rcases cY.1 hi with hi | hi
     ·exact J2 i hi hin
     ·have:i=c:=by simpa using hi
      subst this;exact absurd hcn hin
  ·rw [bI (by omega: ¬((c:Nat):Int)< ((n:Nat):Int)),aN]
   have hw:IntKind.wrap .i64 (((c:Nat):Int) - ((n:Nat):Int))= ((c - n:Nat):Int):=by rw [eE (by omega) (by omega)];omega
   have hcm2:c - n<bs.length:=by omega
   have hpl:A1 bs (c - n)=bs[c - n].iO:=by unfold A1;rw [aL hcm2];rfl
   rw [hw]
   refine Ok.bind (P:=fun x=>x= (oP,oB.set (c - n) (if A1 bs (c - n)=true then ((gi bs n (n+m) r h:Nat):Int) else -1),ints (gP n ((cls (n+m) r h).take t)),ints (gB bs n ((cls (n+m) r h).take t++[c])))) ?_ ?_
   ·refine Ok.idx hcm2 ?_
    rw [Gm,aD hcn,hpl]
    cases hp:bs[c - n].iO with
    | true=>
     rw [aO,aC rfl,aC rfl]
     refine Ok.eq (x:=(oB.set (c - n) ((gi bs n (n+m) r h:Nat):Int),ints (gB bs n ((cls (n+m) r h).take t)++[c - n]))) ?_ (Ok.ret rfl)
     rw [ke _ _ (by rw [J.lb];omega),aB,jX (by rw [nE];simp;omega),aB,bX,hgk,uc];rfl
    | false=>
     rw [aN,aD (by simp),aD (by simp)]
     refine Ok.eq (x:=(oB.set (c - n) (-1),ints (gB bs n ((cls (n+m) r h).take t)))) ?_ (Ok.ret rfl)
     rw [ke _ _ (by rw [J.lb];omega),aB,bX]
   ·rintro _ rfl
    refine Ok.ret ⟨⟨J.lp,by simp [J.lb],J.pc,fun j hj hr=>?_⟩,?_,?_,fun i hi hin=>?_,fun i hi hin=>?_⟩
    ·dsimp only
     rw [mY (by rw [J.lb];omega),aD (fun e=>hold c hcm (n+j) hr (by omega))];exact J.bo j hj hr
    ·dsimp only;rw [htt,Gl,aD hcn]
    ·dsimp only;rw [htt]
    ·rw [htt] at hi
     rcases cY.1 hi with hi | hi
     ·exact J1 i hi hin
     ·have:i=c:=by simpa using hi
      subst this;exact absurd hin hcn
    ·dsimp only
     rw [mY (by rw [J.lb];omega)]
     split
     ·rename_i e;rw [e]
     ·rename_i hne
      rw [htt] at hi
      rcases cY.1 hi with hi | hi
      ·exact J2 i hi hin
      ·exact absurd (by have:i=c:=(by simpa using hi);rw [this]) hne
 ·rintro⟨oP,oB,pp,bb⟩ ⟨J,e2,e3,J1,J2⟩
  dsimp only at J e2 e3 J1 J2 ⊢
  rw [fw] at e2 e3 J1 J2
  refine⟨⟨J.lp,J.lb,fun i hi hr=>?_,fun j hj hr=>?_⟩,e2,e3⟩
  ·rw [hts] at hr
   rcases cY.1 hr with hr | hr
   ·exact J.pc i hi hr
   ·have hr:r i=h:=by simpa using hr
    rw [hr];exact J1 i (uL.2 ⟨by omega,hr⟩) hi
  ·rw [hts] at hr
   rcases cY.1 hr with hr | hr
   ·exact J.bo j hj hr
   ·have hr:r (n+j)=h:=by simpa using hr
    rw [hr]
    have:=J2 (n+j) (uL.2 ⟨by omega,hr⟩) (by omega)
    rwa [Nat.add_sub_cancel_left] at this
 ·rintro⟨oP,oB,pp,bb⟩ ⟨J,e2,e3⟩
  dsimp only at J e2 e3 ⊢
  subst e2;subst e3
  have hgp:=I9 n (cls (n+m) r h)
  have hgb:=Ja bs n (cls (n+m) r h)
  rw [nE,nE,wrap_add (by omega)]
  have hgs:sj bs n (n+m) r ((bQ (n+m) r).take (k+1))=if I8 bs n (cls (n+m) r h)=true then sj bs n (n+m) r ((bQ (n+m) r).take k)++[Pw bs n (cls (n+m) r h)] else sj bs n (n+m) r ((bQ (n+m) r).take k):=by
   unfold sj
   rw [hts,Hd]
   split
   ·rw [dU];rfl
   ·rfl
  refine Ok.bind (P:=fun x=>x=sj bs n (n+m) r ((bQ (n+m) r).take (k+1))) (Ok.bif (fun hb=>?_) (fun hb=>Ok.ret ?_)) (fun x e=>Ok.ret ⟨e,J⟩)
  ·have hne:I8 bs n (cls (n+m) r h)=true:=bG (by have:=of_decide_eq_true hb;omega)
   refine Ok.app (by simp;omega) (Ok.ret ?_)
   rw [hgs,aC hne];rfl
  ·have hne: ¬I8 bs n (cls (n+m) r h)=true:=fun h'=>by
    have h1:=of_decide_eq_true h'
    have h2:=of_decide_eq_false hb
    omega
   rw [hgs,aD hne]
end
end Go.Gk
namespace Go.Gk
open Go Classical
section
variable {N:Nat}
def i9 (n:Nat) (h:fJ):Nat:=if h.cD=true then n+h.Number.toNat else h.Number.toNat
structure KY (bs:List cD) (n m:Nat) (h:fJ):Prop where
 num: ∃k:Nat,h.Number= ((k:Nat):Int)/\(h.cD=true->k<m/\A1 bs k=true)/\(h.cD=false->k<n)
theorem Fg {bs:List cD} {pcs:List aJ} {l:dD} {h:fJ} (hh:qs bs pcs l=some h):KY bs pcs.length bs.length h:=by
 unfold qs at hh
 cases hf:bs.findIdx? (vW l) with
 | some k=>
  rw [hf] at hh
  injection hh with hh;subst hh
  obtain⟨hk,hp,_⟩:=List.findIdx?_eq_some_iff_getElem.1 hf
  refine⟨k,rfl,fun _=>⟨hk,?_⟩,fun h=>by cases h⟩
  unfold vW at hp
  unfold A1
  rw [aL hk]
  rw [bR] at hp
  exact hp.1
 | none=>
  rw [hf] at hh
  dsimp only at hh
  rw [Option.map_eq_some_iff] at hh
  obtain⟨k,hk,rfl⟩:=hh
  obtain⟨hk,_⟩:=List.findIdx?_eq_some_iff_getElem.1 hk
  exact⟨k,rfl,fun h=>(by cases h),fun _=>hk⟩
def xc (bs:List cD) (pcs:List aJ) (r:Nat->Nat) (l:dD):Option Nat:=(qs bs pcs l).map fun h=>gi bs pcs.length (pcs.length+bs.length) r (r (i9 pcs.length h))
def HA (bs:List cD) (pcs:List aJ) (r:Nat->Nat) (l:dD):Int:=match xc bs pcs r l with | some g=>((g:Nat):Int) | none=> -1
def jr (gs:List cU) (lg:dD->Option Nat) (ls:List dD):List cU:=gs.mapIdx (fun g x=>{x with jC:=(ls.filter (fun l=>decide (lg l=some g))).map jw})
theorem kS {gs:List cU} {lg:dD->Option Nat} {ls:List dD} {g:Nat}: (jr gs lg ls)[g]? = (gs[g]?).map fun x=>{x with jC:=(ls.filter (fun l=>decide (lg l=some g))).map jw}:=by
 unfold jr;rw [List.getElem?_mapIdx]
theorem CG (gs:List cU) (lg:dD->Option Nat) (ls:List dD): (jr gs lg ls).length=gs.length:=by unfold jr;rw [List.length_mapIdx]
theorem A2 {gs:List cU} {lg:dD->Option Nat} {ls:List dD} {l:dD} (h:lg l=none):jr gs lg (ls++[l])=jr gs lg ls:=by
 apply List.ext_getElem?
 intro g
 rw [kS,kS]
 congr 2
 funext x
 rw [jL]
 simp [h]
theorem CH {gs:List cU} {lg:dD->Option Nat} {ls:List dD} {l:dD} {k:Nat} {x:cU} (h:lg l=some k) (hx: (jr gs lg ls)[k]? =some x):
  (jr gs lg ls).set k {x with jC:=x.jC++[jw l]}=jr gs lg (ls++[l]):=by
 apply List.ext_getElem?
 intro g
 have hk:=(aW.1 hx).1
 rw [fB]
 by_cases e:k=g
 ·subst e
  rw [aC rfl,aC hk,kS]
  rw [kS,Option.map_eq_some_iff] at hx
  obtain⟨y,hy,rfl⟩:=hx
  rw [hy,jL]
  simp [h]
 ·rw [aD e,kS,kS]
  congr 2
  funext x
  rw [jL]
  have: ¬(lg l=some g):=by rw [h];intro h';injection h' with h';exact e h'
  simp [this]
theorem KZ {bs:List cD} {n t:Nat} {r:Nat->Nat} {i:Nat} (hi:i<n) (ht:i<t):I8 bs n (cls t r (r i))=true:=by
 unfold I8
 rw [bB]
 have:i∈gP n (cls t r (r i)):=ka.2 ⟨uL.2 ⟨ht,rfl⟩,by simpa using hi⟩
 have:=List.length_pos_of_mem this
 omega
theorem K0 {bs:List cD} {n t:Nat} {r:Nat->Nat} {j:Nat} (hp:A1 bs j=true) (ht:n+j<t):I8 bs n (cls t r (r (n+j)))=true:=by
 unfold I8
 rw [bB]
 have:j∈gB bs n (cls t r (r (n+j))):=cS.2 ⟨n+j,ka.2 ⟨uL.2 ⟨ht,rfl⟩,by simp [hp]⟩,by omega⟩
 have:=List.length_pos_of_mem this
 omega
structure Fh (bs:List cD) (ls:List dD) (pcs:List aJ) (r:Nat->Nat) (gs:List cU) (ofP ofB pg:List Int) (oW:List fJ):Prop where
 conn:A0 pcs.length bs.length (nj bs pcs) r
 gs:gs=jr (sj bs pcs.length (pcs.length+bs.length) r (bQ (pcs.length+bs.length) r)) (xc bs pcs r) ls
 of:NR bs pcs.length bs.length r (bQ (pcs.length+bs.length) r) ofP ofB
 pg:pg=ls.map (HA bs pcs r)
 oW:oW=ls.map (fun l=>(qs bs pcs l).getD ⟨false,0⟩)
theorem Ed {bs:List cD} {pcs:List aJ} (hp:pcs.length<=1073741824): ∀l∈nj bs pcs,l.length<=1073741824/\∀x∈l,∃i:Nat,i<pcs.length/\x= ((i:Nat):Int):=by
 intro l hl
 unfold nj at hl
 obtain⟨b,_,rfl⟩:=cS.1 hl
 have:=BB (nF b) pcs pcs.length
 refine⟨by rw [nE];omega,fun x hx=>?_⟩
 obtain⟨i,hi,rfl⟩:=Ad.1 hx
 exact⟨i,(Hc.1 hi).1,rfl⟩
theorem CI {bs:List cD} {ls:List dD} {pcs:List aJ} (hb:mB bs) (hp:pcs.length<=1000000000) (hr: ∀p∈pcs,p.o4.length<=1073741824) (hl:ls.length<=1073741824) (hN:4398046511104<=N):
  Ok (fF N bs ls pcs (nj bs pcs) [] [] [] []) (fun x=>∃r,Fh bs ls pcs r x.1 x.2.1 x.2.2.1 x.2.2.2.1 x.2.2.2.2):=by
 have hbl:=hb.len
 unfold fF
 rw [wrap_add (by omega)]
 obtain⟨up0,u1,u2⟩:=yt (N:=N) (n:=pcs.length+bs.length) (by omega)
 refine Ok.eq u1 ?_
 refine Ok.bind (BC (n:=pcs.length) (m:=bs.length) (by unfold nj;simp) (Ed (by omega)) (by omega) (by omega) u2 hN) ?_
 rintro up1 ⟨r,v1,v2⟩
 refine Ok.eq (nC 0 (by omega)) (Ok.eq (nC 0 (by omega)) ?_)
 obtain⟨up2,w1,_⟩:=Kc (N:=N) v1 (by omega) (by omega)
 refine Ok.eq w1 ?_
 refine Ok.bind (Ec (bs:=bs) (n:=pcs.length) (m:=bs.length) (r:=r) rfl (by omega) (by omega) (op:=List.replicate pcs.length 0) (ob:=List.replicate bs.length 0) (by simp) (by simp) rfl) ?_
 rintro⟨gs,ofP,ofB⟩ ⟨e1,I⟩
 dsimp only at e1 I ⊢
 subst e1
 have hgl: (sj bs pcs.length (pcs.length+bs.length) r (bQ (pcs.length+bs.length) r)).length<=pcs.length+bs.length:=by
  rw [w8]
  have:=w9 bs pcs.length (pcs.length+bs.length) r (bQ (pcs.length+bs.length) r)
  have:=om (pcs.length+bs.length) r
  omega
 refine Ok.bind (Ok.lF (fun(k:Nat) (st:List cU×List Int×List Int×List Int×List fJ)=>st= (jr (sj bs pcs.length (pcs.length+bs.length) r (bQ (pcs.length+bs.length) r)) (xc bs pcs r) (ls.take k),ofP,ofB,(ls.take k).map (HA bs pcs r),(ls.take k).map (fun l=>(qs bs pcs l).getD ⟨false,0⟩))) (by omega) ?_ (fun k st hk e=>?_)) ?_
 ·congr 1
  unfold jr
  apply List.ext_getElem?
  intro g
  rw [List.getElem?_mapIdx]
  unfold sj
  rw [gJ]
  cases (live bs pcs.length (pcs.length+bs.length) r (bQ (pcs.length+bs.length) r))[g]? <;> rfl
 ·subst e
  dsimp only
  have hts:ls.take (k+1)=ls.take k++[ls[k]]:=eF hk
  refine Ok.idx hk (Ok.eq (I0 hb (by omega) hr _) ?_)
  dsimp only
  refine Ok.bind (P:=fun x=>x= (jr (sj bs pcs.length (pcs.length+bs.length) r (bQ (pcs.length+bs.length) r)) (xc bs pcs r) (ls.take k++[ls[k]]),HA bs pcs r ls[k])) ?_ ?_
  ·cases hh:qs bs pcs ls[k] with
   | none=>
    refine Ok.ret ?_
    have h1:xc bs pcs r ls[k]=none:=by unfold xc;rw [hh];rfl
    rw [A2 h1]
    unfold HA;rw [h1]
   | some h=>
    have h1:xc bs pcs r ls[k]=some (gi bs pcs.length (pcs.length+bs.length) r (r (i9 pcs.length h))):=by unfold xc;rw [hh];rfl
    have h2:HA bs pcs r ls[k]= ((gi bs pcs.length (pcs.length+bs.length) r (r (i9 pcs.length h)):Nat):Int):=by unfold HA;rw [h1]
    obtain⟨q,q1,q2,q3⟩:=(Fg hh).num
    have hix:i9 pcs.length h<pcs.length+bs.length/\I8 bs pcs.length (cls (pcs.length+bs.length) r (r (i9 pcs.length h)))=true/\gA N ofP ofB h=some ((gi bs pcs.length (pcs.length+bs.length) r (r (i9 pcs.length h)):Nat):Int):=by
     unfold gA i9
     rw [q1,bX]
     cases hbo:h.cD with
     | true=>
      obtain⟨q4,q5⟩:=q2 hbo
      rw [aO,aC rfl]
      refine⟨by omega,K0 q5 (by omega),?_⟩
      have:=I.bo q q4 (iK.2 ⟨by have:=v2.le (pcs.length+q) (by omega);omega,v2.rr _ (by omega)⟩)
      rw [aC q5] at this
      rw [dY this,aB]
     | false=>
      have q4:=q3 hbo
      rw [aN,aD (by simp)]
      refine⟨by omega,KZ q4 (by omega),?_⟩
      have:=I.pc q q4 (iK.2 ⟨by have:=v2.le q (by omega);omega,v2.rr _ (by omega)⟩)
      rw [dY this,aB]
    obtain⟨i1,i2,i3⟩:=hix
    have hgi:=Jb (r:=r) (t:=pcs.length+bs.length) (bs:=bs) (n:=pcs.length) (h:=r (i9 pcs.length h)) (iK.2 ⟨by have:=v2.le _ i1;omega,v2.rr _ i1⟩) i2
    have hgx:gi bs pcs.length (pcs.length+bs.length) r (r (i9 pcs.length h))< (jr (sj bs pcs.length (pcs.length+bs.length) r (bQ (pcs.length+bs.length) r)) (xc bs pcs r) (ls.take k)).length:=by
     rw [CG,w8];exact hgi.1
    rw [h2]
    dsimp only [Option.getD,Option.isSome]
    rw [aO]
    refine Ok.eq i3 ?_
    generalize gi bs pcs.length (pcs.length+bs.length) r (r (i9 pcs.length h))=g at *
    refine Ok.idx hgx (Ok.eq (x5 _) ?_)
    have hpl: ((jr (sj bs pcs.length (pcs.length+bs.length) r (bQ (pcs.length+bs.length) r)) (xc bs pcs r) (ls.take k))[g]).jC.length<=ls.length:=by
     have:=kS (gs:=sj bs pcs.length (pcs.length+bs.length) r (bQ (pcs.length+bs.length) r)) (lg:=xc bs pcs r) (ls:=ls.take k) (g:=g)
     rw [aL hgx] at this
     have:=this.symm
     rw [Option.map_eq_some_iff] at this
     obtain⟨y,_,hy⟩:=this
     rw [<-hy,dN]
     have:=nn (fun l=>decide (xc bs pcs r l=some g)) (ls.take k)
     rw [cI] at this;omega
    refine Ok.app (by simp;omega) (Ok.idx hgx (Ok.ret ?_))
    rw [bX]
    congr 1
    exact CH h1 (aL hgx)
  ·rintro _ rfl
   dsimp only
   refine Ok.app (by simp;omega) (Ok.app (by simp;omega) (Ok.ret ?_))
   rw [hts,dU,dU];rfl
 ·rintro st rfl
  dsimp only
  rw [fw]
  exact Ok.ret ⟨r,v2,rfl,I,rfl,rfl⟩
end
end Go.Gk
namespace Go.Gk
open Go Classical
section
variable {N:Nat}
theorem BE {p:aJ}: ∀{fP:List (List (List aA))} {k:Nat},p∈dR k fP->∃(i:Nat) (ps:List (List aA)) (q:List aA),fP[i]? =some ps/\q∈ps/\p= ⟨((k+i:Nat):Int),q,aP q⟩
 | [],k,h=>by cases h
 | ps::fP,k,h=>by
  rcases cY.1 h with h | h
  ·obtain⟨q,hq,rfl⟩:=cS.1 h
   exact⟨0,ps,q,rfl,hq,rfl⟩
  ·obtain⟨i,ps',q,h1,h2,h3⟩:=BE h
   refine⟨i+1,ps',q,by simpa using h1,h2,?_⟩
   rw [h3,show k+1+i=k+ (i+1) by omega]
structure ox (a:fz):Prop where
 AZ:0<a.aI.length/\a.aI.length<=16
 Px: ∀r∈a.aI,gU r=0
 out:gU a.cQ=0
 many:a.cQ.length+ (a.aI.map List.length).sum<=2000
 xd:gR a=0
 vn:kB a=0
theorem ox.gb {a:fz} (h:ox a):mB a.aQ:=⟨(lv h.xd).1,fun b hb=>⟨((lv h.xd).2 b hb).1,((lv h.xd).2 b hb).2.1⟩⟩
theorem ox.cs {a:fz} (h:ox a): ∀r∈a.aI,r.length<=2000/\∀x∈r,Bs x:=fun r hr=>CF (qI.1 (h.Px r hr)).1
structure xe (a:fz) (k9:List (List aA)) (fP:List (List (List aA))) (p:aJ) (i:Nat) (r:List aH) (s:List aA) (ps:List (List aA)) (u:Nat->Nat) (j k:Nat):Prop where
 PO:a.aI[i]? =some r
 k9:k9[i]? =some s
 fP:fP[i]? =some ps
 dr:si r (j5 a.aQ ((i:Nat):Int)) s
 pt:qF s u ps
 at_:ps[j]? =some p.Set
 head: (bQ (aP s).length u)[j]? =some k
 set:pZ (mH (aP s) (aP s).length u k) p.Set
 lim:v9 (rF r++rF (j5 a.aQ ((i:Nat):Int))) (iu r++iu (j5 a.aQ ((i:Nat):Int))) (p.Set.map bT)
 NS:p.eV= ((i:Nat):Int)
 NT:p.o4=aP p.Set
theorem Jc {a:fz} {k9:List (List aA)} {fP:List (List (List aA))} (hg:ox a) (hD:t8 a.aI a.aQ a.aI.length k9 fP) {p:aJ} (hp:p∈dR 0 fP): ∃i r s ps u j k,xe a k9 fP p i r s ps u j k:=by
 obtain⟨i,ps,q,h1,h2,rfl⟩:=BE hp
 have hil:i<a.aI.length:=by have:=(aW.1 h1).1;rw [hD.AY] at this;exact this
 have hc:a.aI[i]? =some a.aI[i]:=aL hil
 have hd:k9[i]? =some (k9[i]'(by rw [hD.len];exact hil)):=aL _
 have hdr:=hD.dr i _ _ hil hc hd
 obtain⟨u,hu⟩:=hD.pt i _ ps hil hd h1
 obtain⟨sx,sy⟩:=hdr.small (hg.cs _ (cO hil)).2 (fun x hx=>(t7 hg.gb _ x hx).1)
 obtain⟨j,k,g1,g2,g3,g4⟩:=Ac hu hdr.can hdr.lim sx sy h2
 exact⟨i,_,_,ps,u,j,k,hc,hd,h1,hdr,hu,g1,g2,g3,g4,by rw [fM],rfl⟩
theorem xe.D8 {a:fz} {k9:List (List aA)} {fP:List (List (List aA))} (hg:ox a) {p:aJ} {i:Nat} {r:List aH} {s:List aA} {ps:List (List aA)} {u:Nat->Nat} {j k:Nat} (h:xe a k9 fP p i r s ps u j k):
  p.Set.length<=5000/\(∀b∈p.Set,b.Xs.length<=5000)/\p.o4.length<=5000*5000:=by
 have h1:=(hg.cs r (eW h.PO)).1
 have h2:=x6 hg.gb ((i:Nat):Int)
 rw [h.NT]
 exact uK (A:=5000) h.set.can h.lim (by rw [cR,k6,k6];omega) (by rw [cR,iD,iD];omega)
def xf (a0 a1 b0 b1:Int):Bool:=decide (b0<a1)&&decide (a0<b1)
def Ee (a b:aH):Bool:=xf a.X0 a.X1 b.X0 b.X1&&xf a.Y0 a.Y1 b.Y0 b.Y1
theorem Ae {a0 a1 b0 b1:Int} (h1: -1000000<=a0/\a0<=1000000) (h2: -1000000<=a1/\a1<=1000000) (h3: -1000000<=b0/\b0<=1000000) (h4: -1000000<=b1/\b1<=1000000): ∃n,ln N a0 a1 b0 b1=some n/\0<=n/\(n=0↔xf a0 a1 b0 b1=true):=by
 unfold ln xf
 have e1:IntKind.wrap .i64 (b0 - a1)=b0 - a1:=eE (by omega) (by omega)
 have e2:IntKind.wrap .i64 (a0 - b1)=a0 - b1:=eE (by omega) (by omega)
 have e3:IntKind.wrap .i64 (b0 - a1+1)=b0 - a1+1:=eE (by omega) (by omega)
 have e4:IntKind.wrap .i64 (a0 - b1+1)=a0 - b1+1:=eE (by omega) (by omega)
 rw [e1,e2,e3,e4]
 refine⟨_,rfl,?_,?_⟩
 ·repeat' split
  all_goals omega
 ·rw [bR,bB,bB]
  repeat' split
  all_goals omega
theorem LU {a b:aH} (h1:eU a=true) (h2:eU b=true): ∃n,q9 N a b=some n/\(n=0↔Ee a b=true):=by
 have b1:=mc h1
 have b2:=mc h2
 obtain⟨n,n1,n2,n3⟩:=Ae (N:=N) (a0:=a.X0) (a1:=a.X1) (b0:=b.X0) (b1:=b.X1) (by omega) (by omega) (by omega) (by omega)
 obtain⟨m,m1,m2,m3⟩:=Ae (N:=N) (a0:=a.Y0) (a1:=a.Y1) (b0:=b.Y0) (b1:=b.Y1) (by omega) (by omega) (by omega) (by omega)
 unfold q9 Ee
 rw [n1,aB,m1,aB]
 refine⟨_,rfl,?_⟩
 rw [bR,<-n3,<-m3]
 split <;> omega
def qd (x y:cD):Bool:=(decide (x.cZ<=y.To)&&decide (y.cZ<=x.To))&&Ee (tX x) (tX y)
def ph (a:fz):Prop:=∃(i k:Nat) (x y:cD),k<i/\a.aQ[i]? =some x/\a.aQ[k]? =some y/\qd x y=true
noncomputable def rJ (r:List aH):Option Int:=if gU r≠0 then some (gU r) else none
noncomputable def A3 (a:fz):Int:=if 2000<a.cQ.length+ (a.aI.map List.length).sum then 2 else if gR a≠0 then gR a else if kB a≠0 then kB a else if ph a then 12 else 0
noncomputable def Hf (a:fz):Int:=match a.aI.findSome? rJ with | some e=>e | none=>if gU a.cQ≠0 then gU a.cQ else A3 a
noncomputable def iX (a:fz):Int:=if a.aI.length=0 then 9 else if 16<a.aI.length then 2 else Hf a
def L6 (k9:List (List aA)) (fP:List (List (List aA))):Prop:=(∀s∈k9,(aP s).length<=2000)/\(dR 0 fP).length<=2000
abbrev Af:=(List (List aH))×(List aH)×(List cD)×(List dD)×(List (List aA))×(List aJ)×(List (List Int))×(List cU)×(List Int)×(List Int)×(List Int)×(List fJ)
def K1 (a:fz) (x:Option Af×Int):Prop:=
 (iX a≠0/\x= (none,iX a))\/(iX a=0/\ox a/\¬ph a/\∃k9 fP,t8 a.aI a.aQ a.aI.length k9 fP/\
  ((¬L6 k9 fP/\x= (none,2))\/(L6 k9 fP/\∃r gs ofP ofB pg oW,Fh a.aQ a.bL (dR 0 fP) r gs ofP ofB pg oW/\
   x= (some (a.aI,a.cQ,a.aQ,a.bL,k9,dR 0 fP,nj a.aQ (dR 0 fP),gs,ofP,ofB,pg,oW),0))))
structure rK (a:fz):Prop where
 cs:a.aI.length<=1048576
 each: ∀r∈a.aI,r.length<=1048576
 out:a.cQ.length<=1048576
 bs:a.aQ.length<=1048576
 ls:a.bL.length<=1048576
 nm:Aa a
theorem Ef {a:fz} (h:bk a<=1048576):rK a:=by
 rw [ID] at h
 have h1:=tz a.aI
 have h2:=tz a.cQ
 have h3:=tz a.aQ
 have h4:=tz a.bL
 refine⟨by omega,fun r hr=>?_,by omega,by omega,by omega,fun x hx=>?_⟩
 ·have:=EZ hr
  have:=tz r;omega
 ·have:=EZ hx
  rw [F8,Ix,Ix] at this;omega
theorem x8 {a:fz} (hs:rK a) (hN:4398046511104<=N):Ok (gC N a) (K1 a):=by
 unfold gC
 have pe: ∀e:Int,e≠0->iX a=e->Ok (some ((none:Option Af),e)) (K1 a):=fun e he h=>Ok.ret (.inl ⟨by rw [h];exact he,by rw [h]⟩)
 have c1:=hs.cs
 refine Ok.bif (fun h=>?_) (fun h=>?_)
 ·have:a.aI.length=0:=by have:=beq_iff_eq.1 h;omega
  exact pe 9 (by omega) (by unfold iX;rw [aC this])
 have h0: ¬a.aI.length=0:=by rw [beq_eq_false_iff_ne] at h;omega
 refine Ok.bif (fun h=>?_) (fun h=>?_)
 ·have h1:16<a.aI.length:=by have:=of_decide_eq_true h;omega
  exact pe 2 (by omega) (by unfold iX;rw [aD h0,aC h1])
 have h1: ¬16<a.aI.length:=by have:=of_decide_eq_false h;omega
 have pe1:iX a=Hf a:=by unfold iX;rw [aD h0,aD h1]
 have hso:=hs.out
 have sumle: ∀k,k<=a.aI.length->((a.aI.take k).map List.length).sum<=k*1048576:=by
  intro k
  induction k with
  | zero=>intro _;simp
  | succ k ih=>
   intro hk
   have:=ih (by omega)
   have h2:=hs.each _ (cO (show k<a.aI.length by omega))
   rw [eF (by omega),dU,List.sum_append]
   simp only [dI,List.map_nil,List.sum_cons,List.sum_nil]
   rw [Nat.add_mul];omega
 refine Ok.bind (Ok.qX (Go:=fun s:Int=>s= ((a.cQ.length+ (a.aI.map List.length).sum:Nat):Int)/\∀r∈a.aI,gU r=0) (Rt:=fun x:Option Af×Int=>∃e,e≠0/\x= (none,e)/\a.aI.findSome? rJ=some e)
  (fun(k:Nat) (s:Int)=>s= ((a.cQ.length+ ((a.aI.take k).map List.length).sum:Nat):Int)/\∀r∈a.aI.take k,gU r=0) (by omega) ⟨by simp,fun r hr=>by simp at hr⟩ (fun k s hk hI=>?_) (fun s hI=>by rw [fw] at hI;exact hI)) ?_
 ·obtain⟨e,hI⟩:=hI
  subst e
  have hkx:a.aI[k]? =some a.aI[k]:=aL hk
  have hts:a.aI.take (k+1)=a.aI.take k++[a.aI[k]]:=eF hk
  have he:=hs.each _ (cO hk)
  refine Ok.ix hkx (Ok.eq (tZ (by omega) hN) ?_)
  refine Ok.bif (fun h=>Ok.rt ?_) (fun h=>Ok.nx ?_)
  ·have h:gU a.aI[k]≠0:=by simpa using h
   refine⟨_,h,rfl,?_⟩
   rw [List.findSome?_eq_some_iff]
   refine⟨a.aI.take k,a.aI[k],a.aI.drop (k+1),?_,by unfold rJ;rw [aC h],fun r hr=>by unfold rJ;rw [aD (by simpa using hI r hr)]⟩
   rw [<-po hk,List.take_append_drop]
  ·have h:gU a.aI[k]=0:=by simpa using h
   have:=sumle k (by omega)
   have hk16:k*1048576<=16*1048576:=Nat.mul_le_mul_right _ (by omega)
   refine⟨?_,fun r hr=>?_⟩
   ·rw [wrap_add (by omega),hts,dU,List.sum_append]
    simp only [dI,List.map_nil,List.sum_cons,List.sum_nil]
    congr 1
    omega
   ·rw [hts] at hr
    rcases cY.1 hr with hr | hr
    ·exact hI r hr
    ·simp at hr;subst hr;exact h
 intro o ho
 refine Ok.cs ho ?_ ?_
 rotate_left
 ·rintro x ⟨e,he,rfl,hf⟩
  exact pe e he (by rw [pe1];unfold Hf;rw [hf])
 rintro s ⟨rfl,hreg⟩
 have N3:a.aI.findSome? rJ=none:=List.findSome?_eq_none_iff.2 fun r hr=>by unfold rJ;rw [aD (by simpa using hreg r hr)]
 have pe2:iX a=if gU a.cQ≠0 then gU a.cQ else A3 a:=by rw [pe1];unfold Hf;rw [N3]
 refine Ok.eq (tZ (by omega) hN) ?_
 refine Ok.bif (fun h=>?_) (fun h=>?_)
 ·have h:gU a.cQ≠0:=by simpa using h
  exact pe _ h (by rw [pe2,aC h])
 have hout:gU a.cQ=0:=by simpa using h
 have pe3:iX a=A3 a:=by rw [pe2,aD (by simpa using hout)]
 refine Ok.bif (fun h=>?_) (fun h=>?_)
 ·have h:2000<a.cQ.length+ (a.aI.map List.length).sum:=by have:=of_decide_eq_true h;omega
  exact pe 2 (by omega) (by rw [pe3];unfold A3;rw [aC h])
 have hmany: ¬2000<a.cQ.length+ (a.aI.map List.length).sum:=by have:=of_decide_eq_false h;omega
 have hbs:=hs.bs
 have hls:=hs.ls
 refine Ok.eq (AV (by omega) (by omega) (by omega)) ?_
 refine Ok.bif (fun h=>?_) (fun h=>?_)
 ·have h:gR a≠0:=by simpa using h
  exact pe _ h (by rw [pe3];unfold A3;rw [aD hmany,aC h])
 have hbo:gR a=0:=by simpa using h
 refine Ok.eq (AW (by omega) (by omega) hs.nm (by omega)) ?_
 refine Ok.bif (fun h=>?_) (fun h=>?_)
 ·have h:kB a≠0:=by simpa using h
  exact pe _ h (by rw [pe3];unfold A3;rw [aD hmany,aD (by simpa using hbo),aC h])
 have hla:kB a=0:=by simpa using h
 have hg:ox a:=⟨by omega,hreg,hout,by omega,hbo,hla⟩
 have pe4:iX a=if ph a then 12 else 0:=by rw [pe3];unfold A3;rw [aD hmany,aD (by simpa using hbo),aD (by simpa using hla)]
 refine Ok.bind (Ok.qX (Go:=fun _:Unit=>¬ph a) (Rt:=fun x:Option Af×Int=>x= (none,12)/\ph a)
  (fun(k:Nat) (_:Unit)=>∀(i j:Nat) (x y:cD),i<k->j<i->a.aQ[i]? =some x->a.aQ[j]? =some y->¬qd x y=true) (by omega) (fun i j x y h=>by omega) (fun k s hk hI=>?_) (fun s hI=>?_)) ?_
 ·have hkx:a.aQ[k]? =some a.aQ[k]:=aL hk
  refine Ok.ix hkx (Ok.eq (rm _ k (by omega)) ?_)
  have hgk:=hg.gb.ok _ (cO hk)
  refine Ok.bind (Ok.qX (Go:=fun _:Unit=>∀(j:Nat) (y:cD),j<k->a.aQ[j]? =some y->¬qd a.aQ[k] y=true) (Rt:=fun x:Option Af×Int=>x= (none,12)/\ph a)
   (fun(t:Nat) (_:Unit)=>∀(j:Nat) (y:cD),j<t->a.aQ[j]? =some y->¬qd a.aQ[k] y=true) (by rw [cI];omega) (fun j y h=>by omega) (fun t s ht hI2=>?_) (fun s hI2 j y hj hy=>hI2 j y (by rw [cI];omega) hy)) ?_
  ·have htk:t<k:=by rw [cI] at ht;omega
   have htx: (a.aQ.take k)[t]? =some a.aQ[t]:=by rw [List.getElem?_take_of_lt htk];exact aL (by omega)
   have hgt:=hg.gb.ok _ (cO (show t<a.aQ.length by omega))
   refine Ok.ix htx ?_
   refine Ok.eq (x:=qd a.aQ[k] a.aQ[t]) ?_ ?_
   ·unfold qd
    cases hc: (decide (a.aQ[k].cZ<=a.aQ[t].To)&&decide (a.aQ[t].cZ<=a.aQ[k].To)) with
    | false=>rfl
    | true=>
     obtain⟨n,n1,n2⟩:=LU (N:=N) hgk.2 hgt.2
     rw [aO,mb hgk.1,aB,mb hgt.1,aB,n1,aB,Bool.true_and]
     congr 1
     rw [eI,beq_iff_eq];exact n2
   ·refine Ok.bif (fun h=>Ok.rt ⟨rfl,k,t,_,_,htk,hkx,aL (by omega),h⟩) (fun h=>Ok.nx fun j y hj hy=>?_)
    by_cases e:j<t
    ·exact hI2 j y e hy
    ·have:j=t:=by omega
     subst this
     rw [aL (by omega)] at hy;injection hy with hy
     rw [<-hy,h];simp
  ·intro o ho
   refine Ok.cs ho (fun s hI2=>Ok.nx fun i j x y hi hj hx hy=>?_) (fun x hx=>Ok.rt hx)
   by_cases e:i<k
   ·exact hI i j x y e hj hx hy
   ·have:i=k:=by omega
    subst this
    rw [hkx] at hx;injection hx with hx
    rw [<-hx];exact hI2 j y hj hy
 ·rintro⟨i,j,x,y,hj,hx,hy,hc⟩
  exact hI i j x y (aW.1 hx).1 hj hx hy hc
 intro o ho
 refine Ok.cs ho ?_ ?_
 rotate_left
 ·rintro x ⟨rfl,hc⟩
  exact pe 12 (by omega) (by rw [pe4,aC hc])
 intro _ hncl
 have pe5:iX a=0:=by rw [pe4,aD hncl]
 refine Ok.bind (Fe (N:=N) (by omega) hg.cs hg.gb hN) ?_
 rintro⟨okk,k9,pcs⟩ ⟨fP,D,e1,e2⟩
 dsimp only at D e1 e2 ⊢
 subst e1
 refine Ok.bif (fun h=>Ok.ret (.inr ⟨pe5,hg,hncl,k9,fP,D, .inl ⟨fun hf=>?_,rfl⟩⟩)) (fun h=>?_)
 ·have:=e2.2 hf
  rw [this] at h;cases h
 ·have hf:L6 k9 fP:=e2.1 (by cases okk <;> simp_all)
  have hpr: ∀p∈dR 0 fP,p.o4.length<=1073741824:=fun p hp=>by
   obtain⟨i,r,s,ps,u,j,k,hP⟩:=Jc hg D hp
   have:=(hP.D8 hg).2.2;omega
  have hf2:=hf.2
  refine Ok.eq (IZ hg.gb (by omega) hpr) ?_
  refine Ok.bind (CI (N:=N) hg.gb (by omega) hpr (by omega) hN) ?_
  rintro⟨gs,ofP,ofB,pg,oW⟩ ⟨r,hC⟩
  exact Ok.ret (.inr ⟨pe5,hg,hncl,k9,fP,D, .inr ⟨hf,r,gs,ofP,ofB,pg,oW,hC,rfl⟩⟩)
end
end Go.Gk
namespace Go.Gk
open Go Classical
section
variable {N:Nat}
theorem Gn {w:Nat} {g:Nat->Nat} {a:Nat}: ∀{ks:List Nat},ks.Nodup->a∈ks->(ks.map (fun k=>(if a=k then w else 0)+g k)).sum=w+ (ks.map g).sum
 | [],_,h=>by cases h
 | k::ks,hn,h=>by
  have hn':=List.nodup_cons.1 hn
  simp only [dI,List.sum_cons]
  by_cases e:a=k
  ·subst e
   rw [aC rfl]
   have:ks.map (fun k=>(if a=k then w else 0)+g k)=ks.map g:=List.map_congr_left fun x hx=>by
    rw [aD (fun e=>hn'.1 (by rw [e];exact hx)),fM]
   rw [this];omega
  ·rw [aD e,Gn hn'.2 (by rcases cT.1 h with h | h;exact absurd h e;exact h)];omega
theorem Eg {α:Type} {ks:List Nat} (hn:ks.Nodup) (f w:α->Nat): ∀{l:List α},(∀x∈l,f x∈ks)->(ks.map (fun k=>((l.filter (fun x=>decide (f x=k))).map w).sum)).sum= (l.map w).sum
 | [],_=>by
  have: ∀ks:List Nat,(ks.map (fun _=>0)).sum=0:=fun ks=>by
   induction ks with
   | nil=>rfl
   | cons k ks ih=>simp only [dI,List.sum_cons,ih]
  simpa using this ks
 | x::l,h=>by
  have ih:=Eg hn f w (l:=l) fun y hy=>h y (gh _ hy)
  have: (ks.map (fun k=>(((x::l).filter (fun x=>decide (f x=k))).map w).sum))=ks.map (fun k=>(if f x=k then w x else 0)+ ((l.filter (fun x=>decide (f x=k))).map w).sum):=List.map_congr_left fun k _=>by
   rw [List.filter_cons]
   by_cases e:f x=k
   ·rw [aC (by simpa using e),aC e,dI,List.sum_cons]
   ·rw [aD (by simpa using e),aD e,fM]
  rw [this,Gn hn (h x (by simp)),ih,dI,List.sum_cons]
def Gp (s:List aA):bH:=match s with | b::_=>⟨b.Xs.headD 0,b.Y0⟩ | []=>⟨0,0⟩
theorem xe.ne {a:fz} {k9:List (List aA)} {fP:List (List (List aA))} {p:aJ} {i:Nat} {r:List aH} {s:List aA} {ps:List (List aA)} {u:Nat->Nat} {j k:Nat} (h:xe a k9 fP p i r s ps u j k):p.Set≠[]:=by
 intro e
 have hh:=iK.1 (eW h.head)
 have hx: (aP s)[k]? =some (aP s)[k]:=aL hh.1
 have hm: (aP s)[k]∈mH (aP s) (aP s).length u k:=k7.2 ⟨k,hh.1,hh.2,hx⟩
 obtain⟨b,hb,q,hq,hr⟩:=pF (eW hx)
 have hbm:bT b∈s.map bT:=cS.2 ⟨b,hb,rfl⟩
 have hq1:=E5 (h.dr.can.each _ hbm).2.2.1 q hq
 have hb1:=(h.dr.can.each _ hbm).1
 have hc:=h.set.cover q.1 b.Y0
 rw [e] at hc
 have:te (mH (aP s) (aP s).length u k) q.1 b.Y0=true:=ir.2 ⟨_,hm,by rw [hr];exact⟨⟨Int.le_refl _,hq1⟩,Int.le_refl _,hb1⟩⟩
 rw [this] at hc
 cases hc
structure ud (a:fz) (k9:List (List aA)) (fP:List (List (List aA))) (r:Nat->Nat) (gs:List cU) (ofP ofB pg:List Int) (oW:List fJ):Prop where
 NU:ox a
 PW: ¬ph a
 dr:t8 a.aI a.aQ a.aI.length k9 fP
 AZ:L6 k9 fP
 NV:Fh a.aQ a.bL (dR 0 fP) r gs ofP ofB pg oW
inductive LV (N:Nat) (a:fz):Prop
 | err (e:Int) (he:e≠0) (h:gC N a=some (none,e))
 | ok {k9:List (List aA)} {fP:List (List (List aA))} {r:Nat->Nat} {gs:List cU} {ofP ofB pg:List Int} {oW:List fJ} (b:ud a k9 fP r gs ofP ofB pg oW)
  (h:gC N a=some (some (a.aI,a.cQ,a.aQ,a.bL,k9,dR 0 fP,nj a.aQ (dR 0 fP),gs,ofP,ofB,pg,oW),0))
theorem opened {a:fz} (hs:rK a) (hN:4398046511104<=N):LV N a:=by
 obtain⟨x,hx,hI⟩:=x8 (N:=N) hs hN
 rcases hI with ⟨he,rfl⟩ | ⟨_,hg,hcl,k9,fP,D,⟨_,rfl⟩ | ⟨hf,r,gs,ofP,ofB,pg,oW,hC,rfl⟩⟩
 ·exact .err _ he hx
 ·exact .err 2 (by omega) hx
 ·exact .ok ⟨hg,hcl,D,hf,hC⟩ hx
end
end Go.Gk
namespace Go.Gk
open Go Classical
section
variable {S R:Type}
theorem Ok.rA {body:S->Option (Fl S R)} {N n:Nat} {s:S} (ι:S->Int) (Inv:Nat->S->Prop) {Go:S->Prop} {Rt:R->Prop}
  (h1: ∀k s,k<n->ι s= ((k:Nat):Int)->Inv k s->Ok (body s) (Jx (fun s'=>ι s'= ((k+1:Nat):Int)/\Inv (k+1) s') Go Rt))
  (h2: ∀s,ι s= ((n:Nat):Int)->Inv n s->Ok (body s) (Jx (fun _=>False) Go Rt))
  {k0:Nat} (hk:k0<=n) (hi:ι s= ((k0:Nat):Int)) (h0:Inv k0 s) (hn:n<N):Ok (Gk.jB body N s) (NL Go Rt):=by
 refine Ok.jB (fun s=>∃k:Nat,k<=n/\ι s= ((k:Nat):Int)/\Inv k s) (fun s=>n - (ι s).toNat) ?_ ⟨k0,hk,hi,h0⟩ (by omega)
 rintro s ⟨k,hk,e,hI⟩
 by_cases hlt:k<n
 ·refine(h1 k s hlt e hI).mono ?_
  rintro(s' | s' | r) hp
  ·have hp1:ι s'= ((k+1:Nat):Int):=hp.1
   exact⟨⟨k+1,hlt,hp.1,hp.2⟩,by rw [e,hp1];simp only [bX];omega⟩
  ·exact hp
  ·exact hp
 ·have:k=n:=by omega
  subst this
  refine(h2 s e hI).mono ?_
  rintro(s' | s' | r) hp
  ·exact hp.elim
  ·exact hp
  ·exact hp
theorem nG {k n:Nat} (h:k<n):decide (((k:Nat):Int)< ((n:Nat):Int))=true:=bG (by omega)
theorem qW (n:Nat):decide (((n:Nat):Int)< ((n:Nat):Int))=false:=bI (by omega)
theorem yw {k n:Nat} (h:n<=k):decide (((k:Nat):Int)< ((n:Nat):Int))=false:=bI (by omega)
end
theorem sm {α:Type} {p:α->Bool}: ∀{l:List α} {k:Nat},(∀(j:Nat) x,j<k->l[j]? =some x->p x=true)->(∀x,l[k]? =some x->p x=false)->l.takeWhile p=l.take k/\l.dropWhile p=l.drop k
 | [],k,_,_=>by simp
 | y::l,0,_,h2=>by
  have:=h2 y rfl
  rw [List.takeWhile_cons,List.dropWhile_cons,this];simp
 | y::l,k+1,h1,h2=>by
  have h:=h1 0 y (by omega) rfl
  obtain⟨e1,e2⟩:=sm (l:=l) (k:=k) (fun j x hj hx=>h1 (j+1) x (by omega) hx) (fun x hx=>h2 x hx)
  rw [List.takeWhile_cons,List.dropWhile_cons,h,aC rfl,aC rfl,e1,e2];simp
section
variable {N:Nat}
def sq (l:List Int) (c:Int):List Int:=if c∈l then l else l.takeWhile (fun x=>decide (x<c))++c::l.dropWhile (fun x=>decide (x<c))
theorem xg (l:List Int) (c:Int): (sq l c).length<=l.length+1:=by
 unfold sq
 split
 ·omega
 ·have: (l.takeWhile (fun x=>decide (x<c))).length+ (l.dropWhile (fun x=>decide (x<c))).length=l.length:=by rw [<-cR,List.takeWhile_append_dropWhile]
  rw [cR,dK];omega
theorem Jd {l:List Int} {c x:Int}:x∈sq l c↔x∈l\/x=c:=by
 unfold sq
 split
 ·rename_i h
  exact⟨.inl,fun h'=>h'.elim id fun e=>e▸h⟩
 ·have:x∈l↔x∈l.takeWhile (fun x=>decide (x<c))\/x∈l.dropWhile (fun x=>decide (x<c)):=by rw [<-cY,List.takeWhile_append_dropWhile]
  rw [cY,cT,this]
  constructor
  ·rintro(h | h | h)
   ·exact .inl (.inl h)
   ·exact .inr h
   ·exact .inl (.inr h)
  ·rintro((h | h) | h)
   ·exact .inl h
   ·exact .inr (.inr h)
   ·exact .inr (.inl h)
theorem Gq {l:List Int} (h:iV l) (c:Int): ∀x∈l.dropWhile (fun x=>decide (x<c)),c<=x:=by
 induction l with
 | nil=>intro x hx;cases hx
 | cons a l ih=>
  rw [List.dropWhile_cons]
  by_cases ha:a<c
  ·rw [aC (by simpa using ha)];exact ih h.tail
  ·rw [aD (by simpa using ha)]
   intro x hx
   rcases cT.1 hx with rfl | hx
   ·omega
   ·have:=h.head x hx;omega
theorem Ke (l:List Int) (c:Int): ∀x∈l.takeWhile (fun x=>decide (x<c)),x<c:=by
 induction l with
 | nil=>intro x hx;cases hx
 | cons a l ih=>
  rw [List.takeWhile_cons]
  by_cases ha:a<c
  ·rw [aC (by simpa using ha)]
   intro x hx
   rcases cT.1 hx with rfl | hx
   ·exact ha
   ·exact ih x hx
  ·rw [aD (by simpa using ha)]
   intro x hx;cases hx
theorem xh {l:List Int} {c:Int} (h:iV l):iV (sq l c):=by
 unfold sq
 split
 ·exact h
 ·rename_i hc
  have hs:=h
  rw [<-List.takeWhile_append_dropWhile (p:=fun x=>decide (x<c)) (l:=l)] at hs
  unfold iV at hs ⊢
  rw [mh] at hs ⊢
  refine⟨hs.1,mg.2 ⟨fun x hx=>?_,hs.2.1⟩,fun x hx y hy=>?_⟩
  ·have h1:=Gq h c x hx
   have h2:x≠c:=fun e=>hc (by rw [<-e,<-List.takeWhile_append_dropWhile (p:=fun x=>decide (x<c)) (l:=l)];exact List.mem_append_right _ hx)
   omega
  ·have h1:=Ke l c x hx
   rcases cT.1 hy with rfl | hy
   ·exact h1
   ·have:=Gq h c y hy;omega
def jA (l:List Int):List Int:=l.foldl sq []
theorem su: ∀(cs l:List Int),iV l->iV (cs.foldl sq l)/\(∀x,x∈cs.foldl sq l↔x∈l\/x∈cs)/\(cs.foldl sq l).length<=l.length+cs.length
 | [],l,h=>⟨h,fun x=>by simp,by simp⟩
 | c::cs,l,h=>by
  obtain⟨h1,h2,h3⟩:=su cs (sq l c) (xh h)
  refine⟨h1,fun x=>?_,?_⟩
  ·rw [List.foldl_cons,h2,Jd,cT,or_assoc]
  ·rw [List.foldl_cons,dK]
   have:=xg l c;omega
theorem mC (l:List Int):iV (jA l):=(su l [] iG).1
theorem x9 {l:List Int} {x:Int}:x∈jA l↔x∈l:=by
 have:=(su l [] iG).2.1 x
 unfold jA;rw [this];simp
theorem rL (l:List Int): (jA l).length<=l.length:=by
 have:=(su l [] iG).2.2
 unfold jA;simpa using this
theorem ue (l:List Int) (c d:Int):jA (l++[c,d])=sq (sq (jA l) c) d:=by unfold jA;rw [List.foldl_append];rfl
theorem Fi {a b:Nat} (h:a+b<=4611686018427387904):IntKind.wrap .i64 (Int.tdiv (IntKind.wrap .i64 (((a:Nat):Int)+ ((b:Nat):Int))) 2)= (((a+b) / 2:Nat):Int):=by
 rw [wrap_add h,Int.tdiv_eq_ediv_of_nonneg (by omega),eE (by omega) (by omega)];omega
theorem uM {l:List Int} {c:Int} (h:iV l) (hl:l.length<=1099511627776) (hN:4398046511104<=N):fW N l c=some (sq l c):=by
 refine Ok.get ?_
 unfold fW
 refine Ok.bind (Ok.jB (Go:=fun st:Int×Int=>∃a:Nat,st.1= ((a:Nat):Int)/\a<=l.length/\(∀(j:Nat) x,j<a->l[j]? =some x->x<c)/\(∀(j:Nat) x,a<=j->l[j]? =some x->c<=x)) (Rt:=fun _=>True)
  (fun st=>∃a b:Nat,st= (((a:Nat):Int),((b:Nat):Int))/\a<=b/\b<=l.length/\(∀(j:Nat) x,j<a->l[j]? =some x->x<c)/\(∀(j:Nat) x,b<=j->l[j]? =some x->c<=x))
  (fun st=>(st.2 - st.1).toNat) ?_ ⟨0,l.length,rfl,by omega,bJ _,fun j x hj=>by omega,fun j x hj hx=>by have:=(aW.1 hx).1;omega⟩ (by simp only;omega)) ?_
 ·rintro st ⟨a,b,rfl,hab,hb,h1,h2⟩
  dsimp only
  by_cases hlt:a<b
  ·have hm: (a+b) / 2<l.length:=by omega
   have hx:l[(a+b) / 2]? =some l[(a+b) / 2]:=aL hm
   rw [nG hlt,aO,Fi (by omega)]
   refine Ok.ix hx ?_
   by_cases hc:l[(a+b) / 2]<c
   ·rw [bG hc,aO,aB]
    refine Ok.nx ⟨⟨(a+b) / 2+1,b,?_,by omega,hb,fun j x hj hx'=>?_,h2⟩,?_⟩
    ·rw [bP (by omega)]
    ·by_cases e:j= (a+b) / 2
     ·subst e;rw [hx] at hx';injection hx' with hx';omega
     ·have:=h.lt (i:=j) (j:=(a+b) / 2) (by omega) hx' hx
      omega
    ·rw [bP (by omega)];simp only;omega
   ·rw [bI hc,aN,aB]
    refine Ok.nx ⟨⟨a,(a+b) / 2,rfl,by omega,by omega,h1,fun j x hj hx'=>?_⟩,by simp only;omega⟩
    by_cases e:j= (a+b) / 2
    ·subst e;rw [hx] at hx';injection hx' with hx';omega
    ·have:=h.lt (i:=(a+b) / 2) (j:=j) (by omega) hx hx'
     omega
  ·rw [yw (by omega),aN]
   exact Ok.br ⟨a,rfl,by omega,h1,fun j x hj hx=>h2 j x (by omega) hx⟩
 intro o ho
 refine Ok.cs ho ?_ (fun r hr=>r.elim)
 rintro⟨st1,st2⟩ ⟨a,ha,hle,h1,h2⟩
 dsimp only at ha ⊢
 subst ha
 have hin:l[a]? =some c->sq l c=l:=fun hx=>by unfold sq;rw [aC (eW hx)]
 have hout:l[a]? ≠some c->sq l c=l.take a++c::l.drop a:=fun hx=>by
  have hc:c∉l:=fun hc=>by
   obtain⟨j,hj⟩:=dV hc
   by_cases h3:j<a
   ·have:=h1 j c h3 hj;omega
   ·by_cases e:j=a
    ·subst e;exact hx hj
    ·have h5:a<l.length:=by have:=(aW.1 hj).1;omega
     have h6:l[a]? =some l[a]:=aL h5
     have h7:=h.lt (i:=a) (j:=j) (by omega) h6 hj
     have h8:=h2 a _ (bJ _) h6
     omega
  unfold sq
  rw [aD hc]
  obtain⟨e1,e2⟩:=sm (p:=fun x=>decide (x<c)) (l:=l) (k:=a) (fun j x hj hx'=>bG (h1 j x hj hx')) (fun x hx'=>bI (by have:=h2 a x (bJ _) hx';omega))
  rw [e1,e2]
 have hrest:l[a]? ≠some c->Ok ((sO l 0 ((a:Nat):Int)).bind fun x49=>(app 8 ([]:List Int) x49).bind fun x51=>(app 8 x51 ([c]:List Int)).bind fun x54=>(sO l ((a:Nat):Int) ((l.length:Nat):Int)).bind fun x56=>(app 8 x54 x56).bind fun x58=>some x58) (fun r=>r=sq l c):=fun hx=>by
  have htk: (l.take a).length=a:=by rw [cI];omega
  refine Ok.eq (rm l a hle) (Ok.app (by simp only [List.length_nil];omega) (Ok.app (by rw [List.nil_append];simp only [dK,List.length_nil];omega) (Ok.eq (pS l a hle) (Ok.app ?_ (Ok.ret ?_)))))
  ·rw [List.nil_append,cR,ga];simp only [dK,List.length_nil];omega
  ·rw [hout hx];simp
 by_cases hlt:a<l.length
 ·have hx:l[a]? =some l[a]:=aL hlt
  rw [nG hlt,aO,dY hx,aB,aB]
  refine Ok.bif (fun hb=>Ok.ret ?_) (fun hb=>hrest ?_)
  ·rw [beq_iff_eq] at hb
   rw [hin (by rw [hx,hb])]
  ·rw [beq_eq_false_iff_ne] at hb
   rw [hx];intro e;injection e with e;exact hb e
 ·rw [yw (by omega),aN,aB,aN]
  exact hrest (by rw [List.getElem?_eq_none (by omega)];intro e;cases e)
theorem Eh (l m:List aH):iu (l++m)=iu l++iu m:=List.flatMap_append
theorem Ag {l:List aH} (hl:l.length<=268435456) (hN:4398046511104<=N):ju N l=some (jA (iu l)):=by
 refine Ok.get ?_
 unfold ju
 refine Ok.bind (Ok.rA (n:=l.length) (fun s=>s.2) (fun k s=>s.1=jA (iu (l.take k))) (Go:=fun s=>s.1=jA (iu l)) (Rt:=fun _=>False) ?_ ?_ (eL _) rfl rfl (by omega)) ?_
 ·rintro k ⟨out,i⟩ hk e hI
  dsimp only at e hI ⊢
  subst e;subst hI
  rw [nG hk,aO]
  have hx:l[k]? =some l[k]:=aL hk
  have h1:=rL (iu (l.take k))
  rw [iD,cI] at h1
  have h2:=xg (jA (iu (l.take k))) l[k].Y0
  refine Ok.ix hx (Ok.ix hx (Ok.eq (uM (mC _) (by omega) hN) (Ok.eq (uM (xh (mC _)) (by omega) hN) (Ok.nx ⟨bP (by omega),?_⟩))))
  rw [eF hk,Eh]
  exact(ue _ _ _).symm
 ·rintro⟨out,i⟩ e hI
  dsimp only at e hI ⊢
  subst e
  rw [qW,aN]
  exact Ok.br (by rw [fw] at hI;exact hI)
 intro o ho
 exact Ok.cs ho (fun s hs=>Ok.ret hs) (fun r hr=>hr.elim)
def sp (s:aK):Int×Int:=(s.from_,s.to)
theorem Je: ∀{l m:List aK},l.map sp=m.map sp->l=m
 | [],[],_=>rfl
 | [],_::_,h=>by cases h
 | _::_,[],h=>by cases h
 | ⟨a,b⟩::l,⟨c,d⟩::m,h=>by
  rw [dI,dI] at h
  injection h with h1 h2
  unfold sp at h1
  injection h1 with h3 h4
  simp only at h3 h4
  rw [h3,h4,Je h2]
theorem uN (a b:Int): (if b<a then b else a)=min a b:=by split <;> omega
theorem oy (a b:Int): (if a<b then b else a)=max a b:=by split <;> omega
theorem BF {l:List aK} {s:aK} (hl:l.length<=268435456) (hN:4398046511104<=N):Ok (jT N l s) (fun r=>r.map sp=kQ (l.map sp) (sp s)):=by
 unfold jT
 have hget: ∀(j:Nat) (x:Int×Int),(l.map sp)[j]? =some x->∃y,l[j]? =some y/\x=sp y:=fun j x h=>by
  rw [gJ] at h
  cases hy:l[j]? with
  | none=>rw [hy] at h;cases h
  | some y=>rw [hy] at h;injection h with h;exact⟨y,rfl,h.symm⟩
 refine Ok.bind (Ok.jB (Go:=fun st:List aK×Int=>∃k:Nat,st= (l.take k,((k:Nat):Int))/\k<=l.length/\(∀(j:Nat) x,j<k->l[j]? =some x->x.to<s.from_)/\(∀x,l[k]? =some x->¬x.to<s.from_)) (Rt:=fun _=>False)
  (fun st=>∃k:Nat,st= (l.take k,((k:Nat):Int))/\k<=l.length/\∀(j:Nat) x,j<k->l[j]? =some x->x.to<s.from_) (fun st=>l.length - st.2.toNat) ?_ ⟨0,by simp,by omega,fun j x hj=>by omega⟩ (by simp;omega)) ?_
 ·rintro st ⟨k,rfl,hk,hI⟩
  dsimp only
  by_cases hlt:k<l.length
  ·have hx:l[k]? =some l[k]:=aL hlt
   rw [nG hlt,aO,dY hx,aB,aB]
   refine Ok.bif (fun hb=>?_) (fun hb=>?_)
   ·have hb:=of_decide_eq_true hb
    refine Ok.eq rfl (Ok.app ?_ (Ok.nx ⟨⟨k+1,?_,hlt,?_⟩,?_⟩))
    ·rw [cI];simp only [dK,List.length_nil];omega
    ·rw [bP (by omega),eF hlt]
    ·intro j x hj hx'
     by_cases e:j=k
     ·subst e;rw [hx] at hx';injection hx' with hx';rw [<-hx'];exact hb
     ·exact hI j x (by omega) hx'
    ·rw [bP (by omega)];simp only [bX];omega
   ·have hb:=of_decide_eq_false hb
    exact Ok.br ⟨k,rfl,hk,hI,fun x hx'=>by rw [hx] at hx';injection hx' with hx';rw [<-hx'];exact hb⟩
  ·rw [yw (by omega),aN,aB,aN]
   exact Ok.br ⟨k,rfl,hk,hI,fun x hx'=>by have:=(aW.1 hx').1;omega⟩
 intro o ho
 refine Ok.cs ho ?_ (fun r hr=>hr.elim)
 rintro st ⟨k,rfl,hk,hI,hE⟩
 dsimp only
 obtain⟨e1,e2⟩:=sm (p:=fun a:Int×Int=>decide (a.2< (sp s).1)) (l:=l.map sp) (k:=k) (fun j x hj hx=>by
  obtain⟨y,hy,rfl⟩:=hget j x hx
  exact bG (hI j y hj hy)) (fun x hx=>by
  obtain⟨y,hy,rfl⟩:=hget k x hx
  exact bI (hE y hy))
 refine Ok.bind (Ok.jB (Go:=fun st:aK×Int=>∃i:Nat,st.2= ((i:Nat):Int)/\i<=l.length/\jG (sp s) ((l.drop k).map sp)= (sp st.1,(l.drop i).map sp)) (Rt:=fun _=>False)
  (fun st=>∃i:Nat,st.2= ((i:Nat):Int)/\i<=l.length/\jG (sp s) ((l.drop k).map sp)=jG (sp st.1) ((l.drop i).map sp)) (fun st=>l.length - st.2.toNat) ?_ ⟨k,rfl,hk,rfl⟩ (by simp only [bX];omega)) ?_
 ·rintro⟨s',i'⟩ ⟨i,e,hi,hm⟩
  dsimp only at e hm ⊢
  subst e
  by_cases hlt:i<l.length
  ·have hx:l[i]? =some l[i]:=aL hlt
   have hd: (l.drop i).map sp=sp l[i]::(l.drop (i+1)).map sp:=by rw [po hlt,dI]
   rw [nG hlt,aO,dY hx,aB,aB]
   refine Ok.bif (fun hb=>?_) (fun hb=>?_)
   ·have hb:=of_decide_eq_true hb
    refine Ok.eq rfl (Ok.eq rfl (Ok.nx ⟨⟨i+1,bP (by omega),hlt,?_⟩,?_⟩))
    ·rw [hm,hd]
     conv=>lhs;unfold jG
     rw [aC (show (sp l[i]).1<=(sp s').2 from hb),uN,oy]
     rfl
    ·dsimp only;rw [bP (by omega)];simp only [bX];omega
   ·have hb:=of_decide_eq_false hb
    refine Ok.br ⟨i,rfl,hi,?_⟩
    rw [hm,hd]
    conv=>lhs;unfold jG
    rw [aD (show ¬(sp l[i]).1<=(sp s').2 from hb)]
  ·rw [yw (by omega),aN,aB,aN]
   refine Ok.br ⟨i,rfl,hi,?_⟩
   rw [hm,List.drop_eq_nil_of_le (by omega)];rfl
 intro o ho
 refine Ok.cs ho ?_ (fun r hr=>hr.elim)
 rintro⟨s',i'⟩ ⟨i,e,hi,hm⟩
 dsimp only at e hm ⊢
 subst e
 refine Ok.app ?_ (Ok.eq (pS l i hi) (Ok.app ?_ (Ok.ret ?_)))
 ·rw [cI];simp only [dK,List.length_nil];omega
 ·rw [cR,cI,ga];simp only [dK,List.length_nil];omega
 ·unfold kQ
  rw [e1,e2,<-List.map_take,<-List.map_drop,hm]
  simp
theorem Ah: ∀(l:List (Int×Int)) (s:Int×Int),(jG s l).2.length<=l.length
 | [],s=>bJ _
 | a::l,s=>by
  unfold jG
  split
  ·have:=Ah l (min s.1 a.1,max s.2 a.2)
   rw [dK];omega
  ·exact bJ _
theorem yx (l:List (Int×Int)) (s:Int×Int): (kQ l s).length<=l.length+1:=by
 unfold kQ
 have h1:=Ah (l.dropWhile fun a=>decide (a.2<s.1)) s
 have h2: (l.takeWhile (fun x=>decide (x.2<s.1))).length+ (l.dropWhile (fun x=>decide (x.2<s.1))).length=l.length:=by rw [<-cR,List.takeWhile_append_dropWhile]
 rw [cR,dK];omega
def iN (y:Int) (out:List (Int×Int)) (r:aH):List (Int×Int):=if r.Y0<=y/\y<r.Y1 then kQ out (r.X0,r.X1) else out
def j6 (l:List aH) (y:Int):List (Int×Int):=l.foldl (iN y) []
theorem Hg (l:List aH) (r:aH) (y:Int):j6 (l++[r]) y=iN y (j6 l y) r:=by unfold j6;rw [List.foldl_append];rfl
theorem yy (y:Int): ∀(l:List aH) (out:List (Int×Int)),(l.foldl (iN y) out).length<=out.length+l.length
 | [],out=>by simp
 | r::l,out=>by
  rw [List.foldl_cons,dK]
  have h1:=yy y l (iN y out r)
  have h2: (iN y out r).length<=out.length+1:=by
   unfold iN
   split
   ·exact yx _ _
   ·omega
  omega
theorem rM (l:List aH) (y:Int): (j6 l y).length<=l.length:=by
 have:=yy y l []
 unfold j6;simpa using this
theorem xk (y:Int): ∀(l:List aH) (out:List (Int×Int)),(∀r∈l,r.X0<r.X1)->iV (cV out)->iV (cV (l.foldl (iN y) out))/\∀x,ig (l.foldl (iN y) out) x= (ig out x||te l x y)
 | [],out,_,h=>⟨h,fun x=>by simp [te]⟩
 | r::l,out,hr,h=>by
  have h0:=hr r (by simp)
  rw [List.foldl_cons]
  have hst:iV (cV (iN y out r))/\∀x,ig (iN y out r) x= (ig out x||((decide (r.X0<=x)&&decide (x<r.X1))&&(decide (r.Y0<=y)&&decide (y<r.Y1)))):=by
   unfold iN
   by_cases hy:r.Y0<=y/\y<r.Y1
   ·rw [aC hy]
    obtain⟨j1,j2⟩:=wW (l:=out) (s:=(r.X0,r.X1)) h h0
    refine⟨j1,fun x=>?_⟩
    rw [j2,bG hy.1,bG hy.2,Bool.or_comm];simp
   ·rw [aD hy]
    refine⟨h,fun x=>?_⟩
    have: (decide (r.Y0<=y)&&decide (y<r.Y1))=false:=by rw [Bool.and_eq_false_iff,decide_eq_false_iff_not,decide_eq_false_iff_not];omega
    rw [this];simp
  obtain⟨m1,m2⟩:=xk y l (iN y out r) (fun r' hr'=>hr r' (gh _ hr')) hst.1
  refine⟨m1,fun x=>?_⟩
  rw [m2,hst.2,Bool.or_assoc];rfl
theorem uO {l:List aH} (h: ∀r∈l,r.X0<r.X1) (y:Int):iV (cV (j6 l y))/\∀x,ig (j6 l y) x=te l x y:=by
 obtain⟨h1,h2⟩:=xk y l [] h iG
 exact⟨h1,fun x=>by rw [show ig (j6 l y) x=_ from h2 x,show ig [] x=false from rfl,Bool.false_or]⟩
theorem vo {y y':Int}: ∀(l:List aH) (out:List (Int×Int)),(∀r∈l,(r.Y0<=y/\y<r.Y1)↔(r.Y0<=y'/\y'<r.Y1))->l.foldl (iN y) out=l.foldl (iN y') out
 | [],out,_=>rfl
 | r::l,out,h=>by
  rw [List.foldl_cons,List.foldl_cons,vo l _ (fun r' hr'=>h r' (gh _ hr'))]
  congr 1
  unfold iN
  have:=h r (by simp)
  by_cases h1:r.Y0<=y/\y<r.Y1
  ·rw [aC h1,aC (this.1 h1)]
  ·rw [aD h1,aD (fun h2=>h1 (this.2 h2))]
theorem Fj {l:List aH} {y y':Int} (h: ∀r∈l,(r.Y0<=y/\y<r.Y1)↔(r.Y0<=y'/\y'<r.Y1)):j6 l y=j6 l y':=vo l [] h
theorem Jf {l:List aH} {y:Int} (h: ∀r∈l,¬(r.Y0<=y/\y<r.Y1)):j6 l y= []:=by
 have: ∀(l:List aH) (out:List (Int×Int)),(∀r∈l,¬(r.Y0<=y/\y<r.Y1))->l.foldl (iN y) out=out:=by
  intro l
  induction l with
  | nil=>intro out _;rfl
  | cons r l ih=>
   intro out h
   rw [List.foldl_cons,ih _ (fun r' hr'=>h r' (gh _ hr'))]
   unfold iN;rw [aD (h r (by simp))]
 exact this l [] h
theorem Fk {l:List aH} {y:Int} (hl:l.length<=134217728) (hN:4398046511104<=N):Ok (jU N l y) (fun r=>r.map sp=j6 l y):=by
 unfold jU
 refine Ok.bind (Ok.rA (n:=l.length) (fun s=>s.2) (fun k s=>s.1.map sp=j6 (l.take k) y) (Go:=fun s=>s.1.map sp=j6 l y) (Rt:=fun _=>False) ?_ ?_ (eL _) rfl rfl (by omega)) ?_
 ·rintro k ⟨out,i⟩ hk e hI
  dsimp only at e hI ⊢
  subst e
  rw [nG hk,aO]
  have hx:l[k]? =some l[k]:=aL hk
  have hlen:out.length<=l.length:=by
   have h1:=rM (l.take k) y
   rw [<-hI,dN,cI] at h1;omega
  rw [dY hx,aB]
  have hst:j6 (l.take (k+1)) y=iN y (j6 (l.take k) y) l[k]:=by rw [eF hk,Hg]
  have hno: ¬(l[k].Y0<=y/\y<l[k].Y1)->Ok ((some out).bind fun s141=>some (Fl.nx (s141,IntKind.wrap .i64 (((k:Nat):Int)+1)):Fl (List aK×Int) Empty)) (Jx (fun s'=>s'.2= ((k+1:Nat):Int)/\s'.1.map sp=j6 (l.take (k+1)) y) (fun s=>s.1.map sp=j6 l y) (fun _=>False)):=fun hy=>by
   rw [aB]
   refine Ok.nx ⟨bP (by omega),?_⟩
   rw [hst];unfold iN;rw [aD hy];exact hI
  by_cases h1:l[k].Y0<=y
  ·rw [bG h1,aO,aB,aB]
   by_cases h2:y<l[k].Y1
   ·rw [bG h2,aO]
    refine Ok.bind (P:=fun r:List aK=>r.map sp=j6 (l.take (k+1)) y) (Ok.eq rfl (Ok.eq rfl (Ok.bind (BF (by omega) hN) (fun r hr=>Ok.ret ?_)))) (fun r hr=>Ok.nx ⟨bP (by omega),hr⟩)
    rw [hr,hI,hst];unfold iN;rw [aC ⟨h1,h2⟩];rfl
   ·rw [bI h2,aN]
    exact hno (fun h=>h2 h.2)
  ·rw [bI h1,aN,aB,aN]
   exact hno (fun h=>h1 h.1)
 ·rintro⟨out,i⟩ e hI
  dsimp only at e hI ⊢
  subst e
  rw [qW,aN]
  exact Ok.br (by rw [fw] at hI;exact hI)
 intro o ho
 exact Ok.cs ho (fun s hs=>Ok.ret hs) (fun r hr=>hr.elim)
theorem BG {l:List aK} {x:Int} (hl:l.length<=1099511627776) (hN:4398046511104<=N):jW N l x=some (ig (l.map sp) x):=by
 refine Ok.get ?_
 unfold jW
 have hm: ∀b:Bool,(ig (l.map sp) x=b↔(l.any fun s=>decide (s.from_<=x)&&decide (x<s.to))=b):=fun b=>by unfold ig;rw [List.any_map];rfl
 refine Ok.bind (Ok.rA (n:=l.length) (fun s=>s) (fun k s=>∀(j:Nat) y,j<k->l[j]? =some y->¬(y.from_<=x/\x<y.to)) (Go:=fun s=>ig (l.map sp) x=false) (Rt:=fun r=>r=ig (l.map sp) x) ?_ ?_ (eL _) rfl (fun j y hj=>by omega) (by omega)) ?_
 ·rintro k i hk e hI
  subst e
  rw [nG hk,aO]
  have hx:l[k]? =some l[k]:=aL hk
  rw [dY hx,aB]
  have hno: ¬(l[k].from_<=x/\x<l[k].to)->Ok (some (Fl.nx (IntKind.wrap .i64 (((k:Nat):Int)+1)):Fl Int Bool)) (Jx (fun s'=>s'= ((k+1:Nat):Int)/\∀(j:Nat) y,j<k+1->l[j]? =some y->¬(y.from_<=x/\x<y.to)) (fun s=>ig (l.map sp) x=false) (fun r=>r=ig (l.map sp) x)):=fun hy=>Ok.nx ⟨bP (by omega),fun j y hj hjy=>by
   by_cases e:j=k
   ·subst e;rw [hx] at hjy;injection hjy with hjy;rw [<-hjy];exact hy
   ·exact hI j y (by omega) hjy⟩
  by_cases h1:l[k].from_<=x
  ·rw [bG h1,aO,aB,aB]
   by_cases h2:x<l[k].to
   ·rw [bG h2,aO]
    refine Ok.rt ?_
    symm;rw [hm,iZ]
    exact⟨l[k],cO hk,by rw [bG h1,bG h2];rfl⟩
   ·rw [bI h2,aN];exact hno (fun h=>h2 h.2)
  ·rw [bI h1,aN,aB,aN];exact hno (fun h=>h1 h.1)
 ·rintro i e hI
  subst e
  rw [qW,aN]
  refine Ok.br ?_
  rw [hm,List.any_eq_false]
  intro y hy
  obtain⟨j,hj⟩:=dV hy
  have:=hI j y (aW.1 hj).1 hj
  rw [kb,Bool.and_eq_false_iff,decide_eq_false_iff_not,decide_eq_false_iff_not];omega
 intro o ho
 exact Ok.cs ho (fun s hs=>Ok.ret hs.symm) (fun r hr=>Ok.ret hr)
end
end Go.Gk
namespace Go.Gk
open Go Classical
section
variable {α:Type} [DecidableEq α] {N:Nat}
def K2 (N:Nat) (p0 p1:List α):Option Bool:=
 bif ((p0.length:Int) != (p1.length:Int)) then (some false) else ((jB (fun(s32:Int)=>(bif (decide (s32< (p0.length:Int))) then ((idx p0 s32).bind fun x45=>(idx p1 s32).bind fun x48=>bif (!(decide (x45=x48))) then (some (.rt false)) else (some (.nx (IntKind.wrap .i64 (s32+1))))) else (some (.br s32)):Option (Fl (Int) Bool))) N 0).bind fun o51=>o51.cs (fun(s32:Int)=>some true) (fun r=>some r))
theorem Ei {l m:List α} (hl:l.length<=1099511627776) (hN:4398046511104<=N):K2 N l m=some (decide (l=m)):=by
 refine Ok.get ?_
 unfold K2
 by_cases he:l.length=m.length
 ·rw [show ((((l.length:Nat):Int)) != ((m.length:Nat):Int))=false by rw [he];simp,aN]
  refine Ok.bind (Ok.rA (n:=l.length) (fun s=>s) (fun k s=>∀j,j<k->l[j]? =m[j]?) (Go:=fun s=>l=m) (Rt:=fun r=>r=false/\l≠m) ?_ ?_ (eL _) rfl (fun j hj=>by omega) (by omega)) ?_
  ·rintro k i hk e hI
   subst e
   have hx:l[k]? =some l[k]:=aL hk
   have hy:m[k]? =some (m[k]'(by omega)):=aL _
   rw [nG hk,aO]
   refine Ok.ix hx (Ok.ix hy (Ok.bif (fun hb=>Ok.rt ⟨rfl,fun e=>?_⟩) (fun hb=>Ok.nx ⟨bP (by omega),fun j hj=>?_⟩)))
   ·have h1:some l[k]=some (m[k]'(by omega)):=hx.symm.trans ((by rw [e]:l[k]? =m[k]?).trans hy)
    injection h1 with h1
    rw [h1] at hb;simp at hb
   ·by_cases e:j=k
    ·subst e;rw [hx,hy];simpa using hb
    ·exact hI j (by omega)
  ·rintro i e hI
   subst e
   rw [qW,aN]
   refine Ok.br (List.ext_getElem? fun j=>?_)
   by_cases hj:j<l.length
   ·exact hI j hj
   ·rw [List.getElem?_eq_none (by omega),List.getElem?_eq_none (by omega)]
  intro o ho
  exact Ok.cs ho (fun s hs=>Ok.ret (bG hs).symm) (fun r hr=>Ok.ret (by rw [hr.1,bI hr.2]))
 ·rw [show ((((l.length:Nat):Int)) != ((m.length:Nat):Int))=true by rw [bne_iff_ne];omega,aO]
  exact Ok.ret (bI fun h=>he (by rw [h])).symm
end
section
variable {N:Nat}
theorem CJ {l m:List aH} (hl:l.length<=1099511627776) (hN:4398046511104<=N):nb N l m=some (decide (l=m)):=Ei hl hN
theorem CK {l m:List aK} (hl:l.length<=1099511627776) (hN:4398046511104<=N):na N l m=some (decide (l=m)):=Ei hl hN
def qZ (b:bA):Bd:=⟨b.from_,b.to,cV (b.ki.map sp)⟩
theorem Hh {l:List (Int×Int)}:cV l= []↔l= []:=by
 cases l with
 | nil=>exact⟨fun _=>rfl,fun _=>rfl⟩
 | cons s l=>exact⟨fun h=>(by cases h),fun h=>(by cases h)⟩
theorem Hi {l m:List aK}:cV (l.map sp)=cV (m.map sp)↔l=m:=⟨fun h=>Je (Bu h),fun h=>by rw [h]⟩
theorem Fm {l:List bA} {b:bA} (hlt:b.from_<b.to) (hl:l.length<=1073741824) (hs: ∀c∈l,c.ki.length<=1099511627776) (hN:4398046511104<=N):
  Ok (gX N l b) (fun r=>r.map qZ=iJ (l.map qZ) (qZ b)):=by
 unfold gX iJ
 by_cases h0:b.ki= []
 ·rw [show (((b.ki.length:Nat):Int)==0)=true by rw [h0];rfl,aO,aC (.inl (by unfold qZ;rw [h0];rfl))]
  exact Ok.ret rfl
 ·rw [show (((b.ki.length:Nat):Int)==0)=false by rw [beq_eq_false_iff_ne];intro h;exact h0 (List.eq_nil_of_length_eq_zero (by omega)),aN]
  have hne: ¬((qZ b).xs= []\/(qZ b).y1<=(qZ b).y0):=by
   rintro(h | h)
   ·have h:=Hh.1 h
    exact h0 (List.map_eq_nil_iff.1 h)
   ·have h:b.to<=b.from_:=h
    omega
  rw [aD hne]
  rcases List.eq_nil_or_concat l with rfl | ⟨A,c,hA⟩
  ·rw [show decide (((([]:List bA).length:Nat):Int)>0)=false by decide,aN,aB,aN]
   exact Ok.app (by simp) (Ok.ret rfl)
  ·rw [List.concat_eq_append] at hA
   subst hA
   have hlen: (A++[c]).length=A.length+1:=by simp
   have hwp:IntKind.wrap .i64 ((((A++[c]).length:Nat):Int) - 1)= ((A.length:Nat):Int):=by rw [zP (by omega) (by omega),hlen];rfl
   have hlast: (A++[c])[A.length]? =some c:=by simp
   rw [hwp,bG (by omega),aO,dY hlast,aB,aB,CK (by have:=hs c (by simp);omega) hN,aB,aB,bX]
   have hl2: ((A++[c]).map qZ).getLast? =some (qZ c):=by simp
   have hd2: ((A++[c]).map qZ).dropLast=A.map qZ:=by simp
   rw [hl2,hd2]
   dsimp only
   by_cases h1:c.to=b.from_/\c.ki=b.ki
   ·rw [aC (show (qZ c).y1= (qZ b).y0/\(qZ c).xs= (qZ b).xs from ⟨h1.1,by unfold qZ;rw [h1.2]⟩),show (c.to==b.from_)=true by rw [h1.1];simp,aO,bG h1.2,aB,aO]
    refine Ok.ret ?_
    rw [List.set_append_right _ _ (bJ _),Nat.sub_self]
    simp [qZ]
   ·rw [aD (show ¬((qZ c).y1= (qZ b).y0/\(qZ c).xs= (qZ b).xs) from fun h=>h1 ⟨h.1,Hi.1 h.2⟩)]
    have e2: (bif (c.to==b.from_) then (some (decide (c.ki=b.ki))) else (some false))=some false:=by
     by_cases h2:c.to=b.from_
     ·rw [show (c.to==b.from_)=true by rw [h2];simp,aO,bI (fun h=>h1 ⟨h2,h⟩)]
     ·rw [show (c.to==b.from_)=false by simpa using h2,aN]
    rw [e2,aB,aN]
    exact Ok.app (by rw [hlen];simp;omega) (Ok.ret (by simp))
theorem Jg {s:List Bd} {b c:Bd} (h:c∈iJ s b):c.xs=b.xs\/∃d∈s,c.xs=d.xs:=by
 unfold iJ at h
 split at h
 ·exact .inr ⟨c,h,rfl⟩
 ·split at h
  ·rename_i d hd
   split at h
   ·rcases cY.1 h with h | h
    ·exact .inr ⟨c,List.dropLast_subset _ h,rfl⟩
    ·simp at h
     exact .inr ⟨d,List.mem_of_getLast? hd,by rw [h]⟩
   ·rcases cY.1 h with h | h
    ·exact .inr ⟨c,h,rfl⟩
    ·simp at h;exact .inl (by rw [h])
  ·simp at h;exact .inl (by rw [h])
theorem pA {f:Int->List Int} {B:Nat} (hf: ∀y,(f y).length<=B): ∀(ss:List (Int×Int)) (out:List Bd),(∀c∈out,c.xs.length<=B)->(∀c∈lD f ss out,c.xs.length<=B)/\(lD f ss out).length<=out.length+ss.length
 | [],out,h=>⟨h,by simp [lD]⟩
 | s::ss,out,h=>by
  obtain⟨h1,h2⟩:=pA hf ss (iJ out ⟨s.1,s.2,f s.1⟩) (fun c hc=>by
   rcases Jg hc with h3 | ⟨d,hd,h3⟩
   ·rw [h3];exact hf _
   ·rw [h3];exact h d hd)
  refine⟨h1,?_⟩
  have:=G4 out ⟨s.1,s.2,f s.1⟩
  show (lD f ss (iJ out ⟨s.1,s.2,f s.1⟩)).length<=_
  rw [dK];omega
theorem me: ∀(ys:List Int),(jq ys).length=ys.length - 1
 | []=>rfl
 | [_]=>rfl
 | a::b::l=>by
  show (jq (b::l)).length+1=_
  rw [me (b::l)];simp
theorem Ai: ∀(ys:List Int) (k:Nat) (h:k+1<ys.length),(jq ys)[k]? =some (ys[k],ys[k+1])
 | [],k,h=>by simp at h
 | [_],k,h=>by simp at h
 | a::b::l,0,h=>rfl
 | a::b::l,k+1,h=>by
  have:=Ai (b::l) k (by simp at h ⊢;omega)
  show (jq (b::l))[k]? =_
  rw [this];rfl
theorem Ej (f:Int->List Int) (ss:List (Int×Int)) (s:Int×Int) (out:List Bd):lD f (ss++[s]) out=iJ (lD f ss out) ⟨s.1,s.2,f s.1⟩:=by unfold lD;rw [List.foldl_append];rfl
theorem Aj {ys:List Int} (hy:iV ys) {f:Int->List Int} {B:Nat} (hf: ∀y,(f y).length<=B) (hB:B<=1099511627776) (hys:ys.length<=1073741824) {out:List bA} {k:Nat} (h1:1<=k) (hk:k<ys.length)
  (hI:out.map qZ=lD f ((jq ys).take (k - 1)) []) {r:List aK} (hr:cV (r.map sp)=f (ys[k - 1]'(by omega))) (hN:4398046511104<=N):
  Ok (gX N out ⟨ys[k - 1]'(by omega),ys[k],r⟩) (fun o=>o.map qZ=lD f ((jq ys).take k) []):=by
 have hlt:ys[k - 1]'(by omega)<ys[k]:=kE.1 hy (k - 1) k (by omega) hk (by omega)
 obtain⟨s1,s2⟩:=pA hf ((jq ys).take (k - 1)) [] (fun c hc=>by cases hc)
 have hol:out.length<=ys.length:=by
  have: (out.map qZ).length<=ys.length:=by
   rw [hI]
   have h3:=me ys
   rw [cI] at s2
   simp only [List.length_nil] at s2;omega
  rwa [dN] at this
 refine(Fm hlt (by omega) (fun c hc=>?_) hN).mono fun o ho=>?_
 ·have h3: (qZ c).xs.length<=B:=s1 _ (by rw [<-hI];exact cS.2 ⟨c,hc,rfl⟩)
  have h4: (qZ c).xs.length=2*c.ki.length:=by unfold qZ;rw [jf,dN]
  omega
 ·have hg:=Ai ys (k - 1) (by omega)
  have hts: (jq ys).take k= (jq ys).take (k - 1)++[(ys[k - 1]'(by omega),ys[k])]:=by
   have hl:k - 1< (jq ys).length:=by rw [me];omega
   have e:=eF hl
   rw [show k - 1+1=k by omega] at e
   rw [e]
   congr 1
   rw [aL hl] at hg
   injection hg with hg
   rw [hg];simp only [show k - 1+1=k by omega]
  rw [ho,hI,hts,Ej]
  congr 1
  unfold qZ
  simp only [hr]
def oX (b:bA):List aH:=b.ki.map fun s=>⟨s.from_,b.from_,s.to,b.to⟩
def kT (l:List bA):List aH:=l.flatMap oX
theorem Ek: ∀(l:List (Int×Int)),zR (cV l)=l
 | []=>rfl
 | s::l=>by rw [ij];show (s.1,s.2)::zR (cV l)=_;rw [Ek l]
theorem ya: ∀{l:List bA} {s:List aA},l.map qZ=s.map bT->kT l=aP s
 | [],[],_=>rfl
 | [],_::_,h=>by cases h
 | _::_,[],h=>by cases h
 | b::l,c::s,h=>by
  rw [dI,dI] at h
  injection h with h1 h2
  have e:=ya h2
  show oX b++kT l=l9 c++aP s
  rw [e]
  congr 1
  unfold qZ bT at h1
  injection h1 with g1 g2 g3
  unfold oX l9
  rw [<-g3,Ek,g1,g2,List.map_map]
  rfl
theorem El (l:List bA) (b:bA):kT (l++[b])=kT l++oX b:=by unfold kT;rw [List.flatMap_append];simp
theorem Gr {l:List bA} (hl:l.length<=1099511627776) (hs: ∀b∈l,b.ki.length<=1099511627776) (hr: (kT l).length<=1099511627776) (hN:4398046511104<=N):kM N l=some (kT l):=by
 refine Ok.get ?_
 unfold kM
 refine Ok.bind (Ok.rA (n:=l.length) (fun s=>s.2) (fun k s=>s.1=kT (l.take k)) (Go:=fun s=>s.1=kT l) (Rt:=fun _=>False) ?_ ?_ (eL _) rfl rfl (by omega)) ?_
 ·rintro k ⟨out,i⟩ hk e hI
  dsimp only at e hI ⊢
  subst e;subst hI
  rw [nG hk,aO]
  have hx:l[k]? =some l[k]:=aL hk
  have hsl:=hs _ (cO hk)
  have hts:kT (l.take (k+1))=kT (l.take k)++oX l[k]:=by rw [eF hk,El]
  have hlen: (kT (l.take k)).length+l[k].ki.length<=(kT l).length:=by
   have h1: (kT l).length= (kT (l.take (k+1))).length+ (kT (l.drop (k+1))).length:=by
    rw [<-cR];unfold kT;rw [<-List.flatMap_append,List.take_append_drop]
   have h2: (oX l[k]).length=l[k].ki.length:=by unfold oX;rw [dN]
   rw [hts,cR,h2] at h1;omega
  refine Ok.bind (Ok.rA (n:=l[k].ki.length) (fun s=>s.2) (fun j s=>s.1=kT (l.take k)++(oX l[k]).take j) (Go:=fun s=>s.1=kT (l.take (k+1))) (Rt:=fun _=>False) ?_ ?_ (eL _) rfl (by simp) (by omega)) ?_
  ·rintro j ⟨o2,i2⟩ hj e hI
   dsimp only at e hI ⊢
   subst e;subst hI
   have hy:l[k].ki[j]? =some l[k].ki[j]:=aL hj
   have hjr:j< (oX l[k]).length:=by unfold oX;rw [dN];exact hj
   refine Ok.ix hx ?_
   rw [nG hj,aO]
   refine Ok.ix hx (Ok.ix hy (Ok.ix hx (Ok.ix hx (Ok.ix hy (Ok.ix hx (Ok.app ?_ (Ok.nx ⟨bP (by omega),?_⟩)))))))
   ·rw [cR,cI];simp only [dK,List.length_nil];omega
   ·dsimp only
    rw [jK]
    congr 1
    rw [eF hjr]
    congr 1
    simp [oX]
  ·rintro⟨o2,i2⟩ e hI
   dsimp only at e hI ⊢
   subst e;subst hI
   refine Ok.ix hx ?_
   rw [qW,aN]
   refine Ok.br ?_
   dsimp only
   rw [hts]
   congr 1
   exact lE (by unfold oX;rw [dN];omega)
  intro o ho
  exact Ok.cs ho (fun s hs=>Ok.nx ⟨bP (by omega),hs⟩) (fun r hr=>hr.elim)
 ·rintro⟨out,i⟩ e hI
  dsimp only at e hI ⊢
  subst e
  rw [qW,aN]
  exact Ok.br (by rw [fw] at hI;exact hI)
 intro o ho
 exact Ok.cs ho (fun s hs=>Ok.ret hs) (fun r hr=>hr.elim)
theorem yb {l:List aH} {ys:List Int} (hm: ∀r∈l,r.Y0∈ys/\r.Y1∈ys) {s:Int×Int} {y:Int} (hs:s∈jq ys) (hy:iV ys) (h1:s.1<=y) (h2:y<s.2):j6 l y=j6 l s.1:=Fj fun r hr=>by
 obtain⟨m1,m2⟩:=hm r hr
 obtain⟨_,_,_,h⟩:=pE hy s hs
 rcases h _ m1 with h3 | h3 <;> rcases h _ m2 with h4 | h4 <;> constructor <;> intro h5 <;> omega
theorem CL {l:List aH} {ys:List Int} (hm: ∀r∈l,r.Y0∈ys/\r.Y1∈ys) {y:Int} (h: (∀c∈ys,y<c)\/(∀c∈ys,c<=y)):j6 l y= []:=Jf fun r hr hc=>by
 obtain⟨m1,m2⟩:=hm r hr
 rcases h with h | h
 ·have:=h _ m1;omega
 ·have:=h _ m2;omega
theorem CM {l:List aH}: ∀r∈l,r.Y0∈jA (iu l)/\r.Y1∈jA (iu l):=fun r hr=>⟨x9.2 (ky.2 ⟨r,hr, .inl rfl⟩),x9.2 (ky.2 ⟨r,hr, .inr rfl⟩)⟩
theorem Jh (l:List aH): (jA (iu l)).length<=2*l.length:=by
 have:=rL (iu l)
 rwa [iD] at this
theorem sw {l:List aH} {s:List aA} (hc:eA (s.map bT)) (hcov: ∀x y,th (s.map bT) x y=te l x y) (hl:l.length<=10000000) (hok: ∀r∈l,r.X0<r.X1) (hr: (aP s).length<=1099511627776) (hN:4398046511104<=N):
  gD N l=some (aP s):=by
 refine Ok.get ?_
 unfold gD
 refine Ok.eq (Ag (by omega) hN) ?_
 have hyl:=Jh l
 have hyi:=mC (iu l)
 have hf: ∀y,iV (cV (j6 l y))/\(cV (j6 l y)).length % 2=0:=fun y=>⟨(uO hok y).1,by rw [jf];omega⟩
 have hfl: ∀y,(cV (j6 l y)).length<=20000000:=fun y=>by rw [jf];have:=rM l y;omega
 obtain⟨b1,b2⟩:=yr (f:=fun y=>cV (j6 l y)) hf hyi (fun t ht y h1 h2=>by (try dsimp only);rw [yb CM ht hyi h1 h2]) (fun y h=>by (try dsimp only);rw [CL CM h];rfl)
 have hsame:lD (fun y=>cV (j6 l y)) (jq (jA (iu l))) []=s.map bT:=sd b1 hc fun x y=>by
  rw [hcov];unfold th;rw [b2,rC (hf y).1,(uO hok y).2]
 have hmy:= @CM l
 generalize jA (iu l)=ys at *
 refine Ok.bind (Ok.rA (n:=max 1 ys.length) (fun s=>s.2) (fun k st=>1<=k/\st.1.map qZ=lD (fun y=>cV (j6 l y)) ((jq ys).take (k - 1)) []) (Go:=fun st=>st.1.map qZ=s.map bT) (Rt:=fun _=>False) ?_ ?_ (k0:=1) (by omega) rfl ⟨bJ _,rfl⟩ (by omega)) ?_
 ·rintro k ⟨out,i⟩ hk e ⟨hk1,hI⟩
  dsimp only at e hI ⊢
  subst e
  have hk2:k<ys.length:=by omega
  rw [nG hk2,aO,fN hk1 (by omega)]
  refine Ok.idx (by omega) (Ok.idx hk2 (Ok.idx (by omega) (Ok.bind (Fk (by omega) hN) fun r hr=>Ok.bind (Aj hyi (f:=fun y=>cV (j6 l y)) hfl (by omega) (by omega) hk1 hk2 hI (by (try dsimp only);rw [hr]) hN) fun o ho=>Ok.nx ⟨bP (by omega),by omega,?_⟩)))
  rw [yQ];exact ho
 ·rintro⟨out,i⟩ e ⟨hk1,hI⟩
  dsimp only at e hI ⊢
  subst e
  rw [yw (by omega),aN]
  refine Ok.br ?_
  rw [lE (by rw [me];omega),hsame] at hI
  exact hI
 intro o ho
 refine Ok.cs ho (fun st hs=>?_) (fun r hr=>hr.elim)
 have e:=ya hs
 obtain⟨s1,s2⟩:=pA (f:=fun y=>cV (j6 l y)) hfl (jq ys) [] (fun c hc=>by cases hc)
 refine Ok.eq (Gr (l:=st.1) ?_ ?_ (by rw [e];exact hr) hN) (Ok.ret e)
 ·have: (st.1.map qZ).length<=ys.length:=by rw [hs,<-hsame];have:=me ys;simp only [List.length_nil] at s2;omega
  rw [dN] at this;omega
 ·intro b hb
  have h3:=s1 (qZ b) (by rw [hsame,<-hs];exact cS.2 ⟨b,hb,rfl⟩)
  have h4: (qZ b).xs.length=2*b.ki.length:=by unfold qZ;rw [jf,dN]
  omega
def qe (w:Int) (p q:Bool):Bool:=((((w==1)&&(p||q))||(((w==2)&&p)&&q))||(((w==3)&&p)&&(!q)))
theorem Ji (w:Int):qe w false false=false:=by unfold qe;simp
theorem yz (fS:Bool->Bool->Bool) (a b ss:List (Int×Int)) (s:Int×Int) (out:List (Int×Int)):lC fS a b (ss++[s]) out=if fS (ig a s.1) (ig b s.1)=true then kQ (lC fS a b ss out) s else lC fS a b ss out:=by unfold lC;rw [List.foldl_append];rfl
theorem vX (fS:Bool->Bool->Bool) (a b:List (Int×Int)): ∀(ss out:List (Int×Int)),(lC fS a b ss out).length<=out.length+ss.length
 | [],out=>by simp [lC]
 | s::ss,out=>by
  have h1:=vX fS a b ss (if fS (ig a s.1) (ig b s.1)=true then kQ out s else out)
  have h2: (if fS (ig a s.1) (ig b s.1)=true then kQ out s else out).length<=out.length+1:=by
   split
   ·exact yx _ _
   ·omega
  show (lC fS a b ss (if fS (ig a s.1) (ig b s.1)=true then kQ out s else out)).length<=_
  rw [dK];omega
def yA (a b:List (Int×Int)):List Int:=jA (cV a++cV b)
theorem BH (a b:List (Int×Int)): (yA a b).length<=2*a.length+2*b.length:=by
 have:=rL (cV a++cV b)
 rw [cR,jf,jf] at this
 exact this
theorem Jj {a b:List aK} {w:Int} (ha:a.length<=10000000) (hb:b.length<=10000000) (hN:4398046511104<=N):
  Ok (mE N a b w) (fun r=>r.map sp=lC (qe w) (a.map sp) (b.map sp) (jq (yA (a.map sp) (b.map sp))) []):=by
 unfold mE
 have hfl: ∀(l:List aK),(jA (cV (l.map sp))).length<=2*l.length:=fun l=>by
  have:=rL (cV (l.map sp))
  rwa [jf,dN] at this
 refine Ok.bind (Ok.rA (n:=a.length) (fun s=>s.2) (fun k s=>s.1=jA (cV ((a.take k).map sp))) (Go:=fun s=>s.1=jA (cV (a.map sp))) (Rt:=fun _=>False) ?_ ?_ (eL _) rfl rfl (by omega)) ?_
 ·rintro k ⟨out,i⟩ hk e hI
  dsimp only at e hI ⊢
  subst e;subst hI
  rw [nG hk,aO]
  have hx:a[k]? =some a[k]:=aL hk
  have h1:=hfl (a.take k)
  rw [cI] at h1
  have h2:=xg (jA (cV ((a.take k).map sp))) a[k].from_
  refine Ok.ix hx (Ok.ix hx (Ok.eq (uM (mC _) (by omega) hN) (Ok.eq (uM (xh (mC _)) (by omega) hN) (Ok.nx ⟨bP (by omega),?_⟩))))
  rw [eF hk,dU,sf]
  exact(ue _ _ _).symm
 ·rintro⟨out,i⟩ e hI
  dsimp only at e hI ⊢
  subst e
  rw [qW,aN]
  exact Ok.br (by rw [fw] at hI;exact hI)
 intro o ho
 refine Ok.cs ho ?_ (fun r hr=>hr.elim)
 rintro⟨xa,ia⟩ hxa
 dsimp only at hxa ⊢
 subst hxa
 refine Ok.bind (Ok.rA (n:=b.length) (fun s=>s.2) (fun k s=>s.1=jA (cV (a.map sp)++cV ((b.take k).map sp))) (Go:=fun s=>s.1=yA (a.map sp) (b.map sp)) (Rt:=fun _=>False) ?_ ?_ (eL _) rfl (by simp [cV]) (by omega)) ?_
 ·rintro k ⟨out,i⟩ hk e hI
  dsimp only at e hI ⊢
  subst e;subst hI
  rw [nG hk,aO]
  have hx:b[k]? =some b[k]:=aL hk
  have h1:=rL (cV (a.map sp)++cV ((b.take k).map sp))
  rw [cR,jf,jf,dN,dN,cI] at h1
  have h2:=xg (jA (cV (a.map sp)++cV ((b.take k).map sp))) b[k].from_
  refine Ok.ix hx (Ok.ix hx (Ok.eq (uM (mC _) (by omega) hN) (Ok.eq (uM (xh (mC _)) (by omega) hN) (Ok.nx ⟨bP (by omega),?_⟩))))
  rw [eF hk,dU,sf,<-jK]
  exact(ue _ _ _).symm
 ·rintro⟨out,i⟩ e hI
  dsimp only at e hI ⊢
  subst e
  rw [qW,aN]
  exact Ok.br (by rw [fw] at hI;exact hI)
 intro o ho
 refine Ok.cs ho ?_ (fun r hr=>hr.elim)
 rintro⟨xs,ix⟩ hxs
 dsimp only at hxs ⊢
 have hxl:=BH (a.map sp) (b.map sp)
 rw [<-hxs,dN,dN] at hxl
 rw [<-hxs]
 clear hxs
 refine Ok.bind (Ok.rA (n:=max 1 xs.length) (fun s=>s.2) (fun k st=>1<=k/\st.1.map sp=lC (qe w) (a.map sp) (b.map sp) ((jq xs).take (k - 1)) []) (Go:=fun st=>st.1.map sp=lC (qe w) (a.map sp) (b.map sp) (jq xs) []) (Rt:=fun _=>False) ?_ ?_ (k0:=1) (by omega) rfl ⟨bJ _,rfl⟩ (by omega)) ?_
 ·rintro k ⟨out,i⟩ hk e ⟨hk1,hI⟩
  dsimp only at e hI ⊢
  subst e
  have hk2:k<xs.length:=by omega
  rw [nG hk2,aO,fN hk1 (by omega)]
  have hx:xs[k - 1]? =some (xs[k - 1]'(by omega)):=aL _
  have hy:xs[k]? =some xs[k]:=aL hk2
  have hg:=Ai xs (k - 1) (by omega)
  have hts: (jq xs).take k= (jq xs).take (k - 1)++[(xs[k - 1]'(by omega),xs[k])]:=by
   have hl:k - 1< (jq xs).length:=by rw [me];omega
   have e:=eF hl
   rw [show k - 1+1=k by omega] at e
   rw [e]
   congr 1
   rw [aL hl] at hg
   injection hg with hg
   rw [hg];simp only [show k - 1+1=k by omega]
  have hol:out.length<=xs.length:=by
   have h1:=vX (qe w) (a.map sp) (b.map sp) ((jq xs).take (k - 1)) []
   rw [<-hI,dN,cI,me] at h1
   simp only [List.length_nil] at h1;omega
  refine Ok.ix hx (Ok.ix hx (Ok.eq (BG (by omega) hN) (Ok.eq (BG (by omega) hN) ?_)))
  refine Ok.bind (P:=fun r:List aK=>r.map sp=lC (qe w) (a.map sp) (b.map sp) ((jq xs).take k) []) (Ok.bif (fun hb=>?_) (fun hb=>?_)) (fun r hr=>Ok.nx ⟨bP (by omega),by omega,by rw [yQ];exact hr⟩)
  ·refine Ok.ix hx (Ok.ix hy (Ok.bind (BF (by omega) hN) (fun r hr=>Ok.ret ?_)))
   rw [hr,hI,hts,yz,aC (show qe w _ _=true from hb)];rfl
  ·refine Ok.ret ?_
   rw [hI,hts,yz,aD (show ¬qe w _ _=true by rw [kb];exact hb)]
 ·rintro⟨out,i⟩ e ⟨hk1,hI⟩
  dsimp only at e hI ⊢
  subst e
  rw [yw (by omega),aN]
  refine Ok.br ?_
  rw [lE (by rw [me];omega)] at hI
  exact hI
 intro o ho
 exact Ok.cs ho (fun s hs=>Ok.ret hs) (fun r hr=>hr.elim)
def m8 (w:Int) (a b:List aH) (y:Int):List (Int×Int):=lC (qe w) (j6 a y) (j6 b y) (jq (yA (j6 a y) (j6 b y))) []
theorem Em (a b:List (Int×Int)):Ends a (yA a b)/\Ends b (yA a b):=by
 constructor <;> intro s hs <;> constructor <;> refine x9.2 (cY.2 ?_)
 ·exact .inl (List.mem_flatMap.2 ⟨s,hs,by simp⟩)
 ·exact .inl (List.mem_flatMap.2 ⟨s,hs,by simp⟩)
 ·exact .inr (List.mem_flatMap.2 ⟨s,hs,by simp⟩)
 ·exact .inr (List.mem_flatMap.2 ⟨s,hs,by simp⟩)
theorem yB {a b:List aH} (ha: ∀r∈a,r.X0<r.X1) (hb: ∀r∈b,r.X0<r.X1) (w y:Int):iV (cV (m8 w a b y))/\∀x,ig (m8 w a b y) x=qe w (te a x y) (te b x y):=by
 obtain⟨h1,h2⟩:=DX (fS:=qe w) (Ji w) (a:=j6 a y) (b:=j6 b y) (xs:=yA (j6 a y) (j6 b y)) (mC _) (Em _ _).1 (Em _ _).2
 exact⟨h1,fun x=>by rw [show ig (m8 w a b y) x=_ from h2 x,(uO ha y).2,(uO hb y).2]⟩
theorem Fp (w:Int) (a b:List aH) (y:Int): (m8 w a b y).length<=2*a.length+2*b.length:=by
 have h1:=vX (qe w) (j6 a y) (j6 b y) (jq (yA (j6 a y) (j6 b y))) []
 have h2:=BH (j6 a y) (j6 b y)
 have h3:=rM a y
 have h4:=rM b y
 rw [me] at h1
 unfold m8
 simp only [List.length_nil] at h1;omega
theorem En {a b:List aH} {w:Int} {s:List aA} (hc:eA (s.map bT)) (hcov: ∀x y,th (s.map bT) x y=qe w (te a x y) (te b x y)) (hla:a.length<=10000000) (hlb:b.length<=10000000)
  (ha: ∀r∈a,r.X0<r.X1) (hb: ∀r∈b,r.X0<r.X1) (hr: (aP s).length<=1099511627776) (hN:4398046511104<=N):i5 N a b w=some (aP s):=by
 refine Ok.get ?_
 unfold i5
 refine Ok.app (by simp only [List.length_nil];omega) (Ok.app (by rw [List.nil_append];omega) ?_)
 rw [List.nil_append]
 refine Ok.eq (Ag (by rw [cR];omega) hN) ?_
 have hyl:=Jh (a++b)
 rw [cR] at hyl
 have hyi:=mC (iu (a++b))
 have hmy:= @CM (a++b)
 have hma: ∀r∈a,r.Y0∈jA (iu (a++b))/\r.Y1∈jA (iu (a++b)):=fun r hr=>hmy r (List.mem_append_left _ hr)
 have hmb: ∀r∈b,r.Y0∈jA (iu (a++b))/\r.Y1∈jA (iu (a++b)):=fun r hr=>hmy r (List.mem_append_right _ hr)
 have hf: ∀y,iV (cV (m8 w a b y))/\(cV (m8 w a b y)).length % 2=0:=fun y=>⟨(yB ha hb w y).1,by rw [jf];omega⟩
 have hfl: ∀y,(cV (m8 w a b y)).length<=80000000:=fun y=>by rw [jf];have:=Fp w a b y;omega
 obtain⟨b1,b2⟩:=yr (f:=fun y=>cV (m8 w a b y)) hf hyi (fun t ht y h1 h2=>by (try dsimp only);unfold m8;rw [yb hma ht hyi h1 h2,yb hmb ht hyi h1 h2]) (fun y h=>by
  (try dsimp only);unfold m8;rw [CL hma h,CL hmb h];rfl)
 have hsame:lD (fun y=>cV (m8 w a b y)) (jq (jA (iu (a++b)))) []=s.map bT:=sd b1 hc fun x y=>by
  rw [hcov];unfold th;rw [b2,rC (hf y).1,(yB ha hb w y).2]
 clear hmy hma hmb
 generalize jA (iu (a++b))=ys at *
 refine Ok.bind (Ok.rA (n:=max 1 ys.length) (fun s=>s.2) (fun k st=>1<=k/\st.1.map qZ=lD (fun y=>cV (m8 w a b y)) ((jq ys).take (k - 1)) []) (Go:=fun st=>st.1.map qZ=s.map bT) (Rt:=fun _=>False) ?_ ?_ (k0:=1) (by omega) rfl ⟨bJ _,rfl⟩ (by omega)) ?_
 ·rintro k ⟨out,i⟩ hk e ⟨hk1,hI⟩
  dsimp only at e hI ⊢
  subst e
  have hk2:k<ys.length:=by omega
  rw [nG hk2,aO,fN hk1 (by omega)]
  refine Ok.idx (by omega) (Ok.idx hk2 (Ok.idx (by omega) (Ok.idx (by omega) (Ok.bind (Fk (by omega) hN) fun r1 hr1=>Ok.bind (Fk (by omega) hN) fun r2 hr2=>?_))))
  have l1:r1.length<=10000000:=by have:=rM a (ys[k - 1]'(by omega));rw [<-hr1,dN] at this;omega
  have l2:r2.length<=10000000:=by have:=rM b (ys[k - 1]'(by omega));rw [<-hr2,dN] at this;omega
  refine Ok.bind (Jj l1 l2 hN) fun r hr=>Ok.bind (Aj hyi (f:=fun y=>cV (m8 w a b y)) hfl (by omega) (by omega) hk1 hk2 hI (by (try dsimp only);rw [hr,hr1,hr2];rfl) hN) fun o ho=>Ok.nx ⟨bP (by omega),by omega,?_⟩
  rw [yQ];exact ho
 ·rintro⟨out,i⟩ e ⟨hk1,hI⟩
  dsimp only at e hI ⊢
  subst e
  rw [yw (by omega),aN]
  refine Ok.br ?_
  rw [lE (by rw [me];omega),hsame] at hI
  exact hI
 intro o ho
 refine Ok.cs ho (fun st hs=>?_) (fun r hr=>hr.elim)
 have e:=ya hs
 obtain⟨s1,s2⟩:=pA (f:=fun y=>cV (m8 w a b y)) hfl (jq ys) [] (fun c hc=>by cases hc)
 refine Ok.eq (Gr (l:=st.1) ?_ ?_ (by rw [e];exact hr) hN) (Ok.ret e)
 ·have: (st.1.map qZ).length<=ys.length:=by rw [hs,<-hsame];have:=me ys;simp only [List.length_nil] at s2;omega
  rw [dN] at this;omega
 ·intro b hb
  have h3:=s1 (qZ b) (by rw [hsame,<-hs];exact cS.2 ⟨b,hb,rfl⟩)
  have h4: (qZ b).xs.length=2*b.ki.length:=by unfold qZ;rw [jf,dN]
  omega
theorem CN (n:Int):cL N n=some (kz n):=rfl
theorem Ak {l:List aH} (hl:l.length<=1099511627776) (hN:4398046511104<=N):j8 N l=some (kA l):=by
 refine Ok.get ?_
 unfold j8 kA
 by_cases h:2000<l.length
 ·rw [bG (by omega),aO,aC h];exact Ok.ret rfl
 ·rw [bI (by omega),aN,aD h]
  refine Ok.bind (Ok.rA (n:=l.length) (fun s=>s) (fun k s=>∀(j:Nat) x,j<k->l[j]? =some x->j3 x=none) (Go:=fun s=>l.findSome? j3=none) (Rt:=fun r=>l.findSome? j3=some r) ?_ ?_ (eL _) rfl (fun j x hj=>by omega) (by omega)) ?_
  ·rintro k i hk e hI
   subst e
   rw [nG hk,aO]
   have hx:l[k]? =some l[k]:=aL hk
   have hrt: ∀c,j3 l[k]=some c->l.findSome? j3=some c:=fun c hc=>by
    rw [List.findSome?_eq_some_iff]
    refine⟨l.take k,l[k],l.drop (k+1),?_,hc,fun x hx'=>?_⟩
    ·rw [List.getElem_cons_drop,List.take_append_drop]
    ·obtain⟨j,hj⟩:=dV hx'
     have hjk:j<k:=by have:=(aW.1 hj).1;rw [cI] at this;omega
     exact hI j x hjk (by rw [List.getElem?_take_of_lt hjk] at hj;exact hj)
   refine Ok.ix hx ?_
   have hb: ((cL N l[k].X0).bind fun x110=>bif (!x110) then (some true) else ((cL N l[k].Y0).bind fun x112=>bif (!x112) then (some true) else ((cL N l[k].X1).bind fun x114=>bif (!x114) then (some true) else ((cL N l[k].Y1).bind fun x116=>some (!x116)))))=some (!eU l[k]):=by
    rw [CN,CN,CN,CN]
    unfold eU
    simp only [aB]
    cases kz l[k].X0 <;> cases kz l[k].Y0 <;> cases kz l[k].X1 <;> rfl
   refine Ok.eq hb (Ok.bif (fun h1=>Ok.rt (hrt 1 ?_)) (fun h1=>Ok.bif (fun h2=>Ok.rt (hrt 13 ?_)) (fun h2=>Ok.nx ⟨bP (by omega),fun j x hj hjx=>?_⟩)))
   ·unfold j3;rw [aD (by rw [kb];simpa using h1)]
   ·unfold j3
    rw [aC (by simpa using h1),aC (by rw [cX,bB,bB] at h2;exact h2)]
   ·by_cases e:j=k
    ·subst e;rw [hx] at hjx;injection hjx with hjx;rw [<-hjx]
     unfold j3
     rw [aC (by simpa using h1),aD (by rw [<-kb,cX,bB,bB] at h2;exact h2)]
    ·exact hI j x (by omega) hjx
  ·rintro i e hI
   subst e
   rw [qW,aN]
   refine Ok.br ?_
   rw [List.findSome?_eq_none_iff]
   intro x hx
   obtain⟨j,hj⟩:=dV hx
   exact hI j x (aW.1 hj).1 hj
  intro o ho
  exact Ok.cs ho (fun s hs=>Ok.ret (by rw [hs];rfl)) (fun r hr=>Ok.ret (by rw [hr];rfl))
theorem Fq {l:List aH} {s:List aA} (hs:pZ l s):z9 l↔aP s=l:=⟨fun⟨t,h1,h2⟩=>by rw [hs.unique h1];exact h2,fun h=>⟨s,hs,h⟩⟩
theorem sL {l:List aH} (hl:l.length<=1073741824) (hN:4398046511104<=N):gV N l=some (gU l):=by
 refine Ok.get ?_
 unfold gV
 refine Ok.eq (Ak (by omega) hN) ?_
 unfold gU
 refine Ok.bif (fun h=>Ok.ret ?_) (fun h=>?_)
 ·rw [aC (by simpa using h)]
 ·have h0:kA l=0:=by simpa using h
  rw [aD (by simpa using h0)]
  obtain⟨hlen,hok⟩:=CF h0
  have hbf: ∀a b:aH,(((decide (a.Y0<b.Y0))||((a.Y0==b.Y0)&&(decide (a.X0<b.X0))))=true)↔¬(b.Y0<a.Y0\/(b.Y0=a.Y0/\b.X0<=a.X0)):=fun a b=>by
   rw [cX,bR,bB,bB,beq_iff_eq];omega
  refine Ok.bind (Ok.jB (Go:=fun _=>LS l) (Rt:=fun r=>r=8/\¬LS l) (fun s=>∃k:Nat,s= ((k:Nat):Int)/\1<=k/\∀(j:Nat) a b,j+1<k->l[j]? =some a->l[j+1]? =some b->¬(b.Y0<a.Y0\/(b.Y0=a.Y0/\b.X0<=a.X0))) (fun s=>l.length - s.toNat) ?_ ⟨1,rfl,bJ _,fun j a b hj=>by omega⟩ (by simp;omega)) ?_
  ·rintro s ⟨k,rfl,hk,hI⟩
   refine Ok.bif (fun h=>?_) (fun h=>Ok.br fun j a b ha hb=>hI j a b ?_ ha hb)
   ·have hk2:k<l.length:=by have:=of_decide_eq_true h;omega
    rw [fN hk (by omega)]
    have hx:l[k - 1]? =some (l[k - 1]'(by omega)):=aL _
    have hy:l[k]? =some l[k]:=aL hk2
    refine Ok.ix hx (Ok.ix hy ?_)
    unfold jS
    rw [aB]
    refine Ok.bif (fun hb=>Ok.rt ⟨rfl,fun hu=>?_⟩) (fun hb=>Ok.nx ⟨⟨k+1,by rw [bP (by omega)],by omega,fun j a b hj ha hb'=>?_⟩,by rw [bP (by omega)];simp only [bX];omega⟩)
    ·have:=(hbf _ _).2 (hu (k - 1) _ _ hx (by rw [show k - 1+1=k by omega];exact hy))
     rw [this] at hb;cases hb
    ·by_cases e:j+1<k
     ·exact hI j a b e ha hb'
     ·have:j+1=k:=by omega
      have h1:l[k - 1]? =some a:=by rw [show k - 1=j by omega];exact ha
      have h2:l[k]? =some b:=by rw [<-this];exact hb'
      rw [hx] at h1;rw [hy] at h2
      injection h1 with h1;injection h2 with h2
      rw [<-h1,<-h2]
      refine(hbf _ _).1 ?_
      rw [Bool.not_eq_false'] at hb
      exact hb
   ·have:=of_decide_eq_false h
    have:=(aW.1 hb).1;omega
  ·rintro o ho
   refine Ok.cs ho (fun s hu=>?_) (fun r hr=>Ok.ret (by rw [hr.1,aD hr.2]))
   rw [aC hu]
   obtain⟨s,_,hs⟩:=oh (N:=N) (l:=l) (by omega) hok (by omega)
   obtain⟨z1,z2,z3⟩:=hs.D8
   have z4:2*l.length* (2*l.length)<=4000*4000:=Nat.mul_le_mul (by omega) (by omega)
   refine Ok.eq (sw hs.can hs.cover (by omega) (fun r hr=>(hok r hr).x) (by omega) hN) (Ok.eq (CJ (by omega) hN) ?_)
   have hiff:=Fq hs
   refine Ok.bif (fun h=>Ok.ret ?_) (fun h=>Ok.ret ?_)
   ·have h: ¬l=aP s:=by simpa using h
    rw [aD (fun h'=>h (hiff.1 h').symm)]
   ·have h:l=aP s:=by simpa using h
    rw [aC (hiff.2 h.symm)]
end
end Go.Gk
namespace Go.Gk
open Go Classical
theorem Al (n:Nat) (g:Nat->Nat): ((List.range (n+1)).map g).sum= ((List.range n).map g).sum+g n:=by
 rw [List.range_succ,dU,List.sum_append];simp
def N7 (r:aH) (x y:Int):Bool:=(decide (r.X0<=x)&&decide (x<r.X1))&&(decide (r.Y0<=y)&&decide (y<r.Y1))
def NW (a b:aH):Prop:=∀x y,¬(N7 a x y=true/\N7 b x y=true)
theorem Kf {r:aH} {x y:Int}:N7 r x y=true↔(r.X0<=x/\x<r.X1)/\r.Y0<=y/\y<r.Y1:=by unfold N7;simp
theorem xl: ∀{xs:List Int},iV xs->(zR xs).Pairwise (fun p q=>p.2<q.1)
 | [],_=>iG
 | [a],_=>iG
 | a::b::l,h=>by
  unfold zR
  rw [mg]
  exact⟨fun q hq=>h.tail.head q.1 (CA q hq).1,xl h.tail.tail⟩
def qf (a b:aH):Prop:=a.Y1<=b.Y0\/(a.Y0=b.Y0/\a.Y1=b.Y1/\a.X1<b.X0)
theorem qf.apart {a b:aH} (h:qf a b):NW a b:=fun x y ⟨h1,h2⟩=>by
 rw [Kf] at h1 h2
 rcases h with h | h <;> omega
theorem pB: ∀{s:List aA},eA (s.map bT)->(aP s).Pairwise qf
 | [],_=>iG
 | b::s,h=>by
  rw [ma,mh]
  refine⟨?_,pB h.tail,fun x hx y hy=>?_⟩
  ·unfold l9
   rw [List.pairwise_map]
   exact List.Pairwise.imp (fun hpq=> .inr ⟨rfl,rfl,hpq⟩) (xl (h.each (bT b) (by simp)).2.2.1)
  ·unfold l9 at hx
   obtain⟨p,_,rfl⟩:=cS.1 hx
   obtain⟨c,hc,q,_,rfl⟩:=pF hy
   exact .inl (h.zM (bT c) (cS.2 ⟨c,hc,rfl⟩))
theorem rN {s:List aA} (h:eA (s.map bT)): ∀r∈aP s,r.X0<r.X1/\r.Y0<r.Y1:=fun r hr=>by
 obtain⟨b,hb,p,hp,rfl⟩:=pF hr
 have hc:=h.each (bT b) (cS.2 ⟨b,hb,rfl⟩)
 exact⟨E5 hc.2.2.1 p hp,hc.1⟩
theorem Eo {s:List aA} (h:eA (s.map bT)): (aP s).Nodup:=by
 have h1:=pB h
 have h2:=rN h
 refine List.Pairwise.imp_of_mem (fun{a b} ha hb hab e=>?_) h1
 subst e
 have:=h2 a ha
 rcases hab with h | h <;> omega
def oY (s:List Bd):Nat:=(s.map (fun b=>b.xs.length / 2)).sum
theorem ug (s t:List Bd):oY (s++t)=oY s+oY t:=by unfold oY;rw [dU,List.sum_append]
theorem Hj (s:List Bd) (b:Bd):oY (iJ s b)<=oY s+b.xs.length / 2:=by
 unfold iJ
 split
 ·omega
 ·split
  ·rename_i c hc
   have hsp:=pY hc
   have e:oY s=oY s.dropLast+c.xs.length / 2:=by
    conv=>lhs;rw [hsp,ug]
    simp [oY]
   split
   ·rw [ug,e];simp [oY]
   ·rw [ug];simp [oY]
  ·simp [oY]
structure Py (t:List Bd):Prop where
 each: ∀b∈t,b.y0<b.y1/\iV b.xs/\b.xs.length % 2=0
 ord:t.Pairwise (fun b c=>b.y1<=c.y0)
theorem fold_push: ∀(t out:List Bd),Py t->eA out->(∀c∈out,∀b∈t,c.y1<=b.y0)->eA (t.foldl iJ out)/\oY (t.foldl iJ out)<=oY out+oY t/\
  ∀y,rowAt (t.foldl iJ out) y=if (∃b∈t,b.y0<=y/\y<b.y1) then rowAt t y else rowAt out y
 | [],out,_,hc,_=>⟨hc,by simp [oY],fun y=>by simp⟩
 | b::t,out,hl,hc,ho=>by
  have hb:=hl.each b (by simp)
  have hord:=mg.1 hl.ord
  have ho1: ∀c∈out,c.y1<=b.y0:=fun c h=>ho c h b (by simp)
  have h1:=uD hc ho1 hb.2.1 hb.2.2
  have htop:=uE ho1 (show b.y0<=b.y1 by omega)
  obtain⟨f1,f2,f3⟩:=fold_push t (iJ out b) ⟨fun c hcm=>hl.each c (gh _ hcm),hord.2⟩ h1 (fun c hcm d hd=>by have:=htop c hcm;have:=hord.1 d hd;omega)
  refine⟨f1,?_,fun y=>?_⟩
  ·have:=Hj out b
   have e:oY (b::t)=b.xs.length / 2+oY t:=by simp [oY]
   rw [List.foldl_cons,e];omega
  ·rw [List.foldl_cons,f3 y,uC ho1 (fun c hcm=>(hc.each c hcm).1) (fun h=>absurd h (by omega)),l7]
   by_cases hy:b.y0<=y/\y<b.y1
   ·have hn: ¬∃c∈t,c.y0<=y/\y<c.y1:=fun⟨c,hcm,h⟩=>by have:=hord.1 c hcm;omega
    rw [aD hn,aC hy,aC ⟨b,by simp,hy⟩,aC hy]
   ·rw [aD hy]
    by_cases h: ∃c∈t,c.y0<=y/\y<c.y1
    ·obtain⟨c,hcm,h⟩:=h
     rw [aC ⟨c,hcm,h⟩,aC ⟨c,gh _ hcm,h⟩,aD hy]
    ·rw [aD h,aD hy,aD (show ¬∃c∈b::t,c.y0<=y/\y<c.y1 from fun⟨c,hcm,h2⟩=>by
      rcases cT.1 hcm with rfl | hcm
      ·exact hy h2
      ·exact h ⟨c,hcm,h2⟩)]
noncomputable def pj (C:List aH) (b:aA):Bd:=⟨b.Y0,b.Y1,cV ((zR b.Xs).filter (fun p=>decide ((⟨p.1,b.Y0,p.2,b.Y1⟩:aH)∈C)))⟩
theorem Hk {l m:List (Int×Int)} (h:l.Sublist m): (cV l).Sublist (cV m):=by
 induction h with
 | slnil=>exact List.Sublist.refl _
 | cons a _ ih=>rw [ij];exact(ih.cons _).cons _
 | cons_cons a _ ih=>rw [ij,ij];exact(ih.cons_cons _).cons_cons _
theorem Am (l:List (Int×Int)): (cV l).length % 2=0/\(cV l).length / 2=l.length:=by rw [jf];omega
theorem BJ {s p:List aA} {C:List aH} (hs:eA (s.map bT)) (hp:eA (p.map bT)) (hC: ∀r∈C,r∈aP s) (hcov: ∀x y,th (p.map bT) x y=te C x y): (aP p).length<=C.length:=by
 have hinc: ∀b∈s,iV (pj C b).xs:=fun b hb=>by
  have h1:=Gi hs b hb
  have h2:=Hk (List.filter_sublist (l:=zR b.Xs) (p:=fun p=>decide ((⟨p.1,b.Y0,p.2,b.Y1⟩:aH)∈C)))
  rw [wY (rI hs b hb)] at h2
  exact List.Pairwise.sublist h2 h1
 have hlow:Py (s.map (pj C)):=by
  refine⟨fun b hb=>?_,?_⟩
  ·obtain⟨c,hc,rfl⟩:=cS.1 hb
   exact⟨(hs.each (bT c) (cS.2 ⟨c,hc,rfl⟩)).1,hinc c hc,(Am _).1⟩
  ·have:=hs.ord
   rw [List.pairwise_map] at this ⊢
   exact List.Pairwise.imp (fun h=>h.1) this
 obtain⟨f1,f2,f3⟩:=fold_push (s.map (pj C)) [] hlow eA.nil (fun c hc=>by cases hc)
 have hrow: ∀{t:List aA},(∀b∈t,b∈s)->∀x y,nK (rowAt (t.map (pj C)) y) x=true->te C x y=true:=by
  intro t ht x y h
  induction t with
  | nil=>cases h
  | cons b t ih=>
   rw [dI,l7] at h
   split at h
   ·rename_i hy
    have hbm:=ht b (by simp)
    have h1:=hinc b hbm
    have h:nK (cV ((zR b.Xs).filter (fun p=>decide ((⟨p.1,b.Y0,p.2,b.Y1⟩:aH)∈C)))) x=true:=h
    rw [rC h1,rB] at h
    obtain⟨q,hq,h2⟩:=h
    have hq:=ka.1 hq
    exact ir.2 ⟨_,of_decide_eq_true hq.2,h2,hy⟩
   ·exact ih (fun c hc=>ht c (gh _ hc)) h
 have hrow2: ∀x y,te C x y=true->nK (rowAt (s.map (pj C)) y) x=true:=by
  intro x y h
  obtain⟨r,hr,h1,h2⟩:=ir.1 h
  obtain⟨b,hb,q,hq,rfl⟩:=pF (hC r hr)
  dsimp only at h1 h2
  have key: ∀{t:List aA},(∀c∈t,c∈s)->eA (t.map bT)->b∈t->rowAt (t.map (pj C)) y= (pj C b).xs:=by
   intro t ht hc hbt
   induction t with
   | nil=>cases hbt
   | cons c t ih=>
    rw [dI,l7]
    by_cases hy:c.Y0<=y/\y<c.Y1
    ·rw [aC (show (pj C c).y0<=y/\y< (pj C c).y1 from hy)]
     rcases cT.1 hbt with rfl | hbt
     ·rfl
     ·have:=hc.zM (bT b) (cS.2 ⟨b,hbt,rfl⟩)
      have e1: (bT c).y1=c.Y1:=rfl
      have e2: (bT b).y0=b.Y0:=rfl
      omega
    ·rw [aD (show ¬((pj C c).y0<=y/\y< (pj C c).y1) from hy)]
     rcases cT.1 hbt with rfl | hbt
     ·exact absurd h2 hy
     ·exact ih (fun d hd=>ht d (gh _ hd)) hc.tail hbt
  rw [key (fun c hc=>hc) hs hb]
  have h1':=hinc b hb
  show nK (cV ((zR b.Xs).filter (fun p=>decide ((⟨p.1,b.Y0,p.2,b.Y1⟩:aH)∈C)))) x=true
  rw [rC h1',rB]
  exact⟨q,ka.2 ⟨hq,bG hr⟩,h1⟩
 have hsame:p.map bT= (s.map (pj C)).foldl iJ []:=sd hp f1 fun x y=>by
  rw [hcov,eI]
  have e:rowAt ((s.map (pj C)).foldl iJ []) y=rowAt (s.map (pj C)) y:=by
   rw [f3]
   by_cases h: ∃b∈s.map (pj C),b.y0<=y/\y<b.y1
   ·rw [aC h]
   ·rw [aD h]
    exact(kP fun b hb=>by
     have: ¬(b.y0<=y/\y<b.y1):=fun h2=>h ⟨b,hb,h2⟩
     omega).symm
  unfold th
  rw [e]
  exact⟨hrow2 x y,hrow (fun b hb=>hb) x y⟩
 have hc1: (aP p).length=oY (p.map bT):=by
  have: ∀p:List aA,(aP p).length=oY (p.map bT):=fun p=>by
   induction p with
   | nil=>rfl
   | cons b p ih=>rw [ma,cR,mA,ih];unfold oY;rw [dI,dI,List.sum_cons];rfl
  exact this p
 have hc2: ∀s:List aA,oY (s.map (pj C))= ((aP s).filter (fun r=>decide (r∈C))).length:=fun s=>by
  induction s with
  | nil=>rfl
  | cons b s ih=>
   rw [ma,jL,cR,<-ih]
   unfold oY
   rw [dI,dI,List.sum_cons]
   congr 1
   show (cV _).length / 2=_
   rw [(Am _).2]
   unfold l9
   rw [List.filter_map,dN];rfl
 have hc3: ((aP s).filter (fun r=>decide (r∈C))).length<=C.length:=eZ (List.Nodup.sublist List.filter_sublist (Eo hs)) fun r hr=>of_decide_eq_true (ka.1 hr).2
 rw [hc1,hsame]
 have e0:oY ([]:List Bd)=0:=rfl
 have:=hc2 s
 omega
end Go.Gk
namespace Go.Gk
open Go Classical
section
variable {N:Nat}
theorem vq {all:List aH} (w:aH->Nat): ∀(c:List Nat),((c.filterMap (fun i=>all[i]?)).map w).sum= (c.map (fun i=>(all[i]?).elim 0 w)).sum
 | []=>rfl
 | i::c=>by
  rw [dI,List.sum_cons,<-vq w c]
  cases h:all[i]? with
  | none=>rw [List.filterMap_cons_none (f:=fun i=>all[i]?) h];simp
  | some x=>rw [List.filterMap_cons_some (f:=fun i=>all[i]?) h,dI,List.sum_cons];rfl
theorem Kg {all:List aH} {u:Nat->Nat} (h: ∀i,i<all.length->u i∈bQ all.length u) (w:aH->Nat): ((bQ all.length u).map (fun k=>((mH all all.length u k).map w).sum)).sum= (all.map w).sum:=by
 have e: (fun k=>((mH all all.length u k).map w).sum)=fun k=>(((List.range all.length).filter (fun x=>decide (u x=k))).map (fun i=>(all[i]?).elim 0 w)).sum:=by
  funext k;unfold mH;rw [vq];rfl
 rw [e,Eg (ni _ _) u _ (fun x hx=>h x (mf.1 hx))]
 have: ∀m,m<=all.length->((List.range m).map (fun i=>(all[i]?).elim 0 w)).sum= ((all.take m).map w).sum:=by
  intro m
  induction m with
  | zero=>intro _;rfl
  | succ m ih=>
   intro hm
   rw [Al,ih (by omega),eF (by omega),dU,List.sum_append,aL (by omega)]
   simp
 rw [this _ (bJ _),fw]
theorem An: ∀{l m:List Nat},l.length=m.length->(∀(j x y:Nat),l[j]? =some x->m[j]? =some y->x<=y)->l.sum<=m.sum
 | [],[],_,_=>bJ _
 | [],_::_,h,_=>by simp at h
 | _::_,[],h,_=>by simp at h
 | a::l,b::m,h,hle=>by
  have h1:=hle 0 a b rfl rfl
  have h2:=An (l:=l) (m:=m) (by simpa using h) fun j x y hx hy=>hle (j+1) x y (by simpa using hx) (by simpa using hy)
  rw [List.sum_cons,List.sum_cons];omega
theorem Gs {r hs:List aH} {s:List aA} (h1: ∀x∈r,eU x=true) (h2: ∀x∈hs,eU x=true) (hc:eA (s.map bT)) (hl:v9 (rF r++rF hs) (iu r++iu hs) (s.map bT)): ∀q∈aP s,eU q=true/\q.X0<q.X1/\q.Y0<q.Y1:=by
 intro q hq
 have hp:=rN hc q hq
 obtain⟨b,hb,p,hpm,rfl⟩:=pF hq
 have hll:=hl (bT b) (cS.2 ⟨b,hb,rfl⟩)
 have hm:=CA p hpm
 have bx: ∀c∈rF r++rF hs,-1000000<=c/\c<=1000000:=fun c hcm=>by
  rcases cY.1 hcm with h | h
  ·obtain⟨x,hx,h⟩:=rG.1 h
   have:=mc (h1 x hx)
   rcases h with rfl | rfl <;> omega
  ·obtain⟨x,hx,h⟩:=rG.1 h
   have:=mc (h2 x hx)
   rcases h with rfl | rfl <;> omega
 have by': ∀c∈iu r++iu hs,-1000000<=c/\c<=1000000:=fun c hcm=>by
  rcases cY.1 hcm with h | h
  ·obtain⟨x,hx,h⟩:=ky.1 h
   have:=mc (h1 x hx)
   rcases h with rfl | rfl <;> omega
  ·obtain⟨x,hx,h⟩:=ky.1 h
   have:=mc (h2 x hx)
   rcases h with rfl | rfl <;> omega
 have g1:=bx _ (hll.2.2 p.1 hm.1)
 have g2:=bx _ (hll.2.2 p.2 hm.2)
 have g3:=by' _ hll.1
 have g4:=by' _ hll.2.1
 exact⟨z8 ⟨g1,g3,g2,g4⟩,hp⟩
structure qg (r hs:List aH) (s:List aA) (u:Nat->Nat) (ps:List (List aA)):Prop where
 r1: ∀x∈r,eU x=true
 r2: ∀x∈hs,eU x=true
 k1: ∀x∈r,Bs x
 k2: ∀x∈hs,Bs x
 dr:si r hs s
 pt:qF s u ps
 AZ: (aP s).length<=2000
theorem qg.part {r hs:List aH} {s:List aA} {u:Nat->Nat} {ps:List (List aA)} (h:qg r hs s u ps) {p:List aA} (hp:p∈ps):eA (p.map bT)/\(aP p).length<=2000/\∀q∈aP p,eU q=true/\q.X0<q.X1/\q.Y0<q.Y1:=by
 obtain⟨sx,sy⟩:=h.dr.small h.k1 h.k2
 obtain⟨j,k,g1,g2,g3,g4⟩:=Ac h.pt h.dr.can h.dr.lim sx sy hp
 have:=BJ h.dr.can g3.can (fun x hx=>by
  obtain⟨i,_,_,hi⟩:=k7.1 hx
  exact eW hi) g3.cover
 have h2:=zZ (aP s) (aP s).length u k
 have:=h.AZ
 exact⟨g3.can,by omega,Gs h.r1 h.r2 g3.can g4⟩
theorem qg.bQ {r hs:List aH} {s:List aA} {u:Nat->Nat} {ps:List (List aA)} (h:qg r hs s u ps): ∀i,i< (aP s).length->u i∈Gk.bQ (aP s).length u:=fun i hi=>iK.2 ⟨by have:=h.pt.join.le i hi;omega,h.pt.join.rr i hi⟩
theorem qg.total {r hs:List aH} {s:List aA} {u:Nat->Nat} {ps:List (List aA)} (h:qg r hs s u ps): (ps.map (fun p=>(aP p).length)).sum<=(aP s).length:=by
 have h1:=Kg h.bQ (fun _=>1)
 have one: ∀l:List aH,(l.map (fun _=>1)).sum=l.length:=fun l=>by
  induction l with
  | nil=>rfl
  | cons x l ih=>simp only [dI,List.sum_cons,ih,dK];omega
 simp only [one] at h1
 rw [<-h1]
 refine An (by simp [h.pt.len]) fun j x y hx hy=>?_
 rw [gJ,Option.map_eq_some_iff] at hx hy
 obtain⟨p,hp,rfl⟩:=hx
 obtain⟨k,hk,rfl⟩:=hy
 have hs:=h.pt.each j k p hk hp
 exact BJ h.dr.can hs.can (fun x hx=>by
  obtain⟨i,_,_,hi⟩:=k7.1 hx
  exact eW hi) hs.cover
theorem Ep {ps:List (List aA)} {x y:Int}:te (ps.flatMap aP) x y=true↔∃p∈ps,te (aP p) x y=true:=by
 rw [ir]
 constructor
 ·rintro⟨r,hr,h⟩
  obtain⟨p,hp,hrp⟩:=List.mem_flatMap.1 hr
  exact⟨p,hp,ir.2 ⟨r,hrp,h⟩⟩
 ·rintro⟨p,hp,h⟩
  obtain⟨r,hr,h⟩:=ir.1 h
  exact⟨r,List.mem_flatMap.2 ⟨p,hp,hr⟩,h⟩
theorem qg.cover {r hs:List aH} {s:List aA} {u:Nat->Nat} {ps:List (List aA)} (h:qg r hs s u ps) (x y:Int):te (ps.flatMap aP) x y=th (s.map bT) x y:=by
 rw [<-oj h.dr.can,eI,Ep]
 constructor
 ·rintro⟨p,hp,hc⟩
  obtain⟨j,hj⟩:=dV hp
  have hjl:=(aW.1 hj).1
  have hk: (Gk.bQ (aP s).length u)[j]? =some ((Gk.bQ (aP s).length u)[j]'(by rw [<-h.pt.len];exact hjl)):=aL _
  have hs:=h.pt.each j _ _ hk hj
  rw [oj hs.can,hs.cover] at hc
  obtain⟨q,hq,h2⟩:=ir.1 hc
  obtain⟨i,_,_,hi⟩:=k7.1 hq
  exact ir.2 ⟨q,eW hi,h2⟩
 ·intro hc
  obtain⟨q,hq,h2⟩:=ir.1 hc
  obtain⟨i,hi⟩:=dV hq
  have hil:=(aW.1 hi).1
  obtain⟨j,hj⟩:=dV (h.bQ i hil)
  have hjl:j<ps.length:=by rw [h.pt.len];exact(aW.1 hj).1
  have hs:=h.pt.each j _ _ hj (aL hjl)
  refine⟨_,cO hjl,?_⟩
  rw [oj hs.can,hs.cover]
  exact ir.2 ⟨q,k7.2 ⟨i,hil,rfl,hi⟩,h2⟩
section
variable {a:fz} {k9:List (List aA)} {fP:List (List (List aA))} {r:Nat->Nat} {gs:List cU} {ofP ofB pg:List Int} {oW:List fJ}
end
end
end Go.Gk
namespace Go.Gk
open Go Classical
def Ao (a b:aH):Prop:=(0<min a.X1 b.X1 - max a.X0 b.X0/\0<=min a.Y1 b.Y1 - max a.Y0 b.Y0)\/(0<=min a.X1 b.X1 - max a.X0 b.X0/\0<min a.Y1 b.Y1 - max a.Y0 b.Y0)
theorem Hl {all:List aH} (hB:all.Pairwise qf) (hp: ∀r∈all,r.X0<r.X1/\r.Y0<r.Y1) {i j:Nat} {a c:aH} (ha:all[i]? =some a) (hc:all[j]? =some c):Ao a c↔i=j\/xv all i j\/xv all j i:=by
 have h1:xv all i j↔CE a c:=⟨fun⟨a',c',e1,e2,h⟩=>by rw [ha] at e1;rw [hc] at e2;injection e1 with e1;injection e2 with e2;rw [e1,e2];exact h,fun h=>⟨a,c,ha,hc,h⟩⟩
 have h2:xv all j i↔CE c a:=⟨fun⟨a',c',e1,e2,h⟩=>by rw [hc] at e1;rw [ha] at e2;injection e1 with e1;injection e2 with e2;rw [e1,e2];exact h,fun h=>⟨c,a,hc,ha,h⟩⟩
 have p1:=hp a (eW ha)
 have p2:=hp c (eW hc)
 rw [h1,h2]
 obtain⟨l1,e1⟩:=aW.1 ha
 obtain⟨l2,e2⟩:=aW.1 hc
 unfold Ao CE
 rcases Nat.lt_trichotomy i j with h | h | h
 ·have:=kE.1 hB i j l1 l2 h
  rw [e1,e2] at this
  unfold qf at this
  rcases this with this | this
  ·constructor
   ·rintro(h3 | h3)
    ·exact .inr (.inl ⟨by omega,by omega,by omega⟩)
    ·omega
   ·rintro(h3 | h3 | h3)
    ·omega
    ·left;omega
    ·omega
  ·constructor
   ·rintro(h3 | h3) <;> omega
   ·rintro(h3 | h3 | h3) <;> omega
 ·subst h
  rw [ha] at hc;injection hc with hc;subst hc
  exact⟨fun _=> .inl rfl,fun _=> .inl (by omega)⟩
 ·have:=kE.1 hB j i l2 l1 h
  rw [e1,e2] at this
  unfold qf at this
  rcases this with this | this
  ·constructor
   ·rintro(h3 | h3)
    ·exact .inr (.inr ⟨by omega,by omega,by omega⟩)
    ·omega
   ·rintro(h3 | h3 | h3)
    ·omega
    ·omega
    ·left;omega
  ·constructor
   ·rintro(h3 | h3) <;> omega
   ·rintro(h3 | h3 | h3) <;> omega
theorem Ft {α:Type} {q q':List α} (h:q <+:q') {t:Nat} {x:α} (hx:q[t]? =some x):q'[t]? =some x:=by
 obtain⟨r,rfl⟩:=h
 rw [fL (aW.1 hx).1];exact hx
def sA (f:Int->Int->Bool) (x y:Int):Prop:=f x y=true/\∀x' y',f x' y'=true->y<y'\/(y=y'/\x<=x')
theorem sA.unique {f:Int->Int->Bool} {x y x' y':Int} (h:sA f x y) (h':sA f x' y'):x=x'/\y=y':=by
 have h1:=h.2 _ _ h'.1
 have h2:=h'.2 _ _ h.1
 omega
theorem Fu {a:aH} {l:List aH} (hp: ∀r∈a::l,r.X0<r.X1/\r.Y0<r.Y1) (hB: ∀r∈l,qf a r):sA (te (a::l)) a.X0 a.Y0:=by
 have pa:=hp a (by simp)
 refine⟨ir.2 ⟨a,by simp,by omega,by omega⟩,fun x' y' h=>?_⟩
 obtain⟨r,hr,hx,hy⟩:=ir.1 h
 rcases cT.1 hr with rfl | hr
 ·omega
 ·have:=hB r hr
  unfold qf at this
  omega
theorem Fv {s:List aA} (hc:eA (s.map bT)) (hne:s≠[]): ∃r t,aP s=r::t/\sA (fun x y=>th (s.map bT) x y) r.X0 r.Y0/\Gp s= ⟨r.X0,r.Y0⟩:=by
 cases s with
 | nil=>exact absurd rfl hne
 | cons b s=>
  have hx:=hc.each (bT b) (by simp)
  have hxs:b.Xs≠[]:=hx.2.1
  have he:b.Xs.length % 2=0:=hx.2.2.2
  obtain⟨x0,x1,xs,e⟩: ∃x0 x1 xs,b.Xs=x0::x1::xs:=by
   match hb:b.Xs with
   | []=>exact absurd hb hxs
   | [x0]=>rw [hb] at he;simp at he
   | x0::x1::xs=>exact⟨x0,x1,xs,rfl⟩
  have hr:aP (b::s)= ⟨x0,b.Y0,x1,b.Y1⟩::((zR xs).map (fun p=>(⟨p.1,b.Y0,p.2,b.Y1⟩:aH))++aP s):=by
   rw [ma]
   unfold l9
   rw [e];rfl
  have hB:=pB hc
  have hpos:=rN hc
  rw [hr] at hB hpos
  refine⟨_,_,hr,?_,by unfold Gp;dsimp only;rw [e];rfl⟩
  have:=Fu hpos (mg.1 hB).1
  rw [<-hr] at this
  refine⟨?_,fun x' y' h=>this.2 x' y' ?_⟩
  ·show th _ _ _=true
   rw [<-oj hc];exact this.1
  ·rw [oj hc];exact h
theorem BK {all:List aH} {u:Nat->Nat} (hB:all.Pairwise qf) (hp: ∀r∈all,r.X0<r.X1/\r.Y0<r.Y1) (hJ:Joined all u) {h:Nat} {a:aH} (ha:all[h]? =some a) (hu:u h=h):sA (te (mH all all.length u h)) a.X0 a.Y0:=by
 obtain⟨hl,e⟩:=aW.1 ha
 have pa:=hp a (eW ha)
 refine⟨ir.2 ⟨a,k7.2 ⟨h,hl,hu,ha⟩,by omega,by omega⟩,fun x' y' hc=>?_⟩
 obtain⟨r,hr,hx,hy⟩:=ir.1 hc
 obtain⟨k,hk,huk,hrk⟩:=k7.1 hr
 have hle:=hJ.le k hk
 by_cases ek:k=h
 ·subst ek;rw [ha] at hrk;injection hrk with hrk;subst hrk;omega
 ·obtain⟨hl2,e2⟩:=aW.1 hrk
  have:=kE.1 hB h k hl hl2 (by omega)
  rw [e,e2] at this
  unfold qf at this
  omega
theorem sB {u:Nat->Nat}: ∀(d i:Nat),∃t,bQ (i+d) u=bQ i u++t
 | 0,i=>⟨[],by simp⟩
 | d+1,i=>by
  obtain⟨t,ht⟩:=sB (u:=u) d i
  rw [<-Nat.add_assoc,gQ,ht]
  split
  ·exact⟨t++[i+d],by simp⟩
  ·exact⟨t,rfl⟩
theorem Jk {u:Nat->Nat} {i n:Nat} (hi:i<n) (hu:u i=i): (bQ n u)[(bQ i u).length]? =some i:=by
 obtain⟨t,ht⟩:=sB (u:=u) (n - (i+1)) (i+1)
 rw [show i+1+ (n - (i+1))=n by omega] at ht
 rw [ht,gQ,aC hu]
 simp
section
variable {N:Nat}
theorem Hm {a b:aH} (ha:Bs a) (hb:Bs b):kd N a b=some (decide (Ao a b)):=by
 have a1:=ha.s1;have a2:=ha.s2;have a3:=ha.s3;have a4:=ha.s4
 have b1:=hb.s1;have b2:=hb.s2;have b3:=hb.s3;have b4:=hb.s4
 unfold small at a1 a2 a3 a4 b1 b2 b3 b4
 unfold kd
 rw [uN,uN,oy,oy,eE (x:=min a.X1 b.X1 - max a.X0 b.X0) (by omega) (by omega),eE (x:=min a.Y1 b.Y1 - max a.Y0 b.Y0) (by omega) (by omega)]
 congr 1
 rw [eI]
 unfold Ao
 simp only [cX,bR,bB,gt_iff_lt,ge_iff_le]
theorem insert_eq {l:List (List aH)} {r0:aH} {t:List aH} (hl:l.length<=1000000) (hN:4398046511104<=N) (h: ∀x,l[l.length - 1]? =some x->∃x0 t',x=x0::t'/\¬(r0.Y0<x0.Y0\/(r0.Y0=x0.Y0/\r0.X0<x0.X0))):lY N l (r0::t)=some (l++[r0::t]):=by
 refine Ok.get ?_
 unfold lY
 refine Ok.bind (Ok.jB (Go:=fun s=>s= ((l.length:Nat):Int)) (Rt:=fun _=>False) (fun s=>s= ((l.length:Nat):Int)) (fun s=>0) ?_ rfl (by omega)) ?_
 ·rintro s rfl
  by_cases h0:l.length=0
  ·rw [bI (by omega),aN,aB,aN];exact Ok.br rfl
  ·rw [bG (by omega),aO,fN (by omega) (by omega)]
   have hx:l[l.length - 1]? =some (l[l.length - 1]'(by omega)):=aL _
   obtain⟨x0,t',e,hn⟩:=h _ hx
   have i1:idx (r0::t) 0=some r0:=rfl
   have i2:idx (l[l.length - 1]'(by omega)) 0=some x0:=by rw [e];rfl
   rw [i1,aB,dY hx,aB,i2,aB]
   unfold jS
   rw [aB,aB,show ((decide (r0.Y0<x0.Y0))||((r0.Y0==x0.Y0)&&(decide (r0.X0<x0.X0))))=false by
    rw [<-kb,cX,bR,bB,bB,beq_iff_eq];exact hn,aN]
   exact Ok.br rfl
 intro o ho
 refine Ok.cs ho ?_ (fun r hr=>hr.elim)
 rintro s rfl
 refine Ok.eq (rm l l.length (bJ _)) (Ok.app ?_ (Ok.app ?_ (Ok.eq (pS l l.length (bJ _)) (Ok.app ?_ (Ok.ret ?_)))))
 ·rw [fw];simp only [List.length_nil];omega
 ·rw [fw];simp only [List.length_nil,cR,dK];omega
 ·rw [fw,List.drop_length];simp only [List.length_nil,cR,dK];omega
 ·simp
structure BI (all:List aH) (u:Nat->Nat) (i:Nat) (q:List Nat) (done:List Bool) (own:List aH):Prop where
 len:done.length=all.length
 nd:q.Nodup
 lt: ∀k∈q,k<all.length/\u k=i
 hd:i∈q
 dn: ∀k,k<all.length->done[k]? =some (decide (u k<i\/k∈q))
 ow:own.map some=q.map (fun k=>all[k]?)
theorem BI.NX {all:List aH} {u:Nat->Nat} {i:Nat} {q:List Nat} {done:List Bool} {own:List aH} (h:BI all u i q done own):own.length=q.length:=by
 have:=congrArg List.length h.ow
 rwa [dN,dN] at this
theorem BI.AZ {all:List aH} {u:Nat->Nat} {i:Nat} {q:List Nat} {done:List Bool} {own:List aH} (h:BI all u i q done own):q.length<=all.length:=by
 have:=eZ h.nd (m:=List.range all.length) (fun k hk=>by rw [mf];exact(h.lt k hk).1)
 rwa [List.length_range] at this
theorem BI.at_ {all:List aH} {u:Nat->Nat} {i:Nat} {q:List Nat} {done:List Bool} {own:List aH} (h:BI all u i q done own) {p k:Nat} (hk:q[p]? =some k):own[p]? =all[k]? :=by
 have e:=congrArg (fun l=>l[p]?) h.ow
 simp only [gJ,hk,Option.map_some] at e
 cases ho:own[p]? with
 | none=>rw [ho] at e;cases e
 | some x=>rw [ho] at e;injection e
theorem BI.mem {all:List aH} {u:Nat->Nat} {i:Nat} {q:List Nat} {done:List Bool} {own:List aH} (h:BI all u i q done own) {r:aH}:r∈own↔∃k∈q,all[k]? =some r:=by
 have:r∈own↔some r∈own.map some:=by simp
 rw [this,h.ow,cS]
theorem Er {s:List aA} {u:Nat->Nat} {ps:List (List aA)} (hc:eA (s.map bT)) (hP:qF s u ps) (hn: (aP s).length<=2000) (hok: ∀r∈aP s,Bs r) (hps: ∀p∈ps,(aP p).length<=2000) (hN:4398046511104<=N):
  i6 N (aP s)=some (ps.map aP):=by
 refine Ok.get ?_
 have hB:=pB hc
 have hpos:=rN hc
 have hJ:=hP.join
 have hlen:=hP.len
 have heach:=hP.each
 clear hP hc
 generalize aP s=all at *
 unfold i6
 refine Ok.eq (nC false (by omega)) ?_
 have hadj: ∀a b,(xv all a b\/xv all b a)->u a=u b:=fun a b h=>h.elim (fun h=>hJ.co a b h) (fun h=>(hJ.co b a h).symm)
 refine Ok.bind (Ok.rA (n:=all.length) (fun st=>st.2.2) (fun i st=>st.1.length=all.length/\(∀k,k<all.length->st.1[k]? =some (decide (u k<i)))/\st.2.1= (ps.take (bQ i u).length).map aP) (Go:=fun st=>st.2.1=ps.map aP) (Rt:=fun _=>False) ?_ ?_ (eL _) rfl
  ⟨by simp,fun k hk=>by simp [hk],by simp [bQ]⟩ (by omega)) ?_
 ·rintro i ⟨done,out,ii⟩ hi e ⟨hdl,hdn,hout⟩
  dsimp only at e hdl hdn hout ⊢
  subst e
  rw [nG hi,aO]
  refine Ok.ix (hdn i hi) (Ok.bif (fun hb=>?_) (fun hb=>?_))
  ·have hlt:u i<i:=of_decide_eq_true hb
   refine Ok.nx ⟨bP (by omega),hdl,fun k hk=>?_,?_⟩
   ·rw [hdn k hk]
    congr 1
    rw [decide_eq_decide]
    have hne:u k≠i:=fun e=>by have:=hJ.rr k hk;rw [e] at this;omega
    omega
   ·rw [gQ,aD (by omega)];exact hout
  ·have hge: ¬u i<i:=of_decide_eq_false hb
   have hui:u i=i:=by have:=hJ.le i hi;omega
   have hx:all[i]? =some all[i]:=aL hi
   refine Ok.ix (hdn i hi) (Ok.ix hx ?_)
   refine Ok.bind (Ok.jB (Go:=fun st=>st.1.length=all.length/\(∀k,k<all.length->st.1[k]? =some (decide (u k<i+1)))/\(∀r,r∈st.2.1↔r∈mH all all.length u i)/\st.2.1.length<=all.length) (Rt:=fun _=>False)
    (fun st=>∃(q:List Nat) (t:Nat),st.2.2= ((t:Nat):Int)/\t<=q.length/\BI all u i q st.1 st.2.1/\∀(p k j:Nat),p<t->q[p]? =some k->j<all.length->(xv all k j\/xv all j k)->j∈q)
    (fun st=>all.length+1 - st.2.2.toNat) ?_ ⟨[i],0,rfl,by simp,?_,fun p k j hp=>by omega⟩ (by simp;omega)) ?_
   ·rintro⟨d1,o1,t'⟩ ⟨q,t,e,ht,hI,hcl⟩
    dsimp only at e hI ⊢
    subst e
    have hql:=hI.AZ
    have hol:=hI.NX
    by_cases hlt:t<q.length
    ·rw [nG (by omega:t<o1.length),aO]
     have hqt:q[t]? =some q[t]:=aL hlt
     have hkt:=hI.lt _ (cO hlt)
     have hya:all[q[t]]? =some all[q[t]]:=aL hkt.1
     refine Ok.bind (Ok.rA (n:=all.length) (fun st=>st.2.2) (fun j st=>∃q',q <+:q'/\BI all u i q' st.1 st.2.1/\∀j',j'<j->(xv all q[t] j'\/xv all j' q[t])->j'∈q')
      (Go:=fun st=>∃q',q <+:q'/\BI all u i q' st.1 st.2.1/\∀j',j'<all.length->(xv all q[t] j'\/xv all j' q[t])->j'∈q') (Rt:=fun _=>False) ?_ ?_ (eL _) rfl ⟨q,List.prefix_refl _,hI,fun j' hj=>by omega⟩ (by omega)) ?_
     ·rintro j ⟨d2,o2,jj⟩ hj e ⟨q',hpre,hI',hc'⟩
      dsimp only at e hI' ⊢
      subst e
      rw [nG hj,aO]
      have hq't:q'[t]? =some q[t]:=by rw [Ft hpre hqt]
      have hy2:o2[t]? =some all[q[t]]:=by rw [hI'.at_ hq't];exact hya
      have hz:all[j]? =some all[j]:=aL hj
      have htc:=Hl hB hpos hya hz
      have hcond: ((idx d2 ((j:Nat):Int)).bind fun x1054=>bif (!x1054) then ((idx o2 ((t:Nat):Int)).bind fun x1056=>(idx all ((j:Nat):Int)).bind fun x1058=>(kd N x1056 x1058).bind fun x1061=>some x1061) else (some false))=some (!decide (u j<i\/j∈q')&&decide (Ao all[q[t]] all[j])):=by
       rw [dY (hI'.dn j hj),aB]
       cases decide (u j<i\/j∈q') with
       | true=>rfl
       | false=>rw [ot,aO,dY hy2,aB,dY hz,aB,Hm (hok _ (cO hkt.1)) (hok _ (cO hj)),aB,Bool.true_and]
      refine Ok.eq hcond ?_
      refine Ok.bind (P:=fun st:List Bool×List aH=>∃q',q <+:q'/\BI all u i q' st.1 st.2/\∀j',j'<j+1->(xv all q[t] j'\/xv all j' q[t])->j'∈q') (Ok.bif (fun hb=>?_) (fun hb=>?_)) (fun st hst=>Ok.nx ⟨bP (by omega),hst⟩)
      ·rw [bR,Bool.not_eq_true',decide_eq_false_iff_not,bB] at hb
       have hju:u j=i:=by
        rcases htc.1 hb.2 with h | h
        ·rw [<-h];exact hkt.2
        ·rw [<-hadj _ _ h];exact hkt.2
       have hjq:j∉q':=fun h=>hb.1 (.inr h)
       have hol2:=hI'.NX
       have hql2:=hI'.AZ
       refine Ok.ix (hI'.dn j hj) (Ok.ix hz (Ok.app (by simp only [dK,List.length_nil];omega) (Ok.ret ⟨q'++[j],hpre.trans (List.prefix_append _ _),⟨?_,?_,?_,?_,?_,?_⟩,?_⟩)))
       ·rw [fU];exact hI'.len
       ·rw [List.nodup_append]
        exact⟨hI'.nd,by simp,fun a ha b hb=>by simp at hb;subst hb;exact fun e=>hjq (e▸ha)⟩
       ·intro k hk
        rcases cY.1 hk with hk | hk
        ·exact hI'.lt k hk
        ·simp at hk;subst hk;exact⟨hj,hju⟩
       ·exact List.mem_append_left _ hI'.hd
       ·intro k hk
        rw [bX,fB]
        by_cases e:j=k
        ·subst e
         rw [aC rfl,aC (by rw [hI'.len];exact hj)]
         congr 1
         exact(bG (.inr (by simp))).symm
        ·rw [aD e,hI'.dn k hk]
         congr 1
         rw [decide_eq_decide,cY]
         simp only [List.mem_singleton]
         constructor
         ·exact fun h=>h.elim .inl (fun h=> .inr (.inl h))
         ·exact fun h=>h.elim .inl (fun h=>h.elim .inr (fun h=>absurd h.symm e))
       ·rw [dU,dU,hI'.ow];simp [hz]
       ·intro j' hj' ha
        by_cases e:j'=j
        ·subst e;simp
        ·exact List.mem_append_left _ (hc' j' (by omega) ha)
      ·refine Ok.ret ⟨q',hpre,hI',fun j' hj' ha=>?_⟩
       by_cases e:j'=j
       ·subst e
        have hj2:u j'=i:=by rw [<-hadj _ _ ha];exact hkt.2
        rw [bG (htc.2 (.inr ha)),Bool.and_true,Bool.not_eq_false',bB] at hb
        rcases hb with hb | hb
        ·omega
        ·exact hb
       ·exact hc' j' (by omega) ha
     ·rintro⟨d2,o2,jj⟩ e hI2
      dsimp only at e hI2 ⊢
      subst e
      rw [qW,aN]
      exact Ok.br hI2
     intro o ho
     refine Ok.cs ho ?_ (fun r hr=>hr.elim)
     rintro⟨d2,o2,jj⟩ ⟨q',hpre,hI',hc'⟩
     dsimp only at hI' ⊢
     refine Ok.nx ⟨⟨q',t+1,bP (by omega),?_,hI',fun p k j hp hk hj ha=>?_⟩,?_⟩
     ·have:=hpre.length_le;omega
     ·by_cases e:p=t
      ·subst e
       rw [Ft hpre hqt] at hk;injection hk with hk;subst hk
       exact hc' j hj ha
      ·have hpq:q[p]? =some (q[p]'(by omega)):=aL _
       rw [Ft hpre hpq] at hk;injection hk with hk;subst hk
       exact hpre.subset (hcl p _ j (by omega) hpq hj ha)
     ·rw [bP (by omega)];simp only [bX];omega
    ·rw [yw (by omega:o1.length<=t),aN]
     have htq:t=q.length:=by omega
     have hcls: ∀k,k<all.length->(k∈q↔u k=i):=fun k hk=>⟨fun h=>(hI.lt k h).2,fun h=>by
      have hstep: ∀a b,xv all a b->(a∈q↔b∈q):=fun a b hab=>by
       have hab':=hab
       obtain⟨ra,rb,e1,e2,_⟩:=hab'
       have hla:=(aW.1 e1).1
       have hlb:=(aW.1 e2).1
       constructor
       ·intro h'
        obtain⟨p,hp⟩:=dV h'
        exact hcl p a b (by rw [htq];exact(aW.1 hp).1) hp hlb (.inl hab)
       ·intro h'
        obtain⟨p,hp⟩:=dV h'
        exact hcl p b a (by rw [htq];exact(aW.1 hp).1) hp hla (.inr hab)
      exact hJ.fi (fun k=>k∈q) hstep i k hi hk (by rw [hui,h]) hI.hd⟩
     refine Ok.br ⟨hI.len,fun k hk=>?_,fun r=>?_,by rw [hol];exact hql⟩
     ·rw [hI.dn k hk]
      congr 1
      rw [decide_eq_decide,hcls k hk];omega
     ·rw [hI.mem,k7]
      constructor
      ·rintro⟨k,hk,h⟩
       exact⟨k,(hI.lt k hk).1,(hI.lt k hk).2,h⟩
      ·rintro⟨k,hk,h1,h2⟩
       exact⟨k,(hcls k hk).2 h1,h2⟩
   ·refine⟨by rw [fU];exact hdl,by simp,fun k hk=>by simp at hk;subst hk;exact⟨hi,hui⟩,by simp,fun k hk=>?_,by simp [hx]⟩
    rw [bX,fB]
    by_cases e:i=k
    ·subst e
     rw [aC rfl,aC (by rw [hdl];exact hi)]
     congr 1
     exact(bG (.inr (by simp))).symm
    ·rw [aD e,hdn k hk]
     congr 1
     rw [decide_eq_decide]
     simp only [List.mem_singleton]
     omega
   intro o ho
   refine Ok.cs ho ?_ (fun r hr=>hr.elim)
   rintro⟨d1,o1,t'⟩ ⟨g1,g2,g3,g4⟩
   dsimp only at g1 g2 g3 g4 ⊢
   have hh:=Jk hi hui
   have hml: (bQ i u).length<ps.length:=by rw [hlen];exact(aW.1 hh).1
   have hpp:ps[(bQ i u).length]? =some ps[(bQ i u).length]:=aL hml
   have mj:=heach _ _ _ hh hpp
   have hcov: ∀x y,th (ps[(bQ i u).length].map bT) x y=te o1 x y:=fun x y=>by rw [mj.cover];exact(J8 g3 x y).symm
   have hpl:=hps _ (cO hml)
   refine Ok.eq (sw mj.can hcov (by omega) (fun r hr=>?_) (by omega) hN) ?_
   ·obtain⟨k,_,_,hk⟩:=k7.1 ((g3 r).1 hr)
    exact(hpos r (eW hk)).1
   have hfirst: ∀(j h:Nat) p,(bQ all.length u)[j]? =some h->ps[j]? =some p->∃r t a,aP p=r::t/\all[h]? =some a/\r.X0=a.X0/\r.Y0=a.Y0:=fun j h p hj hp=>by
    have hs:=heach j h p hj hp
    obtain⟨hhl,hhu⟩:=iK.1 (eW hj)
    have ha:all[h]? =some all[h]:=aL hhl
    have hne:p≠[]:=fun e=>by
     have hL:=(BK hB hpos hJ ha hhu).1
     rw [<-hs.cover,e] at hL
     cases hL
    obtain⟨r,t,e1,e2,_⟩:=Fv hs.can hne
    have e2':sA (te (mH all all.length u h)) r.X0 r.Y0:=⟨by rw [<-hs.cover];exact e2.1,fun x' y' hxy=>e2.2 x' y' (by simp only;rw [hs.cover];exact hxy)⟩
    obtain⟨e3,e4⟩:=e2'.unique (BK hB hpos hJ ha hhu)
    exact⟨r,t,all[h],e1,ha,e3,e4⟩
   obtain⟨r,t,a,e1,e2,e3,e4⟩:=hfirst _ _ _ hh hpp
   have hheads: (bQ i u).length<=i:=om i u
   rw [e1]
   refine Ok.eq (insert_eq (by rw [hout,dN,cI];omega) hN (fun x hxl=>?_)) (Ok.nx ⟨bP (by omega),g1,g2,?_⟩)
   ·have hol:out.length= (bQ i u).length:=by rw [hout,dN,cI];omega
    have hpos2:0< (bQ i u).length:=by
     have:=(aW.1 hxl).1;omega
    rw [hout,gJ,dN,cI,show min (bQ i u).length ps.length= (bQ i u).length by omega,List.getElem?_take_of_lt (by omega)] at hxl
    have hp2:ps[(bQ i u).length - 1]? =some (ps[(bQ i u).length - 1]'(by omega)):=aL _
    rw [hp2] at hxl
    injection hxl with hxl
    have hh2: (bQ i u)[(bQ i u).length - 1]? =some ((bQ i u)[(bQ i u).length - 1]'(by omega)):=aL _
    have hm2:=iK.1 (eW hh2)
    obtain⟨tl,htl⟩:=sB (u:=u) (all.length - i) i
    rw [show i+ (all.length - i)=all.length by omega] at htl
    have hh3: (bQ all.length u)[(bQ i u).length - 1]? =some ((bQ i u)[(bQ i u).length - 1]'(by omega)):=by rw [htl,fL (by omega)];exact hh2
    obtain⟨r',t',a',f1,f2,f3,f4⟩:=hfirst _ _ _ hh3 hp2
    refine⟨r',t',by rw [<-hxl];exact f1,?_⟩
    obtain⟨l1,q1⟩:=aW.1 f2
    obtain⟨l2,q2⟩:=aW.1 e2
    have hbh:=kE.1 hB _ _ l1 l2 hm2.1
    rw [q1,q2] at hbh
    have p1:=hpos a' (eW f2)
    unfold qf at hbh
    rw [e3,e4,f3,f4]
    omega
   ·dsimp only
    rw [gQ,aC hui,cR,hout]
    simp only [dK,List.length_nil]
    rw [eF hml,dU,dI,List.map_nil,e1]
 ·rintro⟨done,out,ii⟩ e ⟨_,_,hout⟩
  dsimp only at e hout ⊢
  subst e
  rw [qW,aN]
  refine Ok.br ?_
  dsimp only
  rw [hout,lE (by rw [hlen];omega)]
 intro o ho
 exact Ok.cs ho (fun s hs=>Ok.ret hs) (fun r hr=>hr.elim)
end
end Go.Gk
namespace Go.Gk
open Go Classical
section
variable {α β:Type}
theorem Jl {N:Nat} {l:List α} {s:β} {φ:α->β->Option Int} (c:α->Int) (hφ: ∀x,φ x s=some (c x)) (hs: ∀(i j:Nat) (x y:α),i<j->l[i]? =some x->l[j]? =some y->0<=c x->0<c y)
  (hl:l.length<=1048576) (hN:4194304<=N): ∃r,IA N l s φ=some r/\r.2=l.any (fun x=>c x==0)/\(r.2=true->r.1=GX l (fun x=>c x==0)):=by
 show Ok (IA N l s φ) (fun r=>r.2=l.any (fun x=>c x==0)/\(r.2=true->r.1=GX l (fun x=>c x==0)))
 unfold IA
 refine Ok.bind (Ok.jB (Go:=fun st:Int×Int=>∃a:Nat,st.1= ((a:Nat):Int)/\a<=l.length/\(∀j x,j<a->l[j]? =some x->c x<0)/\(∀j x,a<=j->l[j]? =some x->0<=c x)) (Rt:=fun _=>True)
  (fun st=>∃a b:Nat,st= (((a:Nat):Int),((b:Nat):Int))/\a<=b/\b<=l.length/\(∀j x,j<a->l[j]? =some x->c x<0)/\(∀j x,b<=j->l[j]? =some x->0<=c x))
  (fun st=>(st.2 - st.1).toNat) ?_ ⟨0,l.length,rfl,by omega,bJ _,fun j x hj=>by omega,fun j x hj hx=>by have:=(aW.1 hx).1;omega⟩ (by simp only;omega)) ?_
 ·rintro st ⟨a,b,rfl,hab,hb,h1,h2⟩
  dsimp only
  by_cases hlt:a<b
  ·have hm: (a+b) / 2<l.length:=by omega
   have hx:l[(a+b) / 2]? =some l[(a+b) / 2]:=aL hm
   rw [show decide (((a:Nat):Int)< ((b:Nat):Int))=true by rw [bB];omega,aO,GY hlt (by omega:b<=4611686018427387904)]
   refine Ok.ix hx (Ok.eq (hφ _) ?_)
   by_cases hc:c l[(a+b) / 2]<0
   ·rw [bG hc,aO,aB]
    refine Ok.nx ⟨⟨(a+b) / 2+1,b,?_,by omega,hb,fun j x hj hx'=>?_,h2⟩,?_⟩
    ·rw [bP (by omega)]
    ·by_cases e:j= (a+b) / 2
     ·subst e;rw [hx] at hx';injection hx' with hx';rw [<-hx'];exact hc
     ·by_cases h0:c x<0
      ·exact h0
      ·have:=hs j _ x _ (by omega) hx' hx (by omega)
       omega
    ·rw [bP (by omega)];simp only;omega
   ·rw [bI hc,aN,aB]
    refine Ok.nx ⟨⟨a,(a+b) / 2,rfl,by omega,by omega,h1,fun j x hj hx'=>?_⟩,by simp only;omega⟩
    by_cases e:j= (a+b) / 2
    ·subst e;rw [hx] at hx';injection hx' with hx';rw [<-hx'];omega
    ·have:=hs _ j _ x (by omega) hx hx' (by omega)
     omega
  ·rw [show decide (((a:Nat):Int)< ((b:Nat):Int))=false by rw [decide_eq_false_iff_not];omega,aN]
   exact Ok.br ⟨a,rfl,by omega,h1,fun j x hj hx=>h2 j x (by omega) hx⟩
 intro o ho
 refine Ok.cs ho ?_ (fun r hr=>r.elim)
 rintro⟨st1,st2⟩ ⟨a,ha,hle,h1,h2⟩
 dsimp only at ha ⊢
 subst ha
 by_cases hlt:a<l.length
 ·have hx:l[a]? =some l[a]:=aL hlt
  rw [show decide (((a:Nat):Int)< ((l.length:Nat):Int))=true by rw [bB];omega,aO,dY hx,aB,hφ,aB,aB]
  refine Ok.ret ?_
  by_cases he:c l[a]=0
  ·have hb: (c l[a]==0)=true:=by rw [beq_iff_eq];exact he
   rw [hb]
   refine⟨(iZ.2 ⟨_,cO hlt,hb⟩).symm,fun _=>?_⟩
   rw [Iz hx hb (fun j y hj hy=>by have:=h1 j y hj hy;rw [beq_eq_false_iff_ne];omega)]
  ·have hb: (c l[a]==0)=false:=by rw [beq_eq_false_iff_ne];exact he
   rw [hb]
   refine⟨?_,fun h=>by cases h⟩
   symm
   rw [List.any_eq_false]
   intro x hx'
   obtain⟨j,hj⟩:=dV hx'
   rw [kb,beq_eq_false_iff_ne]
   by_cases hja:j<a
   ·have:=h1 j x hja hj;omega
   ·by_cases e:j=a
    ·subst e;rw [hx] at hj;injection hj with hj;rw [<-hj];exact he
    ·have h3:=h2 a _ (bJ _) hx
     have:=hs a j _ x (by omega) hx hj h3
     omega
 ·rw [show decide (((a:Nat):Int)< ((l.length:Nat):Int))=false by rw [decide_eq_false_iff_not];omega,aN,aB]
  refine Ok.ret ⟨?_,fun h=>by cases h⟩
  symm
  rw [List.any_eq_false]
  intro x hx'
  obtain⟨j,hj⟩:=dV hx'
  have:=(aW.1 hj).1
  have:=h1 j x (by omega) hj
  rw [kb,beq_eq_false_iff_ne];omega
end
def wc (p q:fE):Prop:=dO.lt p.Part q.Part\/(p.Part=q.Part/\dO.lt p.fE q.fE)
theorem Gt {p q:fE} (h1:p.Part=q.Part) (h2:p.fE=q.fE):p=q:=by cases p;cases q;simp at h1 h2;subst h1;subst h2;rfl
theorem wc.irrefl (p:fE): ¬wc p p:=fun h=>by
 rcases h with h | ⟨_,h⟩
 ·exact dO.lt_irrefl _ h
 ·exact dO.lt_irrefl _ h
theorem wc.trans {p q r:fE} (h1:wc p q) (h2:wc q r):wc p r:=by
 rcases h1 with h1 | ⟨e1,h1⟩ <;> rcases h2 with h2 | ⟨e2,h2⟩
 ·exact .inl (dO.lt_trans h1 h2)
 ·exact .inl (by rw [<-e2];exact h1)
 ·exact .inl (by rw [e1];exact h2)
 ·exact .inr ⟨e1.trans e2,dO.lt_trans h1 h2⟩
theorem wc.total (p q:fE):wc p q\/p=q\/wc q p:=by
 rcases dO.DU p.Part q.Part with h | h | h
 ·exact .inl (.inl h)
 ·rcases dO.DU p.fE q.fE with h' | h' | h'
  ·exact .inl (.inr ⟨h,h'⟩)
  ·exact .inr (.inl (Gt h h'))
  ·exact .inr (.inr (.inr ⟨h.symm,h'⟩))
 ·exact .inr (.inr (.inl h))
theorem wc.asymm {p q:fE} (h:wc p q): ¬wc q p:=fun h'=>wc.irrefl p (h.trans h')
theorem wc.ne {p q:fE} (h:wc p q):p≠q:=fun e=>by subst e;exact wc.irrefl _ h
theorem rO {a b:dO}:Lib.compareBytes a.cP b.cP=0↔a=b:=⟨fun h=>dO.ext' ((vI _ _).1 h),fun h=>(vI _ _).2 (by rw [h])⟩
theorem nH {p q:fE}:gk p q=0↔p=q:=by
 unfold gk
 by_cases h:Lib.compareBytes p.Part.cP q.Part.cP=0
 ·rw [aD (by simpa using h),rO]
  exact⟨fun h'=>Gt (rO.1 h) h',fun h'=>by rw [h']⟩
 ·rw [aC h]
  exact⟨fun h'=>absurd h' h,fun h'=>absurd (rO.2 (by rw [h'])) h⟩
theorem vY {p q:fE}:gk p q<0↔wc p q:=by
 unfold gk wc
 by_cases h:Lib.compareBytes p.Part.cP q.Part.cP=0
 ·rw [aD (by simpa using h),vH]
  have e:=rO.1 h
  constructor
  ·exact fun h'=> .inr ⟨e,h'⟩
  ·rintro(h' | ⟨_,h'⟩)
   ·rw [e] at h';exact absurd h' (dO.lt_irrefl _)
   ·exact h'
 ·rw [aC h,vH]
  constructor
  ·exact fun h'=> .inl h'
  ·rintro(h' | ⟨e,_⟩)
   ·exact h'
   ·exact absurd (rO.2 e) h
theorem sC {p q:fE}:0<gk p q↔wc q p:=by
 constructor
 ·intro h
  rcases wc.total p q with h' | h' | h'
  ·have:=vY.2 h';omega
  ·have:=nH.2 h';omega
  ·exact h'
 ·intro h
  by_cases h1:gk p q<0
  ·exact absurd (vY.1 h1) h.asymm
  ·by_cases h2:gk p q=0
   ·exact absurd (nH.1 h2).symm h.ne
   ·omega
section
variable {N:Nat}
structure Fw (a:fz) (x:dD):Prop where
 name:mI x.Part=true/\isWord x.fE=true
 NS:0<=x.eV/\x.eV< ((a.aI.length:Nat):Int)
 at_:pd x.At=true
structure lx (a:fz):Prop where
 AZ:a.bL.length<=1000
 each: ∀x∈a.bL,Fw a x
 up:a.bL.Pairwise (fun x y=>wc (jw x) (jw y))
theorem CO {a:fz} {k:Nat} {x:dD} (hx:a.bL[k]? =some x) (h:iM a k=none):Fw a x/\∀y,0<k->a.bL[k - 1]? =some y->wc (jw y) (jw x):=by
 unfold iM at h
 rw [hx,Option.bind_some] at h
 split at h
 ·rename_i h1
  split at h
  ·rename_i h2
   split at h
   ·cases h
   ·rename_i h3
    rw [bR] at h1 h2
    unfold eT at h2
    rw [bR,bB,bB] at h2
    refine⟨⟨h1,⟨by omega,by omega⟩,h2.2⟩,fun y hk hy=>?_⟩
    have h4: ¬gk (jw x) (jw y)<=0:=fun h4=>h3 ⟨hk,y,hy,h4⟩
    exact sC.1 (by omega)
  ·cases h
 ·cases h
theorem Ap {a:fz} {k:Nat} {e:Int} (h:iM a k=some e):e≠0:=by
 unfold iM at h
 cases hx:a.bL[k]? with
 | none=>rw [hx] at h;cases h
 | some x=>
  rw [hx,Option.bind_some] at h
  repeat' split at h
  all_goals first | (injection h with h;omega) | cases h
theorem Hn {a:fz} (h:kB a=0):lx a:=by
 unfold kB at h
 split at h
 ·omega
 rename_i hl
 have hn:px a.bL.length (iM a)=none:=by
  cases hf:px a.bL.length (iM a) with
  | none=>rfl
  | some e=>
   rw [hf] at h
   obtain⟨k,_,hk,_⟩:=ku.1 hf
   exact absurd h (Ap hk)
 rw [jJ] at hn
 have hg: ∀(k:Nat) x,a.bL[k]? =some x->Fw a x/\∀y,0<k->a.bL[k - 1]? =some y->wc (jw y) (jw x):=fun k x hx=>CO hx (hn k (aW.1 hx).1)
 refine⟨by omega,fun x hx=>?_,?_⟩
 ·obtain⟨k,hk⟩:=dV hx
  exact(hg k x hk).1
 ·have hstep: ∀(n i:Nat) x y,a.bL[i]? =some x->a.bL[i+n+1]? =some y->wc (jw x) (jw y):=by
   intro n
   induction n with
   | zero=>intro i x y hx hy;exact(hg (i+1) y hy).2 x (by omega) hx
   | succ n ih=>
    intro i x y hx hy
    have hz:i+n+1<a.bL.length:=by have:=(aW.1 hy).1;omega
    have h1:=ih i x _ hx (aL hz)
    exact h1.trans ((hg (i+ (n+1)+1) y hy).2 _ (by omega) (by rw [show i+ (n+1)+1 - 1=i+n+1 by omega];exact aL hz))
  rw [kE]
  intro i j hi hj hij
  exact hstep (j - i - 1) i _ _ (aL hi) (by rw [show i+ (j - i - 1)+1=j by omega];exact aL hj)
theorem lx.inj {a:fz} (h:lx a) {i j:Nat} {x y:dD} (hx:a.bL[i]? =some x) (hy:a.bL[j]? =some y) (e:jw x=jw y):i=j:=by
 obtain⟨h1,rfl⟩:=aW.1 hx
 obtain⟨h2,rfl⟩:=aW.1 hy
 have hp:=kE.1 h.up
 rcases Nat.lt_trichotomy i j with h3 | h3 | h3
 ·exact absurd e (hp i j h1 h2 h3).ne
 ·exact h3
 ·exact absurd e.symm (hp j i h2 h1 h3).ne
theorem Es {l:List dD} {p:fE} (hu:l.Pairwise (fun x y=>wc (jw x) (jw y))) (hl:l.length<=1048576) (hN:4194304<=N) {φ:dD->fE->Option Int} (hφ: ∀x,φ x p=some (gk (jw x) p)):
  ∃r,IA N l p φ=some r/\(bif (!r.2) then (some (-1)) else (some r.1))=some (GX l (fun x=>decide (jw x=p))):=by
 obtain⟨r,h1,h2,h3⟩:=Jl (N:=N) (l:=l) (s:=p) (φ:=φ) (fun x=>gk (jw x) p) hφ (fun i j x y hij hx hy hc=>by
  obtain⟨g1,rfl⟩:=aW.1 hx
  obtain⟨g2,rfl⟩:=aW.1 hy
  have hlt:=kE.1 hu i j g1 g2 hij
  refine sC.2 ?_
  by_cases h0:gk (jw l[i]) p=0
  ·rw [<-nH.1 h0];exact hlt
  ·exact(sC.1 (by omega)).trans hlt) hl hN
 have e: (fun x=>gk (jw x) p==0)= (fun x=>decide (jw x=p)):=by
  funext x
  rw [eI,beq_iff_eq,bB,nH]
 rw [e] at h2 h3
 refine⟨r,h1,?_⟩
 cases hr:r.2 with
 | true=>simp only [mi,aN];rw [h3 hr]
 | false=>
  simp only [ot,aO]
  rw [hr] at h2
  rw [Iy h2.symm]
def ld (a:fz) (p:fE):Int:=GX a.bL (fun x=>decide (jw x=p))
theorem yC (a:fz) (p:fE): (ld a p = -1/\∀x∈a.bL,jw x≠p)\/∃(k:Nat) (x:dD),ld a p= ((k:Nat):Int)/\a.bL[k]? =some x/\jw x=p:=by
 rcases uA a.bL (fun x=>decide (jw x=p)) with ⟨h1,h2⟩ | ⟨k,x,h1,h2,h3,_⟩
 ·exact .inl ⟨h1,fun x hx=>of_decide_eq_false (h2 x hx)⟩
 ·exact .inr ⟨k,x,h1,h2,of_decide_eq_true h3⟩
end
end Go.Gk
namespace Go.Gk
open Go Classical
theorem uh {α β:Type} {l:List α} {f:α->Option β} {k:Nat} {x:α} {c:β} (hx:l[k]? =some x) (hn: ∀(j:Nat) y,j<k->l[j]? =some y->f y=none) (hc:f x=some c):l.findSome? f=some c:=by
 obtain⟨hk,rfl⟩:=aW.1 hx
 rw [List.findSome?_eq_some_iff]
 refine⟨l.take k,l[k],l.drop (k+1),?_,hc,fun y hy=>?_⟩
 ·rw [List.getElem_cons_drop,List.take_append_drop]
 ·obtain⟨j,hj⟩:=dV hy
  have hjk:j<k:=by have:=(aW.1 hj).1;rw [cI] at this;omega
  exact hn j y hjk (by rw [List.getElem?_take_of_lt hjk] at hj;exact hj)
theorem yD {α β:Type} {l:List α} {f:α->Option β} (h: ∀(j:Nat) y,j<l.length->l[j]? =some y->f y=none):l.findSome? f=none:=by
 rw [List.findSome?_eq_none_iff]
 intro x hx
 obtain⟨j,hj⟩:=dV hx
 exact h j x (aW.1 hj).1 hj
section
variable {N:Nat}
theorem NY (c:UInt8): (bif (!((((decide (((c.toNat:Nat):Int)>=97))&&(decide (((c.toNat:Nat):Int)<=122)))||((decide (((c.toNat:Nat):Int)>=65))&&(decide (((c.toNat:Nat):Int)<=90))))||((decide (((c.toNat:Nat):Int)>=48))&&(decide (((c.toNat:Nat):Int)<=57))))) then ((fV N (⟨[95,43,45,35]⟩) ((c.toNat:Nat):Int)).bind fun x50=>some (decide (x50<0))) else (some false))=some (D4 c):=by
 rw [sg,aB]
 unfold D4
 generalize decide (Lib.indexByte (⟨[95,43,45,35]⟩:dO).cP c<0)=p
 have e: (!((((decide (((c.toNat:Nat):Int)>=97))&&(decide (((c.toNat:Nat):Int)<=122)))||((decide (((c.toNat:Nat):Int)>=65))&&(decide (((c.toNat:Nat):Int)<=90))))||((decide (((c.toNat:Nat):Int)>=48))&&(decide (((c.toNat:Nat):Int)<=57)))))= ((((decide (((c.toNat:Nat):Int)<65))||(decide (((c.toNat:Nat):Int)>90)))&&((decide (((c.toNat:Nat):Int)<97))||(decide (((c.toNat:Nat):Int)>122))))&&((decide (((c.toNat:Nat):Int)<48))||(decide (((c.toNat:Nat):Int)>57)))):=by
  rw [eI]
  simp only [Bool.not_eq_true',Bool.or_eq_false_iff,Bool.and_eq_false_iff,decide_eq_false_iff_not,bR,cX,bB]
  omega
 rw [e]
 cases ((((decide (((c.toNat:Nat):Int)<65))||(decide (((c.toNat:Nat):Int)>90)))&&((decide (((c.toNat:Nat):Int)<97))||(decide (((c.toNat:Nat):Int)>122))))&&((decide (((c.toNat:Nat):Int)<48))||(decide (((c.toNat:Nat):Int)>57)))) with
 | true=>rw [aO,Bool.true_and]
 | false=>rw [aN,Bool.false_and]
theorem yE {s:dO} (h:s.cP.length<=1048576) (hN:4194304<=N):iz N s=some (isWord s):=by
 refine Ok.get ?_
 unfold iz isWord
 refine Ok.bind (Ok.rA (n:=s.cP.length) (fun s=>s) (fun k _=>∀(j:Nat) x,j<k->s.cP[j]? =some x->D4 x=false) (Go:=fun _=>s.cP.any D4=false) (Rt:=fun r=>r=false/\s.cP.any D4=true) ?_ ?_ (eL _) rfl (fun j x hj=>by omega) (by omega)) ?_
 ·rintro k i hk e hI
  subst e
  rw [nG hk,aO]
  refine Ok.eq (DT s k hk) (Ok.eq (NY _) (Ok.bif (fun hb=>Ok.rt ⟨rfl,iZ.2 ⟨_,cO hk,hb⟩⟩) (fun hb=>Ok.nx ⟨bP (by omega),fun j x hj hx=>?_⟩)))
  by_cases e:j=k
  ·subst e;rw [aL hk] at hx;injection hx with hx;rw [<-hx];exact hb
  ·exact hI j x (by omega) hx
 ·rintro i e hI
  subst e
  rw [qW,aN]
  refine Ok.br ?_
  rw [List.any_eq_false]
  intro x hx
  obtain⟨j,hj⟩:=dV hx
  rw [hI j x (aW.1 hj).1 hj];exact oq
 intro o ho
 refine Ok.cs ho (fun s' hs'=>?_) (fun r hr=>Ok.ret (by rw [hr.1,hr.2];rfl))
 rw [hs']
 show Ok ((some _).bind _) _
 refine Ok.ret ?_
 rw [ot,Bool.true_and]
 congr 1 <;> · rw [decide_eq_decide];omega
theorem Et {s:dO} (h:s.cP.length<=1048576) (hN:4194304<=N):lX N s=some (mI s):=by
 refine Ok.get ?_
 unfold lX mI
 refine Ok.eq (D6 47 h hN) ?_
 have hsn:=BA s 47
 refine Ok.bind (Ok.rA (n:=(m7 s 47).length) (fun s=>s) (fun k _=>∀(j:Nat) x,j<k->(m7 s 47)[j]? =some x->isWord x=true) (Go:=fun _=>(m7 s 47).all isWord=true) (Rt:=fun r=>r=false/\(m7 s 47).all isWord=false) ?_ ?_ (eL _) rfl (fun j x hj=>by omega) (by omega)) ?_
 ·rintro k i hk e hI
  subst e
  rw [nG hk,aO]
  have hx: (m7 s 47)[k]? =some (m7 s 47)[k]:=aL hk
  have hl:=Bz (cO hk)
  refine Ok.ix hx (Ok.eq (yE (by omega) hN) (Ok.bif (fun hb=>Ok.rt ⟨rfl,?_⟩) (fun hb=>Ok.nx ⟨bP (by omega),fun j x hj hx'=>?_⟩)))
  ·rw [List.all_eq_false]
   exact⟨_,cO hk,by simpa using hb⟩
  ·by_cases e:j=k
   ·subst e;rw [hx] at hx';injection hx' with hx';rw [<-hx'];simpa using hb
   ·exact hI j x (by omega) hx'
 ·rintro i e hI
  subst e
  rw [qW,aN]
  refine Ok.br ?_
  rw [kc]
  intro x hx
  obtain⟨j,hj⟩:=dV hx
  exact hI j x (aW.1 hj).1 hj
 intro o ho
 refine Ok.cs ho (fun s' hs'=>Ok.ret ?_) (fun r hr=>Ok.ret (by rw [hr.1,hr.2,Bool.and_false]))
 rw [hs',Bool.and_true,decide_eq_decide];omega
theorem qK (n lo hi:Int):eK N n lo hi=some (eT n lo hi):=rfl
theorem oz {b:cD} (h:pf b=true):dL N b=some (tX b):=mb (N:=N) h
theorem yc {b:cD}:jD N b=some (lJ b).2:=by
 have e1: (bif (!(eT b.eP 1 10000)) then (some true) else (some (!(pd b.At))))=some (!pf b):=by unfold pf;cases eT b.eP 1 10000 <;> rfl
 have e2: ∀n,cL N n=some (kz n):=fun _=>rfl
 unfold jD lJ
 rw [qK,aB,yv,aB,e1,aB]
 cases hf:pf b with
 | false=>rfl
 | true=>
  rw [mi,aN,oz hf,aB]
  simp only [e2,aB]
  unfold eU
  cases kz (tX b).X0 <;> cases kz (tX b).Y0 <;> cases kz (tX b).X1 <;> cases kz (tX b).Y1 <;> rfl
theorem LW {x y:dD}: ((x.Part.HE y.Part)||((x.Part.BO y.Part)&&(x.fE.HE y.fE||x.fE.BO y.fE)))=decide (gk (jw x) (jw y)<=0):=by
 have hle:gk (jw x) (jw y)<=0↔wc (jw x) (jw y)\/jw x=jw y:=by
  rw [<-vY,<-nH];omega
 rw [eI,bB,hle,cX,bR,cX,Cp,Cp]
 unfold wc jw
 simp only [fE.mk.injEq]
 constructor
 ·rintro(h | ⟨h1,h2 | h2⟩)
  ·exact .inl (.inl h)
  ·exact .inl (.inr ⟨h1,h2⟩)
  ·exact .inr ⟨h1,h2⟩
 ·rintro((h | ⟨h1,h2⟩) | ⟨h1,h2⟩)
  ·exact .inl h
  ·exact .inr ⟨h1, .inl h2⟩
  ·exact .inr ⟨h1, .inr h2⟩
theorem Aq {a:fz} (hc:a.aI.length<=1073741824) (hl:a.bL.length<=1073741824) {k:Nat} {x:dD} (hx:a.bL[k]? =some x) (hn:x.Part.cP.length<=1048576/\x.fE.cP.length<=1048576) (hN:4194304<=N):kp N a ((k:Nat):Int)=some ((iM a k).getD 0):=by
 have hk:=(aW.1 hx).1
 have hw:IntKind.wrap .i64 (((a.aI.length:Nat):Int) - 1)= ((a.aI.length:Nat):Int) - 1:=eE (by omega) (by omega)
 unfold kp iM
 rw [dY hx,aB,Et hn.1 hN,aB,hx,Option.bind_some]
 have e1: (bif (!(mI x.Part)) then (some true) else ((iz N x.fE).bind fun x44=>some (!x44)))=some (!(mI x.Part&&isWord x.fE)):=by
  rw [yE hn.2 hN,aB]
  cases mI x.Part <;> rfl
 rw [e1,aB]
 cases h1: (mI x.Part&&isWord x.fE) with
 | false=>rw [ot,aO,aD oq];rfl
 | true=>
  rw [mi,aN,aC rfl,hw,qK,aB]
  have e2: (bif (!(eT x.eV 0 (((a.aI.length:Nat):Int) - 1))) then (some true) else ((gY N x.At).bind fun x57=>some (!x57)))=some (!(eT x.eV 0 (((a.aI.length:Nat):Int) - 1)&&pd x.At)):=by
   rw [yv,aB]
   cases eT x.eV 0 (((a.aI.length:Nat):Int) - 1) <;> rfl
  rw [e2,aB]
  cases h2: (eT x.eV 0 (((a.aI.length:Nat):Int) - 1)&&pd x.At) with
  | false=>rw [ot,aO,aD oq];rfl
  | true=>
   rw [mi,aN,aC rfl]
   by_cases h0:0<k
   ·have hy:a.bL[k - 1]? =some (a.bL[k - 1]'(by omega)):=aL _
    rw [bG (by omega),aO,fN h0 (by omega),dY hy,aB,LW]
    by_cases h3:gk (jw x) (jw (a.bL[k - 1]'(by omega)))<=0
    ·rw [bG h3,aO,aC ⟨h0,_,hy,h3⟩];rfl
    ·rw [bI h3,aN,aD (by rintro⟨_,y,hy',h4⟩;rw [hy] at hy';injection hy' with hy';subst hy';exact h3 h4)];rfl
   ·rw [bI (by omega),aN,aD (fun h=>h0 h.1)];rfl
noncomputable def lf (a:fz):Int:=if a.aI.length=0 then 9 else if 16<a.aI.length then 2 else match a.aI.findSome? rJ with
 | some e=>e
 | none=>if gU a.cQ≠0 then gU a.cQ else if 2000<a.cQ.length+ (a.aI.map List.length).sum then 2 else if gR a≠0 then gR a else kB a
theorem Eu (a:fz):iX a=if lf a≠0 then lf a else if ph a then 12 else 0:=by
 unfold iX lf Hf A3
 by_cases h0:a.aI.length=0
 ·rw [aC h0,aC h0,aC (by decide)]
 rw [aD h0,aD h0]
 by_cases h1:16<a.aI.length
 ·rw [aC h1,aC h1,aC (by decide)]
 rw [aD h1,aD h1]
 cases hf:a.aI.findSome? rJ with
 | some e=>
  have he:e≠0:=by
   obtain⟨_,x,_,_,hx,_⟩:=List.findSome?_eq_some_iff.1 hf
   unfold rJ at hx
   split at hx
   ·rename_i h;injection hx with hx;rw [<-hx];exact h
   ·cases hx
  dsimp only
  rw [aC he]
 | none=>
  dsimp only
  by_cases h2:gU a.cQ≠0
  ·rw [aC h2,aC h2,aC h2]
  rw [aD h2,aD h2]
  by_cases h3:2000<a.cQ.length+ (a.aI.map List.length).sum
  ·rw [aC h3,aC h3,aC (by decide)]
  rw [aD h3,aD h3]
  by_cases h4:gR a≠0
  ·rw [aC h4,aC h4,aC h4]
  rw [aD h4,aD h4]
theorem Ar {a:fz} (h:lf a=0):gR a=0:=by
 unfold lf at h
 by_cases h0:a.aI.length=0
 ·rw [aC h0] at h;omega
 rw [aD h0] at h
 by_cases h1:16<a.aI.length
 ·rw [aC h1] at h;omega
 rw [aD h1] at h
 cases hf:a.aI.findSome? rJ with
 | some e=>
  rw [hf] at h
  have h:e=0:=h
  obtain⟨_,x,_,_,hx,_⟩:=List.findSome?_eq_some_iff.1 hf
  unfold rJ at hx
  split at hx
  ·rename_i h';injection hx with hx;rw [hx] at h';exact absurd h h'
  ·cases hx
 | none=>
  rw [hf] at h
  dsimp only at h
  by_cases h2:gU a.cQ≠0
  ·rw [aC h2] at h;exact absurd h h2
  rw [aD h2] at h
  by_cases h3:2000<a.cQ.length+ (a.aI.map List.length).sum
  ·rw [aC h3] at h;omega
  rw [aD h3] at h
  by_cases h4:gR a≠0
  ·rw [aC h4] at h;exact absurd h h4
  ·simpa using h4
theorem yO {a:fz} (hs:rK a) (hN:4398046511104<=N):j9 N a=some (lf a):=by
 refine Ok.get ?_
 have c1:=hs.cs
 have c2:=hs.out
 have c3:=hs.bs
 have c4:=hs.ls
 unfold j9 lf
 refine Ok.bif (fun h=>Ok.ret ?_) (fun h=>?_)
 ·rw [aC (by have:=beq_iff_eq.1 h;omega)]
 have h0: ¬a.aI.length=0:=by rw [beq_eq_false_iff_ne] at h;omega
 rw [aD h0]
 refine Ok.bif (fun h=>Ok.ret ?_) (fun h=>?_)
 ·rw [aC (by have:=of_decide_eq_true h;omega)]
 have h1: ¬16<a.aI.length:=by have:=of_decide_eq_false h;omega
 rw [aD h1]
 have sumle: ∀k,k<=a.aI.length->((a.aI.take k).map List.length).sum<=k*1048576:=by
  intro k
  induction k with
  | zero=>intro _;simp
  | succ k ih=>
   intro hk
   have:=ih (by omega)
   have h2:=hs.each _ (cO (show k<a.aI.length by omega))
   rw [eF (by omega),dU,List.sum_append]
   simp only [dI,List.map_nil,List.sum_cons,List.sum_nil]
   rw [Nat.add_mul];omega
 refine Ok.bind (Ok.rA (n:=a.aI.length) (fun s=>s.2) (fun k s=>s.1= ((a.cQ.length+ ((a.aI.take k).map List.length).sum:Nat):Int)/\∀(j:Nat) r,j<k->a.aI[j]? =some r->rJ r=none)
  (Go:=fun s=>s.1= ((a.cQ.length+ (a.aI.map List.length).sum:Nat):Int)/\a.aI.findSome? rJ=none) (Rt:=fun r=>a.aI.findSome? rJ=some r) ?_ ?_ (eL _) rfl ⟨by simp,fun j r hj=>by omega⟩ (by omega)) ?_
 ·rintro k ⟨m,i⟩ hk e ⟨hm,hI⟩
  dsimp only at e hm ⊢
  subst e;subst hm
  have hx:a.aI[k]? =some a.aI[k]:=aL hk
  have he:=hs.each _ (cO hk)
  have hsl:=sumle k (by omega)
  rw [nG hk,aO]
  refine Ok.ix hx (Ok.eq (sL (by omega) hN) (Ok.bif (fun hb=>Ok.rt ?_) (fun hb=>Ok.ix hx (Ok.nx ⟨bP (by omega),?_,fun j r hj hr=>?_⟩))))
  ·exact uh hx hI (by unfold rJ;rw [aC (by simpa using hb)])
  ·dsimp only
   rw [wrap_add (by omega),eF hk,dU,List.sum_append]
   simp only [dI,List.map_nil,List.sum_cons,List.sum_nil]
   omega
  ·by_cases e:j=k
   ·subst e;rw [hx] at hr;injection hr with hr;rw [<-hr]
    unfold rJ;rw [aD (by simpa using hb)]
   ·exact hI j r (by omega) hr
 ·rintro⟨m,i⟩ e ⟨hm,hI⟩
  dsimp only at e hm ⊢
  subst e
  rw [qW,aN]
  rw [fw] at hm
  exact Ok.br ⟨hm,yD hI⟩
 intro o ho
 refine Ok.cs ho ?_ (fun r hr=>Ok.ret (by rw [hr]))
 rintro⟨m,i⟩ ⟨hm,hf⟩
 dsimp only at hm ⊢
 subst hm
 rw [hf]
 dsimp only
 refine Ok.eq (sL (by omega) hN) (Ok.bif (fun h=>Ok.ret ?_) (fun h=>?_))
 ·rw [aC (by simpa using h)]
 rw [aD (by simpa using h)]
 have hmr:Ok (bif (decide (((a.cQ.length+ (a.aI.map List.length).sum:Nat):Int)>2000)) then (some true) else (some (decide (((a.aQ.length:Nat):Int)>500)))) (fun b=>b=decide (2000<a.cQ.length+ (a.aI.map List.length).sum\/500<a.aQ.length)):=by
  by_cases h2:2000<a.cQ.length+ (a.aI.map List.length).sum
  ·rw [bG (by omega),aO];exact Ok.ret (bG (.inl h2)).symm
  ·rw [bI (by omega),aN]
   refine Ok.ret ?_
   rw [decide_eq_decide];omega
 refine Ok.bind hmr fun b hb=>?_
 subst hb
 refine Ok.bif (fun h=>Ok.ret ?_) (fun h=>?_)
 ·have h:=of_decide_eq_true h
  by_cases h2:2000<a.cQ.length+ (a.aI.map List.length).sum
  ·rw [aC h2]
  ·rw [aD h2]
   have hb:gR a=2:=by unfold gR;rw [aC (by omega)]
   rw [hb,aC (by decide)]
 have h:=of_decide_eq_false h
 rw [aD (by omega)]
 have hbe:gR a= (a.aQ.findSome? (kR a.aI.length)).getD 0:=by unfold gR;rw [aD (by omega)]
 have hw:IntKind.wrap .i64 (((a.aI.length:Nat):Int) - 1)= ((a.aI.length:Nat):Int) - 1:=eE (by omega) (by omega)
 refine Ok.bind (Ok.rA (n:=a.aQ.length) (fun s=>s) (fun k _=>∀(j:Nat) b,j<k->a.aQ[j]? =some b->kR a.aI.length b=none) (Go:=fun _=>a.aQ.findSome? (kR a.aI.length)=none) (Rt:=fun r=>a.aQ.findSome? (kR a.aI.length)=some r/\r≠0) ?_ ?_ (eL _) rfl (fun j b hj=>by omega) (by omega)) ?_
 ·rintro k i hk e hI
  subst e
  rw [nG hk,aO]
  have hx:a.aQ[k]? =some a.aQ[k]:=aL hk
  refine Ok.ix hx (Ok.eq yc (Ok.bif (fun hb=>Ok.rt ?_) (fun hb=>?_)))
  ·have hb: (lJ a.aQ[k]).2≠0:=by simpa using hb
   exact⟨uh hx hI (by unfold kR;rw [aC hb]),hb⟩
  ·have hb: ¬(lJ a.aQ[k]).2≠0:=by simpa using hb
   rw [hw]
   have e2: ((eK N a.aQ[k].cZ 0 (((a.aI.length:Nat):Int) - 1)).bind fun x135=>bif (!x135) then (some true) else ((eK N a.aQ[k].To a.aQ[k].cZ (((a.aI.length:Nat):Int) - 1)).bind fun x138=>some (!x138)))=some (!(eT a.aQ[k].cZ 0 (((a.aI.length:Nat):Int) - 1)&&eT a.aQ[k].To a.aQ[k].cZ (((a.aI.length:Nat):Int) - 1))):=by
    rw [qK,aB,qK,aB]
    cases eT a.aQ[k].cZ 0 (((a.aI.length:Nat):Int) - 1) <;> rfl
   refine Ok.eq e2 (Ok.bif (fun h3=>Ok.rt ⟨uh hx hI ?_,by decide⟩) (fun h3=>Ok.nx ⟨bP (by omega),fun j b hj hb'=>?_⟩))
   ·unfold kR
    rw [aD hb,aD (by rintro⟨g1,g2⟩;rw [g1,g2] at h3;cases h3)]
   ·by_cases e:j=k
    ·subst e;rw [hx] at hb';injection hb' with hb';rw [<-hb']
     rw [Bool.not_eq_false',bR] at h3
     unfold kR;rw [aD hb,aC h3]
    ·exact hI j b (by omega) hb'
 ·rintro i e hI
  subst e
  rw [qW,aN]
  exact Ok.br (yD hI)
 intro o ho
 refine Ok.cs ho ?_ (fun r hr=>Ok.ret ?_)
 rotate_left
 ·rw [hbe,hr.1,Option.getD_some,aC hr.2]
 intro _ hbn
 rw [hbe,hbn,Option.getD_none,aD (by decide)]
 unfold kB
 refine Ok.bif (fun h=>Ok.ret ?_) (fun h=>?_)
 ·rw [aC (by have:=of_decide_eq_true h;omega)]
 have h5: ¬1000<a.bL.length:=by have:=of_decide_eq_false h;omega
 rw [aD h5]
 refine Ok.bind (Ok.rA (n:=a.bL.length) (fun s=>s) (fun k _=>∀j,j<k->iM a j=none) (Go:=fun _=>px a.bL.length (iM a)=none) (Rt:=fun r=>px a.bL.length (iM a)=some r) ?_ ?_ (eL _) rfl (fun j hj=>by omega) (by omega)) ?_
 ·rintro k i hk e hI
  subst e
  rw [nG hk,aO]
  have hx:a.bL[k]? =some a.bL[k]:=aL hk
  refine Ok.eq (Aq (by omega) (by omega) hx (hs.nm _ (cO hk)) (by omega)) (Ok.bif (fun hb=>Ok.rt ?_) (fun hb=>Ok.nx ⟨bP (by omega),fun j hj=>?_⟩))
  ·cases hl:iM a k with
   | none=>rw [hl] at hb;cases hb
   | some e=>exact ku.2 ⟨k,hk,hl,hI⟩
  ·by_cases e:j=k
   ·subst e
    cases hl:iM a j with
    | none=>rfl
    | some e=>rw [hl] at hb;exact absurd (by simpa using hb) (Ap hl)
   ·exact hI j (by omega)
 ·rintro i e hI
  subst e
  rw [qW,aN]
  exact Ok.br (jJ.2 hI)
 intro o ho
 exact Ok.cs ho (fun _ h=>Ok.ret (by rw [h];rfl)) (fun r hr=>Ok.ret (by rw [hr];rfl))
theorem CP (b:cD) (k:Int):nQ N b k=some (j4 b k):=rfl
theorem As {a:fz} {i:Nat} {r:List aH} {s:List aA} (hb:mB a.aQ) (hr:a.aI[i]? =some r) (hrl:r.length<=2000) (hro: ∀x∈r,Bs x) (hd:si r (j5 a.aQ ((i:Nat):Int)) s) (hN:4398046511104<=N):kq N a ((i:Nat):Int)=some (aP s):=by
 refine Ok.get ?_
 have hbl:=hb.len
 have hhl:=x6 hb ((i:Nat):Int)
 have hho:=t7 hb ((i:Nat):Int)
 unfold kq
 refine Ok.bind (Ok.rA (n:=a.aQ.length) (fun s=>s.2) (fun k st=>st.1=j5 (a.aQ.take k) ((i:Nat):Int)) (Go:=fun st=>st.1=j5 a.aQ ((i:Nat):Int)) (Rt:=fun _=>False) ?_ ?_ (eL _) rfl rfl (by omega)) ?_
 ·rintro k ⟨out,ii⟩ hk e hI
  dsimp only at e hI ⊢
  subst e;subst hI
  have hx:a.aQ[k]? =some a.aQ[k]:=aL hk
  have hts:j5 (a.aQ.take (k+1)) ((i:Nat):Int)=if j4 a.aQ[k] ((i:Nat):Int)=true then j5 (a.aQ.take k) ((i:Nat):Int)++[tX a.aQ[k]] else j5 (a.aQ.take k) ((i:Nat):Int):=by
   unfold j5
   rw [eF hk,jL,dU]
   by_cases h:j4 a.aQ[k] ((i:Nat):Int)=true
   ·rw [aC h];simp [h]
   ·rw [aD h];simp [h]
  have hlen: (j5 (a.aQ.take k) ((i:Nat):Int)).length<=k:=by
   unfold j5
   rw [dN]
   have:=nn (fun b=>j4 b ((i:Nat):Int)) (a.aQ.take k)
   rw [cI] at this;omega
  rw [nG hk,aO]
  refine Ok.ix hx (Ok.eq (CP _ _) (Ok.bind (P:=fun st:List aH=>st=j5 (a.aQ.take (k+1)) ((i:Nat):Int)) (Ok.bif (fun h=>?_) (fun h=>Ok.ret ?_)) (fun st hst=>Ok.nx ⟨bP (by omega),hst⟩)))
  ·refine Ok.ix hx (Ok.eq (oz (hb.ok _ (cO hk)).1) (Ok.app (by simp only [dK,List.length_nil];omega) (Ok.ret ?_)))
   rw [hts,aC h]
  ·rw [hts,aD (by rw [kb];exact h)]
 ·rintro⟨out,ii⟩ e hI
  dsimp only at e hI ⊢
  subst e
  rw [qW,aN]
  exact Ok.br (by rw [fw] at hI;exact hI)
 intro o ho
 refine Ok.cs ho ?_ (fun r hr=>hr.elim)
 rintro⟨hs,ii⟩ hI
 dsimp only at hI ⊢
 subst hI
 obtain⟨t,_,ht⟩:=oh (N:=N) (l:=j5 a.aQ ((i:Nat):Int)) (by omega) (fun x hx=>(hho x hx).1) (by omega)
 obtain⟨z1,z2,z3⟩:=ht.D8
 have z4:2* (j5 a.aQ ((i:Nat):Int)).length* (2* (j5 a.aQ ((i:Nat):Int)).length)<=1000*1000:=Nat.mul_le_mul (by omega) (by omega)
 refine Ok.ix hr (Ok.eq (sw ht.can ht.cover (by omega) (fun x hx=>(hho x hx).1.x) (by omega) hN) ?_)
 unfold nR
 have hsz:=(uK (A:=5000) hd.can hd.lim (by rw [cR,k6,k6];omega) (by rw [cR,iD,iD];omega)).2.2
 have hc:i5 N r (aP t) 3=some (aP s):=En hd.can (fun x y=>by
  rw [hd.cover,oj ht.can,ht.cover];unfold qe;simp) (by omega) (by omega) (fun x hx=>(hro x hx).x) (fun x hx=>(rN ht.can x hx).1) (by omega) hN
 rw [hc,aB,aB]
 exact Ok.ret rfl
theorem BL: ∀(fP:List (List (List aA))) (k:Nat),(dR k fP).length= (fP.map List.length).sum
 | [],k=>rfl
 | ps::fP,k=>by
  show (ps.map _++dR (k+1) fP).length=_
  rw [cR,dN,BL fP (k+1),dI,List.sum_cons]
theorem Ho {a:fz} {k9:List (List aA)} {fP:List (List (List aA))} (hg:ox a) (hD:t8 a.aI a.aQ a.aI.length k9 fP) {i:Nat} {s:List aA} (hi:i<a.aI.length) (hd:k9[i]? =some s) (hf: (aP s).length<=2000): ∃ps u,fP[i]? =some ps/\qg a.aI[i] (j5 a.aQ ((i:Nat):Int)) s u ps:=by
 have hp:fP[i]? =some (fP[i]'(by rw [hD.AY];exact hi)):=aL _
 have hdr:=hD.dr i _ _ hi (aL hi) hd
 obtain⟨u,hu⟩:=hD.pt i _ _ hi hd hp
 have hreg:=qI.1 (hg.Px _ (cO hi))
 exact⟨_,u,hp,fun x hx=>((qV.1 hreg.1).2 x hx).1,fun x hx=>(t7 hg.gb _ x hx).2,(CF hreg.1).2,fun x hx=>(t7 hg.gb _ x hx).1,hdr,hu,hf⟩
theorem qg.pieces {r hs:List aH} {s:List aA} {u:Nat->Nat} {ps:List (List aA)} (h:qg r hs s u ps) (hN:4398046511104<=N):i6 N (aP s)=some (ps.map aP):=by
 refine Er h.dr.can h.pt h.AZ (fun q hq=>?_) (fun p hp=>(h.part hp).2.1) hN
 obtain⟨h1,h2,h3⟩:=Gs h.r1 h.r2 h.dr.can h.dr.lim q hq
 exact Fb h1 h2 h3
theorem Fx {a b:aH} (ha:a.X0<a.X1/\a.Y0<a.Y1) (hb:b.X0<b.X1/\b.Y0<b.Y1):gZ N a b=some (Ee a b):=by
 unfold gZ
 rw [uN,uN,oy,oy]
 have e1:decide (min a.X1 b.X1>max a.X0 b.X0)=xf a.X0 a.X1 b.X0 b.X1:=by
  unfold xf
  rw [eI,bR,bB,bB,bB];omega
 have e2:decide (min a.Y1 b.Y1>max a.Y0 b.Y0)=xf a.Y0 a.Y1 b.Y0 b.Y1:=by
  unfold xf
  rw [eI,bR,bB,bB,bB];omega
 rw [e1,e2]
 unfold Ee
 cases xf a.X0 a.X1 b.X0 b.X1 <;> rfl
theorem sq_pos {b:cD} (h:pf b=true): (tX b).X0< (tX b).X1/\(tX b).Y0< (tX b).Y1:=by
 obtain⟨h1,_,_⟩:=qG h
 simp only [tX];omega
inductive Checked (N:Nat) (a:fz):Prop
 | err (e:Int) (he:e≠0) (h1:gC N a=some (none,e)) (h2:gO N a=some e)
 | ok {k9:List (List aA)} {fP:List (List (List aA))} {r:Nat->Nat} {gs:List cU} {ofP ofB pg:List Int} {oW:List fJ} (b:ud a k9 fP r gs ofP ofB pg oW)
  (h1:gC N a=some (some (a.aI,a.cQ,a.aQ,a.bL,k9,dR 0 fP,nj a.aQ (dR 0 fP),gs,ofP,ofB,pg,oW),0)) (h2:gO N a=some 0)
theorem Gu {a:fz} (hb:mB a.aQ) (hN:4398046511104<=N) {f:Int->Option Int} {Q:Int->Prop} (hc:ph a->Q 12) (hn: ¬ph a->∀s,Ok (f s) Q):
  Ok ((jB (fun(s35:Int)=>(bif (decide (s35< (a.aQ.length:Int))) then ((jB (fun(s622:Int)=>(bif (decide (s622<s35)) then (((idx a.aQ s35).bind fun x869=>(idx a.aQ s622).bind fun x873=>(jV N x869 x873).bind fun x876=>bif x876 then ((idx a.aQ s35).bind fun x879=>(dL N x879).bind fun x882=>(idx a.aQ s622).bind fun x885=>(dL N x885).bind fun x888=>(gZ N x882 x888).bind fun x890=>some x890) else (some false)).bind fun s867=>bif s867 then (some (.rt 12)) else (some (.nx (IntKind.wrap .i64 (s622+1))))) else (some (.br s622)):Option (Fl (Int) Int))) N 0).bind fun o911=>o911.cs (fun(s622:Int)=>some (.nx (IntKind.wrap .i64 (s35+1)))) (fun r=>some (.rt r))) else (some (.br s35)):Option (Fl (Int) Int))) N 0).bind fun o933=>o933.cs f (fun r=>some r)) Q:=by
 have hbl:=hb.len
 refine Ok.bind (Ok.rA (n:=a.aQ.length) (fun s=>s) (fun k _=>∀(i j:Nat) (x y:cD),i<k->j<i->a.aQ[i]? =some x->a.aQ[j]? =some y->¬qd x y=true) (Go:=fun _=>¬ph a) (Rt:=fun r=>r=12/\ph a) ?_ ?_ (eL _) rfl (fun i j x y hi=>by omega) (by omega)) ?_
 ·rintro k s hk e hI
  subst e
  rw [nG hk,aO]
  have hx:a.aQ[k]? =some a.aQ[k]:=aL hk
  have fx:=(hb.ok _ (cO hk)).1
  refine Ok.bind (Ok.rA (n:=k) (fun s=>s) (fun t _=>∀(j:Nat) (y:cD),j<t->a.aQ[j]? =some y->¬qd a.aQ[k] y=true) (Go:=fun _=>∀(j:Nat) (y:cD),j<k->a.aQ[j]? =some y->¬qd a.aQ[k] y=true) (Rt:=fun r=>r=12/\ph a) ?_ ?_ (eL _) rfl (fun j y hj=>by omega) (by omega)) ?_
  ·rintro t s ht e hI2
   subst e
   rw [nG ht,aO]
   have hy:a.aQ[t]? =some (a.aQ[t]'(by omega)):=aL _
   have fy:=(hb.ok _ (cO (show t<a.aQ.length by omega))).1
   have hcond: ((idx a.aQ ((k:Nat):Int)).bind fun x869=>(idx a.aQ ((t:Nat):Int)).bind fun x873=>(jV N x869 x873).bind fun x876=>bif x876 then ((idx a.aQ ((k:Nat):Int)).bind fun x879=>(dL N x879).bind fun x882=>(idx a.aQ ((t:Nat):Int)).bind fun x885=>(dL N x885).bind fun x888=>(gZ N x882 x888).bind fun x890=>some x890) else (some false))=some (qd a.aQ[k] (a.aQ[t]'(by omega))):=by
    rw [dY hx,aB,dY hy,aB]
    unfold jV qd
    rw [aB]
    cases (decide (a.aQ[k].cZ<=(a.aQ[t]'(by omega)).To)&&decide ((a.aQ[t]'(by omega)).cZ<=a.aQ[k].To)) with
    | false=>rfl
    | true=>rw [aO,aB,oz fx,aB,aB,oz fy,aB,Fx (sq_pos fx) (sq_pos fy),aB,Bool.true_and]
   refine Ok.eq hcond (Ok.bif (fun h=>Ok.rt ⟨rfl,k,t,_,_,ht,hx,hy,h⟩) (fun h=>Ok.nx ⟨bP (by omega),fun j y hj hjy=>?_⟩))
   by_cases e:j=t
   ·subst e;rw [hy] at hjy;injection hjy with hjy;rw [<-hjy,h];exact oq
   ·exact hI2 j y (by omega) hjy
  ·rintro s e hI2
   subst e
   rw [qW,aN]
   exact Ok.br hI2
  intro o ho
  refine Ok.cs ho (fun s hs=>Ok.nx ⟨bP (by omega),fun i j x y hi hj hix hjy=>?_⟩) (fun r hr=>Ok.rt hr)
  by_cases e:i=k
  ·subst e;rw [hx] at hix;injection hix with hix;rw [<-hix];exact hs j y hj hjy
  ·exact hI i j x y (by omega) hj hix hjy
 ·rintro s e hI
  subst e
  rw [qW,aN]
  refine Ok.br ?_
  rintro⟨i,j,x,y,hij,hx,hy,hc⟩
  exact hI i j x y (aW.1 hx).1 hij hx hy hc
 intro o ho
 exact Ok.cs ho (fun s hs=>hn hs s) (fun r hr=>Ok.ret (by rw [hr.1];exact hc hr.2))
theorem checked {a:fz} (hs:rK a) (hN:4398046511104<=N):Checked N a:=by
 obtain⟨x,hx,hI⟩:=x8 (N:=N) hs hN
 have hbe:=Eu a
 have hcp:=yO (N:=N) hs hN
 rcases hI with ⟨he,rfl⟩ | ⟨h0,hg,hcl,k9,fP,D,hI⟩
 ·refine .err _ he hx (Ok.get ?_)
  unfold gO
  refine Ok.eq hcp ?_
  by_cases h:lf a≠0
  ·rw [aC h] at hbe
   rw [show (lf a != 0)=true by simpa using h,aO,hbe];exact Ok.ret rfl
  ·rw [aD h] at hbe
   have hp0:lf a=0:=by simpa using h
   have hc:ph a:=by
    by_cases hc:ph a
    ·exact hc
    ·rw [aD hc] at hbe;exact absurd hbe he
   rw [aC hc] at hbe
   rw [hp0,show ((0:Int) != 0)=false by rfl,aN]
   have hbo:=Ar hp0
   refine Gu ⟨(lv hbo).1,fun b hb=>⟨((lv hbo).2 b hb).1,((lv hbo).2 b hb).2.1⟩⟩ hN (fun _=>hbe.symm) (fun h=>absurd hc h)
 ·have hp0:lf a=0:=by
   by_cases h:lf a≠0
   ·rw [aC h] at hbe;rw [hbe] at h0;exact h0
   ·simpa using h
  have key:gO N a=some (if L6 k9 fP then 0 else 2):=by
   refine Ok.get ?_
   unfold gO
   refine Ok.eq hcp ?_
   rw [hp0,show ((0:Int) != 0)=false by rfl,aN]
   refine Gu hg.gb hN (fun h=>absurd h hcl) (fun _ _=>?_)
   have hc16:=hg.AZ.2
   refine Ok.bind (Ok.rA (n:=a.aI.length) (fun s=>s.2) (fun k st=>st.1= ((((fP.take k).map List.length).sum:Nat):Int)/\((fP.take k).map List.length).sum<=k*2000/\∀(j:Nat) s,j<k->k9[j]? =some s->(aP s).length<=2000)
    (Go:=fun st=>st.1= (((fP.map List.length).sum:Nat):Int)/\∀s∈k9,(aP s).length<=2000) (Rt:=fun r=>r=2/\¬L6 k9 fP) ?_ ?_ (eL _) rfl ⟨by simp,by simp,fun j s hj=>by omega⟩ (by omega)) ?_
   ·rintro k ⟨m,i⟩ hk e ⟨hm,hml,hI2⟩
    dsimp only at e hm ⊢
    subst e;subst hm
    rw [nG hk,aO]
    have hcx:a.aI[k]? =some a.aI[k]:=aL hk
    have hd:k9[k]? =some (k9[k]'(by rw [D.len];exact hk)):=aL _
    have hcs:=hg.cs _ (cO hk)
    refine Ok.eq (As hg.gb hcx hcs.1 hcs.2 (D.dr k _ _ hk hcx hd) hN) (Ok.bif (fun h=>Ok.rt ⟨rfl,fun hf=>?_⟩) (fun h=>?_))
    ·have:=hf.1 _ (eW hd)
     have:=of_decide_eq_true h
     omega
    ·have hf: (aP (k9[k]'(by rw [D.len];exact hk))).length<=2000:=by have:=of_decide_eq_false h;omega
     obtain⟨ps,u,hp,L⟩:=Ho hg D hk hd hf
     have hpl:=L.pt.AZ
     have hkp:k<fP.length:=by rw [D.AY];exact hk
     have hpe:fP[k]=ps:=by rw [aL hkp] at hp;injection hp
     refine Ok.eq (L.pieces hN) (Ok.nx ⟨bP (by omega),?_,?_,fun j s hj hjs=>?_⟩)
     ·dsimp only
      rw [dN,wrap_add (by omega),eF hkp,dU,List.sum_append,hpe]
      simp
     ·rw [eF hkp,dU,List.sum_append,hpe]
      simp only [dI,List.map_nil,List.sum_cons,List.sum_nil]
      rw [Nat.add_mul];omega
     ·by_cases e:j=k
      ·subst e;rw [hd] at hjs;injection hjs with hjs;rw [<-hjs];exact hf
      ·exact hI2 j s (by omega) hjs
   ·rintro⟨m,i⟩ e ⟨hm,hml,hI2⟩
    dsimp only at e hm ⊢
    subst e
    rw [qW,aN]
    rw [lE (by rw [D.AY];exact bJ _)] at hm
    refine Ok.br ⟨hm,fun s hs'=>?_⟩
    obtain⟨j,hj⟩:=dV hs'
    exact hI2 j s (by have:=(aW.1 hj).1;rw [D.len] at this;exact this) hj
   intro o ho
   refine Ok.cs ho ?_ (fun r hr=>Ok.ret (by rw [hr.1,aD hr.2]))
   rintro⟨m,i⟩ ⟨hm,hf⟩
   dsimp only at hm ⊢
   subst hm
   have hpl:=BL fP 0
   refine Ok.bif (fun h=>Ok.ret ?_) (fun h=>Ok.ret ?_)
   ·rw [aD]
    rintro⟨_,h2⟩
    have:=of_decide_eq_true h
    omega
   ·rw [aC]
    exact⟨hf,by have:=of_decide_eq_false h;omega⟩
  rcases hI with ⟨hf,rfl⟩ | ⟨hf,r,gs,ofP,ofB,pg,oW,hC,rfl⟩
  ·rw [aD hf] at key
   exact .err 2 (by decide) hx key
  ·rw [aC hf] at key
   exact .ok ⟨hg,hcl,D,hf,hC⟩ hx key
end
end Go.Gk
namespace Go.Gk
open Go Classical
section
variable {N:Nat}
end
section
variable {N:Nat} {a:fz} {k9:List (List aA)} {fP:List (List (List aA))} {r:Nat->Nat} {gs:List cU} {ofP ofB pg:List Int} {oW:List fJ}
end
end Go.Gk
namespace Go.Gk
open Go Classical
structure PS (n:Nat) (r:Nat->Nat) (h:Nat) (q:List Nat) (seen:List Bool) (pieces todo:List Int):Prop where
 sl:seen.length=n
 sn: ∀p,p<n->seen[p]? =some (decide (r p<h\/p∈q))
 qn:q.Nodup
 qi: ∀p∈q,p<n/\r p=h
 q0:h∈q
 td:todo=ints q
 pi:iV pieces
 pm: ∀x,x∈pieces↔∃p∈q,x= ((p:Nat):Int)
structure QS (n m:Nat) (tch:List (List Int)) (r:Nat->Nat) (h:Nat) (q qb:List Nat) (xd:List Int) (used:List Bool):Prop where
 ul:used.length=m
 un: ∀k,k<m->used[k]? =some (decide (k∈qb))
 bi:iV xd
 bm: ∀x,x∈xd↔∃k∈qb,x= ((k:Nat):Int)
 bk: ∀k∈qb,k<m/\r (n+k)=h/\∀l,tch[k]? =some l->∀p:Nat,((p:Nat):Int)∈l->p∈q
theorem PS.AZ {n:Nat} {r:Nat->Nat} {h:Nat} {q:List Nat} {seen:List Bool} {pieces todo:List Int} (H:PS n r h q seen pieces todo):q.length<=n/\pieces.length<=n:=by
 have h1:=eZ H.qn (m:=List.range n) (fun k hk=>by rw [mf];exact(H.qi k hk).1)
 rw [List.length_range] at h1
 have h2:=eZ H.pi.nodup (m:=ints q) (fun x hx=>Ad.2 ((H.pm x).1 hx))
 rw [nE] at h2
 exact⟨h1,by omega⟩
theorem QS.AZ {n m:Nat} {tch:List (List Int)} {r:Nat->Nat} {h:Nat} {q qb:List Nat} {xd:List Int} {used:List Bool} (H:QS n m tch r h q qb xd used):xd.length<=m:=by
 have h2:=eZ H.bi.nodup (m:=ints (List.range m)) (fun x hx=>by
  obtain⟨k,hk,e⟩:=(H.bm x).1 hx
  exact Ad.2 ⟨k,mf.2 (H.bk k hk).1,e⟩)
 rwa [nE,List.length_range] at h2
section
variable {N:Nat}
end
end Go.Gk
namespace Go.Gk
open Go Classical
structure PQ (G G':List cU):Prop where
 len:G'.length=G.length
 each: ∀(g:Nat) x,G[g]? =some x->∃y,G'[g]? =some y/\y.oQ=x.oQ/\y.aQ=x.aQ
section
variable {N:Nat}
end
section
variable {N:Nat} {a:fz} {k9:List (List aA)} {fP:List (List (List aA))} {r:Nat->Nat} {gs:List cU} {ofP ofB pg:List Int} {oW:List fJ}
theorem ud.vn (b:ud a k9 fP r gs ofP ofB pg oW):lx a:=Hn b.NU.vn
end
end Go.Gk
namespace Go.Gk
open Go Classical
section
variable {N:Nat} {a:fz} {k9:List (List aA)} {fP:List (List (List aA))} {r:Nat->Nat} {gs:List cU} {ofP ofB pg:List Int} {oW:List fJ}
end
section
variable {N:Nat}
end
end Go.Gk
namespace Go.Gk
open Go Classical
section
variable {bs:List cD} {ls:List dD} {pcs:List aJ} {r:Nat->Nat} {gs:List cU} {ofP ofB pg:List Int} {oW:List fJ}
end
section
variable {N:Nat} {a:fz} {k9:List (List aA)} {fP:List (List (List aA))} {r:Nat->Nat} {gs:List cU} {ofP ofB pg:List Int} {oW:List fJ}
end
section
variable {N:Nat}
end
end Go.Gk
namespace Go.Gk
open Go Classical
section
variable {N:Nat} {a:fz} {k9:List (List aA)} {fP:List (List (List aA))} {r:Nat->Nat} {gs:List cU} {ofP ofB pg:List Int} {oW:List fJ}
theorem rP (g:lx a) (p:fE) (hN:4398046511104<=N):dZ N a p=some (ld a p):=by
 obtain⟨r,h1,h2⟩:=Es (N:=N) (p:=p) g.up (by have:=g.AZ;omega) (by omega) (φ:=hQ N) (fun x=>by unfold hQ;rw [x5,aB,k8,aB])
 unfold dZ
 have e:fC N a.bL p (hQ N)=IA N a.bL p (hQ N):=rfl
 rw [e,h1,aB];exact h2
end
section
variable {N:Nat}
end
end Go.Gk
namespace Go.Gk
open Go Classical
theorem A0.uniq {n m:Nat} {tch:List (List Int)} {r1 r2:Nat->Nat} (h1:A0 n m tch r1) (h2:A0 n m tch r2) {i j:Nat} (hi:i<n+m) (hj:j<n+m):r1 i=r1 j↔r2 i=r2 j:=by
 have key: ∀{r1 r2:Nat->Nat},A0 n m tch r1->A0 n m tch r2->r1 i=r1 j->r2 i=r2 j:=fun{r1 r2} h1 h2 e=>
  (h1.fi (fun x=>r2 i=r2 x) (fun a b hab=>by rw [h2.co a b hab]) i j hi hj e) rfl
 exact⟨key h1 h2,key h2 h1⟩
section
variable {N:Nat} {a:fz} {k9:List (List aA)} {fP:List (List (List aA))} {r:Nat->Nat} {gs:List cU} {ofP ofB pg:List Int} {oW:List fJ}
theorem LX (x y:Int) (u:List Int):ko N x y [] u=dQ N u x y:=by
 show (((dQ N u x y).bind fun x38=>some x38).bind fun s36=>some s36)=_
 cases dQ N u x y <;> rfl
theorem Fy {bs:List cD} {pcs:List aJ} {l:dD} {h:fJ} (hh:qs bs pcs l=some h) (hn:pcs.length+bs.length<=1000000000):
  jd N h ((pcs.length:Nat):Int)=some ((i9 pcs.length h:Nat):Int)/\i9 pcs.length h<pcs.length+bs.length:=by
 obtain⟨k,e,h1,h2⟩:=(Fg hh).num
 unfold jd i9
 cases hB:h.cD with
 | true=>
  have:=(h1 hB).1
  rw [aO,aC rfl,e,bX,wrap_add (by omega)]
  exact⟨rfl,by omega⟩
 | false=>
  have:=h2 hB
  rw [aN,aD oq,e,bX]
  exact⟨rfl,by omega⟩
structure Kh (bs:List cD) (pcs:List aJ) (ls:List dD) (r2:Nat->Nat) (j:Nat) (up:List Int) (fm:List (Int×Int)) (out:List Int):Prop where
 uf:UF (pcs.length+bs.length) up r2
 len:out.length=ls.length
 no: ∀i l,i<j->ls[i]? =some l->qs bs pcs l=none->out[i]? =some (-1)
 yes: ∀i l h,i<j->ls[i]? =some l->qs bs pcs l=some h->kD fm ((r2 (i9 pcs.length h):Nat):Int)=true/\out[i]? =some (eJ fm ((r2 (i9 pcs.length h):Nat):Int) 0)
 low: ∀x,kD fm x=true->∃v:Nat,eJ fm x 0= ((v:Nat):Int)/\v<j
 inj: ∀x y,kD fm x=true->kD fm y=true->eJ fm x 0=eJ fm y 0->x=y
theorem Fz {bs:List cD} {pcs:List aJ} {ls:List dD} (hn:pcs.length+bs.length<=1000000000) (hp:pcs.length<=1073741824) (hbl:bs.length<=1073741824) (hl:ls.length<=1073741824) (hof:pg=ls.map (HA bs pcs r)) (hat:oW=ls.map (fun l=>(qs bs pcs l).getD ⟨false,0⟩)) (hN:4398046511104<=N):
  ∃r2 c up fm,lq N bs ls pcs (nj bs pcs) pg oW []=some c/\A0 pcs.length bs.length (nj bs pcs) r2/\Kh bs pcs ls r2 ls.length up fm c:=by
 suffices h:Ok (lq N bs ls pcs (nj bs pcs) pg oW []) (fun c=>∃r2 up fm,A0 pcs.length bs.length (nj bs pcs) r2/\Kh bs pcs ls r2 ls.length up fm c) by
  obtain⟨c,h1,r2,up,fm,h2,h3⟩:=h
  exact⟨r2,c,up,fm,h1,h2,h3⟩
 unfold lq
 refine Ok.eq (x:=[]) rfl ?_
 rw [wrap_add (by omega)]
 obtain⟨up0,u1,u2⟩:=yt (N:=N) (n:=pcs.length+bs.length) (by omega)
 refine Ok.eq u1 ?_
 simp only [LX]
 refine Ok.bind (BC (n:=pcs.length) (m:=bs.length) (by unfold nj;simp) (Ed (by omega)) (by omega) (by omega) u2 hN) ?_
 rintro up1 ⟨r2,v1,v2⟩
 refine Ok.eq (x:=up1) rfl (Ok.eq (nC 0 (by omega)) ?_)
 have gq:oW.length=ls.length:=by rw [hat,dN]
 refine Ok.bind (Ok.lF (fun j (st:List Int×List (Int×Int)×List Int)=>Kh bs pcs ls r2 j st.1 st.2.1 st.2.2) (by omega) ⟨v1,by simp,fun i l h=>by omega,fun i l h h1=>by omega,fun x hx=>(by cases hx),fun x y hx=>(by cases hx)⟩ ?_) (fun st I=>Ok.ret ⟨r2,st.1,st.2.1,v2,by rw [<-gq];exact I⟩)
 rintro j ⟨up,fm,out⟩ hj I
 rw [gq] at hj
 dsimp only at I ⊢
 have hx:ls[j]? =some ls[j]:=aL hj
 have h1:oW[j]? =some ((qs bs pcs ls[j]).getD ⟨false,0⟩):=by rw [hat,gJ,hx];rfl
 have h2:pg[j]? =some (HA bs pcs r ls[j]):=by rw [hof,gJ,hx];rfl
 have h3:out[j]? =some (out[j]'(by rw [I.len];exact hj)):=aL _
 have hjo:j<out.length:=by rw [I.len];exact hj
 refine Ok.ix h1 ?_
 cases hh:qs bs pcs ls[j] with
 | none=>
  have e1:HA bs pcs r ls[j] = -1:=by unfold HA xc;rw [hh];rfl
  refine Ok.eq (x:=0) rfl (Ok.eq (x:=true) (by rw [dY h2,aB,e1];rfl) ?_)
  refine Ok.ix h3 (Ok.ret ?_)
  dsimp only
  rw [bX]
  refine⟨I.uf,by rw [fU];exact I.len,fun i l hi hil hn=>?_,fun i l h hi hil hs=>?_,fun x hx=>?_,I.inj⟩
  ·by_cases e:i=j
   ·subst e;rw [List.getElem?_set_self hjo]
   ·rw [List.getElem?_set_ne (Ne.symm e)];exact I.no i l (by omega) hil hn
  ·by_cases e:i=j
   ·subst e;rw [hx] at hil;injection hil with hil;subst hil;rw [hh] at hs;cases hs
   ·rw [List.getElem?_set_ne (Ne.symm e)];exact I.yes i l h (by omega) hil hs
  ·obtain⟨v,q1,q2⟩:=I.low x hx;exact⟨v,q1,by omega⟩
 | some h=>
  obtain⟨c1,c2⟩:=Fy (N:=N) hh hn
  have e1: ∃g:Nat,HA bs pcs r ls[j]= ((g:Nat):Int):=by unfold HA xc;rw [hh];exact⟨_,rfl⟩
  obtain⟨g,e1⟩:=e1
  refine Ok.eq c1 (Ok.eq (x:=false) (by rw [dY h2,aB,e1,bI (show ¬((g:Nat):Int)<0 by omega),aN];rfl) ?_)
  rw [aN]
  obtain⟨up2,t1,t2⟩:=tU (N:=N) I.uf c2 (by omega)
  refine Ok.eq t1 ?_
  dsimp only
  have fin: ∀(up3:List Int) (fm2:List (Int×Int)),UF (pcs.length+bs.length) up3 r2->(∀x,kD fm x=true->kD fm2 x=true/\eJ fm2 x 0=eJ fm x 0)->kD fm2 ((r2 (i9 pcs.length h):Nat):Int)=true->(∀x,kD fm2 x=true->∃v:Nat,eJ fm2 x 0= ((v:Nat):Int)/\v<j+1)->(∀x y,kD fm2 x=true->kD fm2 y=true->eJ fm2 x 0=eJ fm2 y 0->x=y)->
    Kh bs pcs ls r2 (j+1) up3 fm2 (out.set j (eJ fm2 ((r2 (i9 pcs.length h):Nat):Int) 0)):=fun up3 fm2 g1 g2 g3 g4 g5=>by
   refine⟨g1,by rw [fU];exact I.len,fun i l hi hil hn=>?_,fun i l h' hi hil hs=>?_,g4,g5⟩
   ·by_cases e:i=j
    ·subst e;rw [hx] at hil;injection hil with hil;subst hil;rw [hh] at hn;cases hn
    ·rw [List.getElem?_set_ne (Ne.symm e)];exact I.no i l (by omega) hil hn
   ·by_cases e:i=j
    ·subst e;rw [hx] at hil;injection hil with hil;subst hil;rw [hh] at hs;injection hs with hs;subst hs
     exact⟨g3,by rw [List.getElem?_set_self hjo]⟩
    ·obtain⟨q1,q2⟩:=I.yes i l h' (by omega) hil hs
     rw [List.getElem?_set_ne (Ne.symm e),q2,(g2 _ q1).2]
     exact⟨(g2 _ q1).1,rfl⟩
  cases hm:kD fm ((r2 (i9 pcs.length h):Nat):Int) with
  | true=>
   rw [mi,aN]
   obtain⟨up3,t3,t4⟩:=tU (N:=N) t2 c2 (by omega)
   refine Ok.eq (x:=(up2,fm)) rfl (Ok.eq t3 (Ok.ix h3 (Ok.ret ?_)))
   dsimp only
   rw [bX]
   exact fin up3 fm t4 (fun x hx=>⟨hx,rfl⟩) hm (fun x hx=>by obtain⟨v,q1,q2⟩:=I.low x hx;exact⟨v,q1,by omega⟩) I.inj
  | false=>
   rw [ot,aO]
   obtain⟨up3,t3,t4⟩:=tU (N:=N) t2 c2 (by omega)
   obtain⟨up4,t5,t6⟩:=tU (N:=N) t4 c2 (by omega)
   refine Ok.eq (x:=(up3,oO fm ((r2 (i9 pcs.length h):Nat):Int) ((j:Nat):Int))) (by rw [t3,aB]) (Ok.eq t5 (Ok.ix h3 (Ok.ret ?_)))
   dsimp only
   rw [bX]
   refine fin up4 _ t6 (fun x hx=>?_) (by rw [rE];simp) (fun x hx=>?_) (fun x y hx hy e=>?_)
   ·have hne:x≠((r2 (i9 pcs.length h):Nat):Int):=fun e=>by rw [e,hm] at hx;cases hx
    rw [rE,og,aD hne,hx]
    exact⟨by simp,rfl⟩
   ·rw [og]
    by_cases e:x= ((r2 (i9 pcs.length h):Nat):Int)
    ·rw [aC e];exact⟨j,rfl,by omega⟩
    ·rw [aD e]
     rw [rE,bI e,Bool.false_or] at hx
     obtain⟨v,q1,q2⟩:=I.low x hx;exact⟨v,q1,by omega⟩
   ·rw [og,og] at e
    rw [rE] at hx hy
    by_cases ex:x= ((r2 (i9 pcs.length h):Nat):Int)
    ·by_cases ey:y= ((r2 (i9 pcs.length h):Nat):Int)
     ·rw [ex,ey]
     ·rw [aC ex,aD ey] at e
      rw [bI ey,Bool.false_or] at hy
      obtain⟨v,q1,q2⟩:=I.low y hy
      omega
    ·rw [bI ex,Bool.false_or] at hx
     by_cases ey:y= ((r2 (i9 pcs.length h):Nat):Int)
     ·rw [aD ex,aC ey] at e
      obtain⟨v,q1,q2⟩:=I.low x hx
      omega
     ·rw [aD ex,aD ey] at e
      rw [bI ey,Bool.false_or] at hy
      exact I.inj x y hx hy e
theorem Ki (b:ud a k9 fP r gs ofP ofB pg oW) {x y:dD} {h h':fJ} (hx:qs a.aQ (dR 0 fP) x=some h) (hy:qs a.aQ (dR 0 fP) y=some h'): (xc a.aQ (dR 0 fP) r x=xc a.aQ (dR 0 fP) r y)↔r (i9 (dR 0 fP).length h)=r (i9 (dR 0 fP).length h'):=by
 have gp: ∀{z:dD} {h:fJ},qs a.aQ (dR 0 fP) z=some h->(live a.aQ (dR 0 fP).length ((dR 0 fP).length+a.aQ.length) r (bQ ((dR 0 fP).length+a.aQ.length) r))[gi a.aQ (dR 0 fP).length ((dR 0 fP).length+a.aQ.length) r (r (i9 (dR 0 fP).length h))]? =some (r (i9 (dR 0 fP).length h)):=by
  intro z h hz
  obtain⟨k,e,g1,g2⟩:=(Fg hz).num
  have hle:=b.NV.conn.le
  have hrr:=b.NV.conn.rr
  have hd: ∀i,i< (dR 0 fP).length+a.aQ.length->r i∈bQ ((dR 0 fP).length+a.aQ.length) r:=fun i hi=>ka.2 ⟨mf.2 (by have:=hle i hi;omega),by rw [bB];exact hrr i hi⟩
  unfold i9
  cases hB:h.cD with
  | true=>
   obtain⟨k1,k2⟩:=g1 hB
   rw [aC rfl,e,bX]
   exact(Jb (hd _ (by omega)) (K0 k2 (by omega))).2
  | false=>
   have k1:=g2 hB
   rw [aD oq,e,bX]
   exact(Jb (hd _ (by omega)) (KZ k1 (by omega))).2
 unfold xc
 rw [hx,hy]
 constructor
 ·intro e
  simp only [Option.map_some,Option.some.injEq] at e
  have h1:=gp hx
  have h2:=gp hy
  rw [e,h2] at h1
  injection h1 with h1;exact h1.symm
 ·intro e
  simp only [Option.map_some,Option.some.injEq]
  rw [e]
theorem CQ (b:ud a k9 fP r gs ofP ofB pg oW) (h1:gC N a=some (some (a.aI,a.cQ,a.aQ,a.bL,k9,dR 0 fP,nj a.aQ (dR 0 fP),gs,ofP,ofB,pg,oW),0)) {p q:fE} {i k:Nat} {x y:dD} (ep:ld a p= ((i:Nat):Int)) (hx:a.bL[i]? =some x) (eq:ld a q= ((k:Nat):Int)) (hy:a.bL[k]? =some y) (hN:4398046511104<=N):
  iS N a [] p q=some ((xc a.aQ (dR 0 fP) r x).isSome&&decide (xc a.aQ (dR 0 fP) r x=xc a.aQ (dR 0 fP) r y),0):=by
 have hf:=b.AZ.2
 have hbl:=b.NU.gb.len
 have hlf:=b.vn.AZ
 obtain⟨r2,c,up,fm,c1,c2,c3⟩:=Fz (N:=N) (r:=r) (pg:=pg) (oW:=oW) (bs:=a.aQ) (pcs:=dR 0 fP) (ls:=a.bL) (by omega) (by omega) (by omega) (by omega) b.NV.pg b.NV.oW hN
 have hil:=(aW.1 hx).1
 have hkl:=(aW.1 hy).1
 unfold iS
 rw [h1,aB,rP b.vn p hN,rP b.vn q hN]
 simp only [HT,bne_self_eq_false,aN,aB]
 have hz: ∀(p0:List (List aH)) (p1:List aH) (p2:List cD) (p3:List dD) (p4:List (List aA)) (p5:List aJ) (p6:List (List Int)) (p7:List cU) (p8 p9 p10:List Int) (p11:List fJ),mw N p0 p1 p2 p3 p4 p5 p6 p7 p8 p9 p10 p11 []=some 0:=fun _ _ _ _ _ _ _ _ _ _ _ _=>rfl
 rw [hz,aB,bne_self_eq_false,aN,ep,eq,bI (show ¬((i:Nat):Int)<0 by omega),bI (show ¬((k:Nat):Int)<0 by omega),Bool.or_false,aN,c1,aB]
 cases hhx:qs a.aQ (dR 0 fP) x with
 | none=>
  have e1:xc a.aQ (dR 0 fP) r x=none:=by unfold xc;rw [hhx];rfl
  rw [dY (c3.no i x hil hx hhx),aB,e1];rfl
 | some h=>
  obtain⟨q1,q2⟩:=c3.yes i x h hil hx hhx
  obtain⟨v,v1,_⟩:=c3.low _ q1
  have e1: (xc a.aQ (dR 0 fP) r x).isSome=true:=by unfold xc;rw [hhx];rfl
  rw [dY q2,aB,v1,bG (show ((v:Nat):Int)>=0 by omega),aO,aB,e1,Bool.true_and]
  cases hhy:qs a.aQ (dR 0 fP) y with
  | none=>
   have e2:xc a.aQ (dR 0 fP) r y=none:=by unfold xc;rw [hhy];rfl
   rw [dY (c3.no k y hkl hy hhy),aB,aB,bI (fun e=>by rw [e,e2] at e1;cases e1),show ((((v:Nat):Int))== -1)=false from by rw [beq_eq_false_iff_ne];omega]
  | some h'=>
   obtain⟨s1,s2⟩:=c3.yes k y h' hkl hy hhy
   obtain⟨w,w1,_⟩:=c3.low _ s1
   rw [dY s2,aB,w1,aB]
   have t1:=(Fy (N:=N) hhx (by omega)).2
   have t2:=(Fy (N:=N) hhy (by omega)).2
   have key: (((v:Nat):Int)= ((w:Nat):Int))↔xc a.aQ (dR 0 fP) r x=xc a.aQ (dR 0 fP) r y:=by
    rw [Ki b hhx hhy,A0.uniq b.NV.conn c2 t1 t2]
    constructor
    ·intro e
     have:=c3.inj _ _ q1 s1 (by rw [v1,w1];exact e)
     omega
    ·intro e
     rw [e,w1] at v1;exact v1.symm
   congr 2
   rw [eI,beq_iff_eq,bB];exact key
end
def qt:fz:=⟨[[⟨0,0,1,1⟩]],[],[],[⟨⟨[97]⟩,⟨[49]⟩,0,⟨0,0⟩⟩]⟩
def Kj:fE:=⟨⟨[97]⟩,⟨[49]⟩⟩
def sM:aA:=⟨0,1,[0,1]⟩
theorem Kk:pZ [⟨0,0,1,1⟩] [sM] where
 can:=⟨fun b hb=>by
  have e:b=bT sM:=by simpa using hb
  subst e
  exact⟨by decide,by decide,by unfold iV;decide,by decide⟩,List.pairwise_singleton _ _⟩
 cover:=fun x y=>by
  show nK (if (0:Int)<=y/\y<1 then [0,1] else []) x= ((decide ((0:Int)<=x)&&decide (x<1))&&(decide ((0:Int)<=y)&&decide (y<1))||false)
  by_cases h: (0:Int)<=y/\y<1
  ·rw [aC h,bG h.1,bG h.2]
   unfold nK
   rw [mR,mR,Cv]
   by_cases h0: (0:Int)<=x
   ·by_cases h1: (1:Int)<=x
    ·rw [aC h0,aC h1,bI (show ¬x<1 by omega)];simp
    ·rw [aC h0,aD h1,bG h0,bG (show x<1 by omega)];rfl
   ·rw [aD h0,aD (show ¬(1:Int)<=x by omega),bI h0];rfl
  ·rw [aD h]
   have: (decide ((0:Int)<=y)&&decide (y<1))=false:=by
    rw [Bool.eq_false_iff];intro h';rw [bR,bB,bB] at h';exact h h'
   rw [this,Bool.and_false];rfl
 lim:=fun b hb=>by
  have e:b=bT sM:=by simpa using hb
  subst e
  exact⟨by decide,by decide,by decide⟩
theorem Ph:pZ [] []:=⟨eA.nil,fun _ _=>rfl,fun b hb=>by cases hb⟩
theorem Pj:gU [⟨0,0,1,1⟩]=0:=qI.2 ⟨by decide,fun k a b h1 h2=>(by cases k <;> simp at h2),⟨_,Kk,rfl⟩⟩
theorem Pk:gU []=0:=qI.2 ⟨by decide,fun k a b h1 h2=>(by simp at h2),⟨_,Ph,rfl⟩⟩
theorem LY:rK qt:=⟨by decide,by decide,by decide,by decide,by decide,by
 intro x hx
 have e:x= ⟨⟨[97]⟩,⟨[49]⟩,0,⟨0,0⟩⟩:=by simpa [qt] using hx
 subst e;decide⟩
theorem LZ:iX qt=0:=by
 have e1:qt.aI.findSome? rJ=none:=by
  show [[(⟨0,0,1,1⟩:aH)]].findSome? rJ=none
  have:rJ [⟨0,0,1,1⟩]=none:=by unfold rJ;rw [Pj];simp
  simp [this]
 have e2:gR qt=0:=by decide
 have e3:kB qt=0:=by
  unfold kB
  have:px qt.bL.length (iM qt)=none:=jJ.2 fun k hk=>by
   have hk:k<1:=hk
   obtain rfl:k=0:=by omega
   unfold iM
   have hx0:qt.bL[0]? =some ⟨⟨[97]⟩,⟨[49]⟩,0,⟨0,0⟩⟩:=rfl
   rw [hx0,Option.bind_some,aC (by decide),aC (by decide),aD (by rintro⟨h,_⟩;omega)]
  rw [this,aD (by decide)];rfl
 have e4: ¬ph qt:=by
  rintro⟨i,k,x,y,_,h,_⟩
  simp [qt] at h
 unfold iX
 rw [aD (by decide),aD (by decide)]
 unfold Hf
 rw [e1]
 show (if gU []≠0 then gU [] else A3 qt)=0
 rw [Pk,aD (by simp)]
 unfold A3
 rw [aD (by decide),e2,aD (by simp),e3,aD (by simp),aD e4]
theorem NZ {k9:List (List aA)} {fP:List (List (List aA))} (D:t8 qt.aI qt.aQ qt.aI.length k9 fP):k9= [[sM]]/\fP= [[[sM]]]:=by
 obtain⟨s,rfl⟩:=List.length_eq_one_iff.1 D.len
 obtain⟨ps,rfl⟩:=List.length_eq_one_iff.1 D.AY
 have hd:=D.dr 0 [⟨0,0,1,1⟩] s (by decide) rfl rfl
 have hs:s= [sM]:=D7 hd.can Kk.can fun x y=>by
  rw [hd.cover,Kk.cover]
  show (_&& !te [] x y)=_
  simp [te]
 subst hs
 obtain⟨u,hu⟩:=D.pt 0 [sM] ps (by decide) rfl rfl
 have u0:u 0=0:=Nat.le_zero.1 (hu.join.le 0 (by decide))
 have hh:bQ (aP [sM]).length u= [0]:=by
  show (List.range 1).filter (fun k=>decide (u k=k))= [0]
  simp [List.range_succ,u0]
 obtain⟨p,rfl⟩:=List.length_eq_one_iff.1 (show ps.length=1 by rw [hu.len,hh];rfl)
 have hp:=hu.each 0 0 p (by rw [hh];rfl) rfl
 have hc:mH (aP [sM]) (aP [sM]).length u 0= [⟨0,0,1,1⟩]:=by
  show ((List.range 1).filter (fun i=>decide (u i=0))).filterMap (fun i=>(aP [sM])[i]?)=_
  simp [List.range_succ,u0];rfl
 rw [hc] at hp
 exact⟨rfl,by rw [hp.unique Kk]⟩
section
variable {N:Nat}
theorem Kl (hN:4398046511104<=N):fG N=some true:=by
 have key:iS N qt [] Kj Kj=some (true,0):=by
  obtain⟨x,hx,hI⟩:=x8 (N:=N) LY hN
  rcases hI with ⟨he,_⟩ | ⟨_,hg,hcl,k9,fP,D,⟨hf,_⟩ | ⟨hf,r,gs,ofP,ofB,pg,oW,hC,rfl⟩⟩
  ·exact absurd LZ he
  ·obtain⟨rfl,rfl⟩:=NZ D
   exact absurd ⟨by decide,by decide⟩ hf
  ·have b:ud qt k9 fP r gs ofP ofB pg oW:=⟨hg,hcl,D,hf,hC⟩
   have e:ld qt Kj= ((0:Nat):Int):=by
    rcases yC qt Kj with ⟨_,h⟩ | ⟨k,x,h,hk,_⟩
    ·exact absurd rfl (h ⟨⟨[97]⟩,⟨[49]⟩,0,⟨0,0⟩⟩ (by simp [qt]))
    ·have:k<1:=(aW.1 hk).1
     rw [h];omega
   have hl:qt.bL[0]? =some ⟨⟨[97]⟩,⟨[49]⟩,0,⟨0,0⟩⟩:=rfl
   rw [CQ b hx e hl e hl hN]
   obtain⟨rfl,rfl⟩:=NZ D
   have hh:qs qt.aQ (dR 0 [[[sM]]]) ⟨⟨[97]⟩,⟨[49]⟩,0,⟨0,0⟩⟩=some ⟨false,0⟩:=by decide
   unfold xc
   rw [hh];simp
 unfold fG
 have e:iS N (⟨([([(⟨0,0,1,1⟩:aH)]: (List aH))]: (List (List aH))),([]: (List aH)),([]: (List cD)),([(⟨⟨[97]⟩,⟨[49]⟩,0,⟨0,0⟩⟩:dD)]: (List dD))⟩:fz) ([]: (List lK)) (⟨⟨[97]⟩,⟨[49]⟩⟩:fE) (⟨⟨[97]⟩,⟨[49]⟩⟩:fE)=some (true,0):=key
 rw [e,aB];rfl
end
end Go.Gk
namespace Go.Gk
open Go Classical
def N0 (n:Nat) (fl:List lK) (v:Nat):Prop:=∃x∈fl,x.Open=true/\i9 n x.fJ=v
structure PR (bs:List cD) (n m:Nat) (fl:List lK):Prop where
 op: ∀x∈fl,x.Open=true->KY bs n m x.fJ
 br: ∀x∈fl,x.Open=false->∃i k:Nat,x.A= ((i:Nat):Int)/\x.B= ((k:Nat):Int)/\i<k/\k<n
structure Ev (t:Nat) (L:Nat->Nat->Prop) (r:Nat->Nat):Prop where
 le: ∀i,i<t->r i<=i
 rr: ∀i,i<t->r (r i)=r i
 co: ∀i j,L i j->r i=r j
 fi: ∀S:Nat->Prop,(∀i j,L i j->(S i↔S j))->∀i j,i<t->j<t->r i=r j->S i->S j
theorem Ev.uniq {t:Nat} {L:Nat->Nat->Prop} {r1 r2:Nat->Nat} (h1:Ev t L r1) (h2:Ev t L r2) {i j:Nat} (hi:i<t) (hj:j<t):r1 i=r1 j↔r2 i=r2 j:=by
 have key: ∀{r1 r2:Nat->Nat},Ev t L r1->Ev t L r2->r1 i=r1 j->r2 i=r2 j:=fun{r1 r2} h1 h2 e=>
  (h1.fi (fun x=>r2 i=r2 x) (fun a b hab=>by rw [h2.co a b hab]) i j hi hj e) rfl
 exact⟨key h1 h2,key h2 h1⟩
noncomputable def xm (bs:List cD) (pcs:List aJ) (fl:List lK) (l:dD):Option Nat:=(qs bs pcs l).bind fun h=>if N0 pcs.length fl (i9 pcs.length h) then none else some (i9 pcs.length h)
section
variable {N:Nat} {r:Nat->Nat} {pg:List Int} {oW:List fJ}
def Pl (t:Nat) (L:Nat->Nat->Prop) (op:Nat->Prop) (done:Nat->Nat->Prop) (u:List Int):Prop:=
 ∃r E,UF t u r/\oV r E/\yN t r E/\(∀p∈E,L p.1 p.2/\¬op p.1/\¬op p.2)/\∀i j,done i j->¬op i->¬op j->(i,j)∈E
theorem Pl.mono {t:Nat} {L:Nat->Nat->Prop} {op:Nat->Prop} {d d':Nat->Nat->Prop} {u:List Int} (h:Pl t L op d u) (hd: ∀i j,d' i j->d i j):Pl t L op d' u:=by
 obtain⟨r,E,h1,h2,h3,h4,h5⟩:=h
 exact⟨r,E,h1,h2,h3,h4,fun i j hij=>h5 i j (hd i j hij)⟩
structure Km (bs:List cD) (pcs:List aJ) (fl:List lK) (ls:List dD) (r2:Nat->Nat) (j:Nat) (up:List Int) (fm:List (Int×Int)) (out:List Int):Prop where
 uf:UF (pcs.length+bs.length) up r2
 len:out.length=ls.length
 no: ∀i l,i<j->ls[i]? =some l->xm bs pcs fl l=none->out[i]? =some (-1)
 yes: ∀i l v,i<j->ls[i]? =some l->xm bs pcs fl l=some v->kD fm ((r2 v:Nat):Int)=true/\out[i]? =some (eJ fm ((r2 v:Nat):Int) 0)
 low: ∀x,kD fm x=true->∃(v:Nat) (l:dD) (u:Nat),eJ fm x 0= ((v:Nat):Int)/\v<j/\ls[v]? =some l/\xm bs pcs fl l=some u/\((r2 u:Nat):Int)=x
 inj: ∀x y,kD fm x=true->kD fm y=true->eJ fm x 0=eJ fm y 0->x=y
 le: ∀(i v:Nat),out[i]? =some ((v:Nat):Int)->v<=i
end
end Go.Gk
namespace Go.Gk
open Go Classical
structure L0 (c:List Int):Prop where
 neg: ∀(i:Nat) (x:Int),c[i]? =some x->x<0->x = -1
 own: ∀(i v:Nat),c[i]? =some ((v:Nat):Int)->c[v]? =some ((v:Nat):Int)
def K3 (c:List Int) (i k:Nat):Bool:=decide (c.getD i (-1)>=0)&&c.getD i (-1)==c.getD k (-1)
section
variable {r:Nat->Nat}
theorem Km.first {bs:List cD} {pcs:List aJ} {fl:List lK} {ls:List dD} {r2:Nat->Nat} {up:List Int} {fm:List (Int×Int)} {c:List Int} (h:Km bs pcs fl ls r2 ls.length up fm c):L0 c where
 neg:=fun i x hx h0=>by
  have hi:=(aW.1 hx).1
  rw [h.len] at hi
  have hl:ls[i]? =some ls[i]:=aL hi
  cases hn:xm bs pcs fl ls[i] with
  | none=>have:=h.no i _ hi hl hn;rw [hx] at this;injection this
  | some u=>
   obtain⟨q1,q2⟩:=h.yes i _ u hi hl hn
   obtain⟨v,_,_,q3,_⟩:=h.low _ q1
   rw [hx,q3] at q2;injection q2 with q2;omega
 own:=fun i v hx=>by
  have hi:=(aW.1 hx).1
  rw [h.len] at hi
  have hl:ls[i]? =some ls[i]:=aL hi
  cases hn:xm bs pcs fl ls[i] with
  | none=>have:=h.no i _ hi hl hn;rw [hx] at this;injection this with this;omega
  | some u=>
   obtain⟨q1,q2⟩:=h.yes i _ u hi hl hn
   obtain⟨v',l',u',q3,q4,q5,q6,q7⟩:=h.low _ q1
   have e:v=v':=by rw [hx,q3] at q2;injection q2 with q2;omega
   subst e
   obtain⟨s1,s2⟩:=h.yes v l' u' q4 q5 q6
   rw [q7,q3] at s2;exact s2
theorem Km.conn {bs:List cD} {pcs:List aJ} {fl:List lK} {ls:List dD} {r2:Nat->Nat} {up:List Int} {fm:List (Int×Int)} {c:List Int} (h:Km bs pcs fl ls r2 ls.length up fm c) {i k:Nat} {x y:dD} (hx:ls[i]? =some x) (hy:ls[k]? =some y):
  K3 c i k=true↔∃u v,xm bs pcs fl x=some u/\xm bs pcs fl y=some v/\r2 u=r2 v:=by
 have hi:=(aW.1 hx).1
 have hk:=(aW.1 hy).1
 unfold K3
 rw [bR,bB,beq_iff_eq,List.getD_eq_getElem?_getD,List.getD_eq_getElem?_getD]
 cases hn:xm bs pcs fl x with
 | none=>
  rw [h.no i x hi hx hn,Option.getD_some]
  exact⟨fun h=>absurd h.1 (by decide),fun⟨u,v,e,_⟩=>(by cases e)⟩
 | some u=>
  obtain⟨q1,q2⟩:=h.yes i x u hi hx hn
  obtain⟨a,_,_,q3,_⟩:=h.low _ q1
  rw [q2,Option.getD_some,q3]
  cases hm:xm bs pcs fl y with
  | none=>
   rw [h.no k y hk hy hm,Option.getD_some]
   exact⟨fun h=>absurd h.2 (by omega),fun⟨u,v,_,e,_⟩=>(by cases e)⟩
  | some v=>
   obtain⟨s1,s2⟩:=h.yes k y v hk hy hm
   obtain⟨b,_,_,s3,_⟩:=h.low _ s1
   rw [s2,Option.getD_some,s3]
   constructor
   ·rintro⟨_,e⟩
    have:=h.inj _ _ q1 s1 (by rw [q3,s3];exact e)
    exact⟨u,v,rfl,rfl,by omega⟩
   ·rintro⟨u',v',e1,e2,e3⟩
    injection e1 with e1;injection e2 with e2
    subst e1;subst e2
    rw [e3,s3] at q3
    exact⟨by omega,q3.symm⟩
end
end Go.Gk
namespace Go.Gk
open Go Classical
section
variable {N:Nat} {a:fz} {k9:List (List aA)} {fP:List (List (List aA))} {r:Nat->Nat} {gs:List cU} {ofP ofB pg:List Int} {oW:List fJ}
end
end Go.Gk
namespace Go.Gk
open Go Classical
section
variable {N:Nat}
end
section
variable {N:Nat} {a:fz} {k9:List (List aA)} {fP:List (List (List aA))} {r:Nat->Nat} {gs:List cU} {ofP ofB pg:List Int} {oW:List fJ}
end
end Go.Gk
namespace Go.Gk
open Go Classical
section
variable {N:Nat} {a:fz} {k9:List (List aA)} {fP:List (List (List aA))} {r:Nat->Nat} {gs:List cU} {ofP ofB pg:List Int} {oW:List fJ}
end
section
variable {N:Nat}
end
end Go.Gk
namespace Go.Gk
open Go Classical
def rQ (t u:Test):Int:=if gk t.A u.A≠0 then gk t.A u.A else gk t.B u.B
def qh (a:fz) (l:List Test) (k:Nat):Option Int:=(l[k]?).bind fun t=>
 if ld a t.A<0\/ld a t.B<0 then some 9 else if gk t.B t.A<=0 then some 8 else if 0<k/\((l[k - 1]?).elim false fun u=>decide (rQ t u<=0))=true then some 8 else none
def oA (a:fz) (l:List Test):Int:=if 2000<l.length then 2 else (px l.length (qh a l)).getD 0
structure Ew (a:fz) (t:Test):Prop where
 la:0<=ld a t.A
 lb:0<=ld a t.B
 lt:wc t.A t.B
theorem Ex {a:fz} {p:fE} (h:0<=ld a p): ∃(k:Nat) (x:dD),ld a p= ((k:Nat):Int)/\a.bL[k]? =some x/\jw x=p/\k<a.bL.length:=by
 rcases yC a p with ⟨e,_⟩ | ⟨k,x,e,hx,hp⟩
 ·rw [e] at h;omega
 ·exact⟨k,x,e,hx,hp,(aW.1 hx).1⟩
theorem CR {a:fz} {l:List Test} (h:oA a l=0):l.length<=2000/\(∀t∈l,Ew a t)/\∀(k:Nat) t u,0<k->l[k]? =some t->l[k - 1]? =some u->0<rQ t u:=by
 unfold oA at h
 split at h
 ·omega
 rename_i hl
 have hn: ∀k,k<l.length->qh a l k=none:=by
  cases hf:px l.length (qh a l) with
  | none=>exact jJ.1 hf
  | some e=>
   rw [hf] at h
   obtain⟨k,hk,he,_⟩:=ku.1 hf
   have h:e=0:=h
   subst h
   unfold qh at he
   rw [aL hk,Option.bind_some] at he
   repeat' split at he
   all_goals (first | (injection he with he;omega) | cases he)
 refine⟨by omega,fun t ht=>?_,fun k t u hk ht hu=>?_⟩
 ·obtain⟨k,hk,rfl⟩:=List.mem_iff_getElem.1 ht
  have:=hn k hk
  unfold qh at this
  rw [aL hk,Option.bind_some] at this
  split at this
  ·cases this
  rename_i h1
  split at this
  ·cases this
  rename_i h2
  exact⟨by omega,by omega,sC.1 (by omega)⟩
 ·have hlt:=(aW.1 ht).1
  have:=hn k hlt
  unfold qh at this
  rw [ht,Option.bind_some] at this
  split at this
  ·cases this
  split at this
  ·cases this
  split at this
  ·cases this
  rename_i h3
  rw [hu] at h3
  simp only [Option.elim_some,bB] at h3
  omega
section
variable {N:Nat}
theorem L1 (u v:Int):pH N [u,v]=some (if u≠0 then u else v):=by
 unfold pH
 rw [wG (l:=[u,v]) (fun x=>if x≠0 then some x else none) (by simp) (fun k x hx=>by
  rw [dY hx,aB]
  by_cases h:x=0
  ·subst h;rfl
  ·rw [show (x != 0)=true by simpa using h,aO,aC h];rfl),aB]
 by_cases h:u=0
 ·subst h
  by_cases h':v=0
  ·subst h';rfl
  ·simp [h',Co,Fo.cs]
 ·simp [h,Co,Fo.cs]
theorem yP (t u:Test):gv N t u=some (rQ t u):=by
 unfold gv rQ
 rw [k8,aB,k8,aB,L1,aB]
theorem Jm {a:fz} {e:Int} (he:e≠0) (h:gC N a=some (none,e)) (l:List Test):kL N a l=some (none,e):=by
 unfold kL
 rw [h,aB]
 simp only [HT,show (e != 0)=true by simpa using he,aO]
end
section
variable {N:Nat} {a:fz} {k9:List (List aA)} {fP:List (List (List aA))} {r:Nat->Nat} {gs:List cU} {ofP ofB pg:List Int} {oW:List fJ}
theorem Kn (b:ud a k9 fP r gs ofP ofB pg oW) (h1:gC N a=some (some (a.aI,a.cQ,a.aQ,a.bL,k9,dR 0 fP,nj a.aQ (dR 0 fP),gs,ofP,ofB,pg,oW),0)) {l:List Test} (hl:l.length<=1048576) (hN:4398046511104<=N):
  (oA a l≠0/\kL N a l=some (none,oA a l))\/(oA a l=0/\kL N a l=some (some (a.aI,a.cQ,a.aQ,a.bL,k9,dR 0 fP,nj a.aQ (dR 0 fP),gs,ofP,ofB,pg,oW),0)):=by
 unfold kL
 rw [h1,aB]
 simp only [HT,bne_self_eq_false,aN]
 by_cases h2:2000<l.length
 ·have e:oA a l=2:=by unfold oA;rw [aC h2]
  rw [bG (show ((l.length:Nat):Int)>2000 by omega),aO,e]
  exact .inl ⟨by decide,rfl⟩
 rw [bI (show ¬((l.length:Nat):Int)>2000 by omega),aN]
 rw [pR (fun k=>(qh a l k).map (fun c=>(none,c))) (by omega) (fun k hk _=>by
  have hx:l[k]? =some l[k]:=aL hk
  have e1: ((dZ N a l[k].A).bind fun x149=>bif (decide (x149<0)) then (some true) else ((dZ N a l[k].B).bind fun x153=>some (decide (x153<0))))=some (decide (ld a l[k].A<0)||decide (ld a l[k].B<0)):=by
   rw [rP b.vn _ hN,rP b.vn _ hN,aB,aB]
   cases decide (ld a l[k].A<0) <;> rfl
  have e2: (bif (decide ((k:Int)>0)) then ((idx l (IntKind.wrap .i64 ((k:Int) - 1))).bind fun x208=>(gv N l[k] x208).bind fun x211=>some (decide (x211<=0))) else (some false))=some (decide (0<k/\((l[k - 1]?).elim false fun u=>decide (rQ l[k] u<=0))=true)):=by
   by_cases h0:0<k
   ·have hp:k - 1<l.length:=by omega
    have hy:l[k - 1]? =some l[k - 1]:=aL hp
    rw [bG (show ((k:Nat):Int)>0 by omega),aO,fN h0 (by omega),dY hy,aB,yP,aB,hy]
    simp only [Option.elim_some,h0,true_and,bB]
   ·rw [bI (show ¬((k:Nat):Int)>0 by omega),aN,bI (fun h=>h0 h.1)]
  rw [dY hx,aB,e1,aB]
  unfold qh
  rw [hx,Option.bind_some]
  by_cases hA:ld a l[k].A<0\/ld a l[k].B<0
  ·rw [aC hA,show (decide (ld a l[k].A<0)||decide (ld a l[k].B<0))=true by rw [cX,bB,bB];exact hA]
   rfl
  rw [aD hA,show (decide (ld a l[k].A<0)||decide (ld a l[k].B<0))=false by rw [Bool.or_eq_false_iff,decide_eq_false_iff_not,decide_eq_false_iff_not];omega,aN,k8,aB]
  by_cases hB:gk l[k].B l[k].A<=0
  ·rw [aC hB,bG hB];rfl
  rw [aD hB,bI hB,aN,e2,aB]
  by_cases hC:0<k/\((l[k - 1]?).elim false fun u=>decide (rQ l[k] u<=0))=true
  ·rw [aC hC,bG hC];rfl
  ·rw [aD hC,bI hC];rfl),aB,<-Iu]
 have hz:oA a l= (px l.length (qh a l)).getD 0:=by unfold oA;rw [aD h2]
 cases hf:px l.length (qh a l) with
 | none=>
  rw [hf] at hz
  exact .inr ⟨hz,rfl⟩
 | some e=>
  rw [hf] at hz
  have hz:oA a l=e:=hz
  refine .inl ⟨?_,by rw [hz];rfl⟩
  obtain⟨k,hk,he,_⟩:=ku.1 hf
  rw [hz]
  unfold qh at he
  rw [aL hk,Option.bind_some] at he
  repeat' split at he
  all_goals (first | (injection he with he;omega) | cases he)
end
section
variable {N:Nat}
end
end Go.Gk
namespace Go.Gk
open Go Classical
section
variable {N:Nat}
end
section
variable {N:Nat} {a:fz} {k9:List (List aA)} {fP:List (List (List aA))} {r:Nat->Nat} {gs:List cU} {ofP ofB pg:List Int} {oW:List fJ}
theorem ly {l:List Test} {o:Option ((List (List aH))×(List aH)×(List cD)×(List dD)×(List (List aA))×(List aJ)×(List (List Int))×(List cU)×(List Int)×(List Int)×(List Int)×(List fJ))} {e:Int} (h:kL N a l=some (o,e)):fA N a l=some e:=by
 unfold fA
 rw [h,aB]
 cases o <;> rfl
end
section
variable {N:Nat}
end
end Go.Gk
namespace Go.Gk
open Go Classical
section
variable (T:Nat->Nat->Bool) (n:Nat)
def sN (i k:Nat) (K:List Nat):Nat:=(List.range k).countP (T i)+K.countP (T i)
def Ko (K:List Nat) (k:Nat):Bool:=(List.range n).any (fun i=>T i k&&decide (sN T i (k+1) K=1))
def K4:Nat->List Nat->List Nat
 | 0,K=>K
 | k+1,K=>K4 k (if Ko T n K k=true then k::K else K)
variable {T n}
theorem vZ (i k:Nat) (K:List Nat):sN T i (k+1) K=sN T i k K+if T i k=true then 1 else 0:=by
 unfold sN
 rw [List.range_succ,List.countP_append,List.countP_singleton];omega
theorem v5 (i k:Nat) (K:List Nat):sN T i k (k::K)=sN T i (k+1) K:=by
 rw [vZ]
 unfold sN
 rw [List.countP_cons];omega
structure Ey (T:Nat->Nat->Bool) (n m k:Nat) (K:List Nat):Prop where
 up:K.Pairwise (· < ·)
 lo: ∀j∈K,k<=j/\j<m
 all: ∀i,i<n->(∃j,j<m/\T i j=true)->0<sN T i k K
 own: ∀j∈K,∃i,i<n/\T i j=true/\sN T i k K=1
theorem Ey.start (T:Nat->Nat->Bool) (n m:Nat):Ey T n m m [] where
 up:=iG
 lo:=fun j h=>by cases h
 all:=fun i _ ⟨j,h1,h2⟩=>by
  unfold sN
  have:0< (List.range m).countP (T i):=List.countP_pos_iff.2 ⟨j,mf.2 h1,h2⟩
  omega
 own:=fun j h=>by cases h
theorem Ey.step {m k:Nat} {K:List Nat} (h:Ey T n m (k+1) K) (hk:k<m):Ey T n m k (if Ko T n K k=true then k::K else K):=by
 by_cases hn:Ko T n K k=true
 ·rw [aC hn]
  refine⟨mg.2 ⟨fun j hj=>by have:=h.lo j hj;omega,h.up⟩,fun j hj=>?_,fun i hi hj=>?_,fun j hj=>?_⟩
  ·rcases cT.1 hj with rfl | hj
   ·exact⟨bJ _,hk⟩
   ·have:=h.lo j hj;omega
  ·rw [v5];exact h.all i hi hj
  ·rcases cT.1 hj with rfl | hj
   ·unfold Ko at hn
    obtain⟨i,hi,h1⟩:=iZ.1 hn
    rw [bR,bB] at h1
    exact⟨i,mf.1 hi,h1.1,by rw [v5];exact h1.2⟩
   ·obtain⟨i,h1,h2,h3⟩:=h.own j hj
    exact⟨i,h1,h2,by rw [v5];exact h3⟩
 ·rw [aD hn]
  have hno: ∀i,i<n->T i k=true->sN T i (k+1) K≠1:=fun i hi ht e=>hn (iZ.2 ⟨i,mf.2 hi,by rw [ht,e];rfl⟩)
  refine⟨h.up,fun j hj=>by have:=h.lo j hj;omega,fun i hi hj=>?_,fun j hj=>?_⟩
  ·have h1:=h.all i hi hj
   have e:=vZ (T:=T) i k K
   by_cases ht:T i k=true
   ·have:=hno i hi ht
    rw [aC ht] at e;omega
   ·rw [aD ht] at e;omega
  ·obtain⟨i,h1,h2,h3⟩:=h.own j hj
   refine⟨i,h1,h2,?_⟩
   have e:=vZ (T:=T) i k K
   have hp:0<K.countP (T i):=List.countP_pos_iff.2 ⟨j,hj,h2⟩
   have:sN T i k K= (List.range k).countP (T i)+K.countP (T i):=rfl
   split at e <;> omega
def Pz (T:Nat->Nat->Bool) (n m:Nat):List Nat:=K4 T n m []
end
end Go.Gk
namespace Go.Gk
open Go Classical
section
variable {N:Nat}
end
section
variable {N:Nat} {a:fz} {k9:List (List aA)} {fP:List (List (List aA))} {r:Nat->Nat} {gs:List cU} {ofP ofB pg:List Int} {oW:List fJ}
end
section
variable {N:Nat}
end
end Go.Gk
namespace Go.Gk
open Go Classical
def N8 (u t:Test):Prop:=wc u.A t.A\/(u.A=t.A/\wc u.B t.B)
theorem N8.trans {s t u:Test} (h1:N8 s t) (h2:N8 t u):N8 s u:=by
 rcases h1 with h1 | ⟨e1,h1⟩
 ·rcases h2 with h2 | ⟨e2,_⟩
  ·exact .inl (h1.trans h2)
  ·exact .inl (e2▸h1)
 ·rcases h2 with h2 | ⟨e2,h2⟩
  ·exact .inl (e1▸h2)
  ·exact .inr ⟨e1.trans e2,h1.trans h2⟩
section
variable {T:Nat->Nat->Bool} {n:Nat} {l:List Test}
end
section
variable {N:Nat}
end
end Go.Gk
namespace Go.Gk
open Go Classical
section
variable {N:Nat} {a:fz} {k9:List (List aA)} {fP:List (List (List aA))} {r:Nat->Nat} {gs:List cU} {ofP ofB pg:List Int} {oW:List fJ}
end
end Go.Gk
namespace Go.Gk
open Go Classical
def Kp (t:Nat) (u:List Int) (r:Nat->Nat):Prop:=u= (List.range t).map (fun i=>((r i:Nat):Int))
theorem Kp.len {t:Nat} {u:List Int} {r:Nat->Nat} (h:Kp t u r):u.length=t:=by rw [h];simp
theorem Kp.at {t:Nat} {u:List Int} {r:Nat->Nat} (h:Kp t u r) {i:Nat} (hi:i<t):u[i]? =some ((r i:Nat):Int):=by rw [h,gJ,List.getElem?_range hi];rfl
structure Ez (t:Nat) (L:Nat->Nat->Prop) (r:Nat->Nat):Prop where
 co: ∀i j,L i j->r i=r j
 fi: ∀S:Nat->Prop,(∀i j,L i j->(S i↔S j))->∀i j,i<t->j<t->r i=r j->S i->S j
theorem Ez.uniq {t:Nat} {L:Nat->Nat->Prop} {r1 r2:Nat->Nat} (h1:Ez t L r1) (h2:Ez t L r2) {i j:Nat} (hi:i<t) (hj:j<t):r1 i=r1 j↔r2 i=r2 j:=by
 have key: ∀{r1 r2:Nat->Nat},Ez t L r1->Ez t L r2->r1 i=r1 j->r2 i=r2 j:=fun{r1 r2} h1 h2 e=>
  (h1.fi (fun x=>r2 i=r2 x) (fun a b hab=>by rw [h2.co a b hab]) i j hi hj e) rfl
 exact⟨key h1 h2,key h2 h1⟩
end Go.Gk
namespace Go.Gk
open Go Classical
section
variable {N:Nat}
end
end Go.Gk
namespace Go.Gk
open Go Classical
def N1 (s:List Bool):dO:=⟨s.map (fun b=>bif b then 121 else 110)⟩
structure PT (M:List (dO×Int)) (G:List (List Bool×List lK)):Prop where
 has: ∀s,kD M (N1 s)= (G.findIdx? (fun g=>decide (g.1=s))).isSome
 get: ∀s i,G.findIdx? (fun g=>decide (g.1=s))=some i->eJ M (N1 s) 0= ((i:Nat):Int)
section
variable {N:Nat}
end
end Go.Gk
namespace Go.Gk
open Go Classical
def Kq (p:bH):Prop:=(-1000000<=p.X/\p.X<=1000000)/\(-1000000<=p.Y/\p.Y<=1000000)
def vd (g:bH×bH):Prop:=Kq g.1/\Kq g.2
def qu:bH:=⟨0,0⟩
theorem Kr:vd (qu,qu):=⟨⟨⟨by decide,by decide⟩,⟨by decide,by decide⟩⟩,⟨⟨by decide,by decide⟩,⟨by decide,by decide⟩⟩⟩
def K5 (a:fz) (p:fE):bH:=(a.bL[(ld a p).toNat]?).elim qu dD.At
def gl (a:fz) (t:Test) (s:Bool):bH×bH:=bif s then (K5 a t.B,K5 a t.A) else (K5 a t.A,K5 a t.B)
def FA (x y:Int):Int:=max (x - y) (y - x)
def vr (f t:bH×bH):Int:=max (max (max (FA f.1.X t.1.X) (FA f.1.Y t.1.Y)) (FA f.2.X t.2.X)) (FA f.2.Y t.2.Y)
def tk (f t:bH×bH) (sp:Int):Int:=(vr f t+sp - 1) / sp
theorem ui {x y:Int} (h1: -1000000<=x/\x<=1000000) (h2: -1000000<=y/\y<=1000000):0<=FA x y/\FA x y<=2000000:=by unfold FA;omega
theorem EA {f t:bH×bH} (hf:vd f) (ht:vd t):0<=vr f t/\vr f t<=2000000:=by
 have h1:=ui hf.1.1 ht.1.1
 have h2:=ui hf.1.2 ht.1.2
 have h3:=ui hf.2.1 ht.2.1
 have h4:=ui hf.2.2 ht.2.2
 unfold vr
 omega
theorem vt {f t:bH×bH} (hf:vd f) (ht:vd t) {sp:Int} (h:1<=sp/\sp<=1000000):0<=tk f t sp/\tk f t sp<=3000000:=by
 have hd:=EA hf ht
 unfold tk
 refine⟨Int.ediv_nonneg (by omega) (by omega),?_⟩
 have: (vr f t+sp - 1) / sp<=vr f t+sp - 1:=Int.ediv_le_self _ (by omega)
 omega
structure Gv (a:fz):Prop where
 AZ:a.bL.length<=1000
 PU: ∀x∈a.bL,Kq x.At
theorem CS {a:fz} (h:Gv a) (p:fE):Kq (K5 a p):=by
 unfold K5
 cases hx:a.bL[(ld a p).toNat]? with
 | none=>exact Kr.1
 | some x=>exact h.PU x (eW hx)
theorem uj {a:fz} (h:Gv a) (t:Test) (s:Bool):vd (gl a t s):=by
 unfold gl
 cases s with
 | true=>exact⟨CS h _,CS h _⟩
 | false=>exact⟨CS h _,CS h _⟩
theorem Jn {a:fz} {p:fE} {k:Nat} {x:dD} (e:ld a p= ((k:Nat):Int)) (hx:a.bL[k]? =some x):K5 a p=x.At:=by unfold K5;rw [e,bX,hx];rfl
def EB (g:bH×bH):aX:=⟨g.1,g.2⟩
theorem Au {a:fz} (h:lx a):Gv a:=⟨h.AZ,fun x hx=>by
 have:=(h.each x hx).at_
 unfold pd kz eT at this
 simp only [bR,bB] at this
 exact⟨⟨by omega,by omega⟩,⟨by omega,by omega⟩⟩⟩
section
variable {N:Nat}
theorem nI {x y:Int} (h1: -1000000<=x/\x<=1000000) (h2: -1000000<=y/\y<=1000000):m9 N x y=some (FA x y):=by
 unfold m9 FA
 rw [iL (n:=x - y) (by omega),iL (n:=y - x) (by omega),oy]
theorem CT {f t:bH×bH} (hf:vd f) (ht:vd t) {sp:Int} (h:1<=sp/\sp<=1000000) (hN:4398046511104<=N):iR N (EB f) (EB t) sp=some (tk f t sp):=by
 have b1:=ui hf.1.1 ht.1.1
 have b2:=ui hf.1.2 ht.1.2
 have b3:=ui hf.2.1 ht.2.1
 have b4:=ui hf.2.2 ht.2.2
 have hd:=EA hf ht
 refine Ok.get ?_
 unfold iR
 refine Ok.bind (Ok.rA (n:=2) (fun st=>st.2) (fun k st=>st.1=if k=0 then 0 else if k=1 then max (FA f.1.X t.1.X) (FA f.1.Y t.1.Y) else vr f t) (Go:=fun st=>st.1=vr f t) (Rt:=fun _=>False) ?_ ?_ (eL _) rfl rfl (by omega)) ?_
 ·rintro k ⟨s,kk⟩ hk e hI
  dsimp only at e hI ⊢
  subst e
  rw [show decide (((k:Nat):Int)<2)=true from bG (by omega),aO]
  refine Ok.eq (yS hk) ?_
  have:k=0\/k=1:=by omega
  rcases this with rfl | rfl
  ·rw [aC rfl] at hI
   subst hI
   refine Ok.eq (nI hf.1.1 ht.1.1) (Ok.eq (nI hf.1.2 ht.1.2) (Ok.nx ⟨bP (n:=0) (by omega),?_⟩))
   dsimp only
   rw [oy,oy]
   show max (max 0 (FA f.1.X t.1.X)) (FA f.1.Y t.1.Y)=max (FA f.1.X t.1.X) (FA f.1.Y t.1.Y)
   rw [Int.max_eq_right b1.1]
  ·rw [aD (by decide),aC rfl] at hI
   subst hI
   refine Ok.eq (nI hf.2.1 ht.2.1) (Ok.eq (nI hf.2.2 ht.2.2) (Ok.nx ⟨bP (n:=1) (by omega),?_⟩))
   dsimp only
   rw [oy,oy];rfl
 ·rintro⟨s,kk⟩ e hI
  dsimp only at e hI ⊢
  subst e
  rw [aD (by decide),aD (by decide)] at hI
  refine Ok.br ?_
  exact hI
 intro o ho
 refine Ok.cs ho ?_ (fun r hr=>hr.elim)
 rintro⟨s,kk⟩ hs
 dsimp only at hs ⊢
 subst hs
 have hz:Mf sp=some ():=by unfold Mf;rw [show (sp==0)=false by rw [beq_eq_false_iff_ne];omega];rfl
 refine Ok.eq hz (Ok.ret ?_)
 rw [iL (n:=vr f t+sp) (by omega),iL (n:=vr f t+sp - 1) (by omega),Int.tdiv_eq_ediv_of_nonneg (by omega)]
 have hb:=vt hf ht h
 unfold tk at hb ⊢
 exact iL (by omega)
theorem CU {a:fz} (g:lx a) {t:Test} (ht:Ew a t) (s:Bool) (hN:4398046511104<=N):gw N a t s=some (EB (gl a t s)):=by
 obtain⟨i,x,e1,hx,_,hi⟩:=Ex ht.la
 obtain⟨j,y,e2,hy,_,hj⟩:=Ex ht.lb
 have hA: ∀p,dZ N a p=some (ld a p):=fun p=>rP g p hN
 unfold gw
 rw [hA,aB,e1,dY hx,aB,hA,aB,e2,dY hy,aB]
 unfold gl EB
 rw [Jn e1 hx,Jn e2 hy]
 cases s <;> rfl
theorem oC {a:fz} {l:List Test} {e sp tc:Int} (h:fA N a l=some e):hU N a l sp tc=some (if e≠0 then e else if (1<=sp/\sp<=1000000)/\(0<=tc/\tc<=1000) then 0 else 1):=by
 unfold hU
 rw [h,aB]
 by_cases he:e=0
 ·subst he
  rw [bne_self_eq_false,aN,aD (by decide)]
  have w1:il N sp 1 1000000=some (decide (sp>=1)&&decide (sp<=1000000)):=rfl
  have w2:il N tc 0 1000=some (decide (tc>=0)&&decide (tc<=1000)):=rfl
  rw [w1,w2,aB]
  by_cases h1:1<=sp/\sp<=1000000
  ·rw [show (decide (sp>=1)&&decide (sp<=1000000))=true by rw [bR,bB,bB];exact h1,mi,aN,aB,aB]
   by_cases h2:0<=tc/\tc<=1000
   ·rw [show (decide (tc>=0)&&decide (tc<=1000))=true by rw [bR,bB,bB];exact h2,aC ⟨h1,h2⟩];rfl
   ·rw [show (decide (tc>=0)&&decide (tc<=1000))=false by rw [Bool.and_eq_false_iff,decide_eq_false_iff_not,decide_eq_false_iff_not];omega,aD (fun h=>h2 h.2)];rfl
  ·rw [show (decide (sp>=1)&&decide (sp<=1000000))=false by rw [Bool.and_eq_false_iff,decide_eq_false_iff_not,decide_eq_false_iff_not];omega,aD (fun h=>h1 h.1)];rfl
 ·rw [show (e != 0)=true by simpa using he,aO,aC he]
end
def xn:Test:=⟨⟨⟨[]⟩,⟨[]⟩⟩,⟨⟨[]⟩,⟨[]⟩⟩,false⟩
def runT (a:fz) (l:List Test) (sp tc:Int):List Touch->bH×bH->Int->Option Int
 | [],_,now=>some now
 | x::o,p,now=>if x.qy=now+ (tk p (gl a (l.getD x.Test.toNat xn) x.nW) sp+tc) then runT a l sp tc o (gl a (l.getD x.Test.toNat xn) x.nW) (now+ (tk p (gl a (l.getD x.Test.toNat xn) x.nW) sp+tc)) else none
def Jo (n:Nat) (o:List Touch) (k:Nat):Prop:=∃x,o[k]? =some x/\(¬(0<=x.Test/\x.Test<=((n:Nat):Int) - 1)\/∃j y,j<k/\o[j]? =some y/\y.Test=x.Test)
noncomputable def oM (a:fz) (l:List Test) (sp tc:Int) (o:List Touch):Int×Int:=if o.length≠l.length\/∃k,Jo l.length o k then (0,3) else match runT a l sp tc o (qu,qu) 0 with | some n=>(n,0) | none=>(0,12)
structure Av (n:Nat) (o:List Touch) (k:Nat) (s:List Bool):Prop where
 len:s.length=n
 at_: ∀i,i<n->s[i]? =some (decide (∃j y,j<k/\o[j]? =some y/\y.Test= ((i:Nat):Int)))
theorem Av.start (n:Nat) (o:List Touch):Av n o 0 (List.replicate n false):=⟨by simp,fun i hi=>by rw [List.getElem?_replicate,aC hi,bI (fun⟨j,y,h,_⟩=>by omega)]⟩
theorem Av.set {n:Nat} {o:List Touch} {k:Nat} {s:List Bool} (h:Av n o k s) {x:Touch} (hx:o[k]? =some x) {i:Nat} (hi:x.Test= ((i:Nat):Int)) (hin:i<n):Av n o (k+1) (s.set i true):=by
 refine⟨by rw [fU];exact h.len,fun q hq=>?_⟩
 by_cases e:i=q
 ·subst e
  rw [List.getElem?_set_self (by rw [h.len];exact hin)]
  congr 1
  exact(bG ⟨k,x,by omega,hx,hi⟩).symm
 ·rw [List.getElem?_set_ne e,h.at_ q hq]
  congr 1
  rw [decide_eq_decide]
  constructor
  ·rintro⟨j,y,h1,h2,h3⟩;exact⟨j,y,by omega,h2,h3⟩
  ·rintro⟨j,y,h1,h2,h3⟩
   by_cases ej:j=k
   ·subst ej;rw [hx] at h2;injection h2 with h2;subst h2;rw [hi] at h3;omega
   ·exact⟨j,y,by omega,h2,h3⟩
theorem Hp {a:fz} {l:List Test} {sp tc:Int} {o:List Touch} {k:Nat} {x:Touch} (hx:o[k]? =some x) (p:bH×bH) (now:Int):runT a l sp tc (o.drop k) p now=if x.qy=now+ (tk p (gl a (l.getD x.Test.toNat xn) x.nW) sp+tc) then runT a l sp tc (o.drop (k+1)) (gl a (l.getD x.Test.toNat xn) x.nW) (now+ (tk p (gl a (l.getD x.Test.toNat xn) x.nW) sp+tc)) else none:=by
 obtain⟨hk,rfl⟩:=aW.1 hx
 rw [po hk];rfl
section
variable {N:Nat}
theorem Ks {a:fz} (g:lx a) {l:List Test} {sp tc:Int} (hsp:1<=sp/\sp<=1000000) (htc:0<=tc/\tc<=1000) (h0:fA N a l=some 0) (hl:l.length<=2000) (ht: ∀t∈l,Ew a t) {o:List Touch} (ho:o.length<=1048576) (hN:4398046511104<=N):
  lW N a l o sp tc=some (oM a l sp tc o):=by
 have gT:=Au g
 have hc:=oC (N:=N) (sp:=sp) (tc:=tc) h0
 rw [aD (by decide),aC ⟨hsp,htc⟩] at hc
 refine Ok.get ?_
 unfold lW
 refine Ok.eq hc ?_
 rw [bne_self_eq_false,aN]
 refine Ok.eq (nC false (by omega)) ?_
 have hw: ∀x:Int,il N x 0 (IntKind.wrap .i64 (((l.length:Nat):Int) - 1))=some (decide (0<=x/\x<=((l.length:Nat):Int) - 1)):=fun x=>by
  rw [eE (by omega) (by omega)]
  show some (decide (x>=0)&&decide (x<=((l.length:Nat):Int) - 1))=_
  congr 1
  rw [eI,bR,bB,bB,bB]
 refine Ok.bind (Ok.qX (fun k s=>Av l.length o k s/\∀j,j<k->¬Jo l.length o j) (Go:=fun _=>∀j,¬Jo l.length o j) (Rt:=fun r=>r= (0,3)/\∃k,Jo l.length o k) (by omega) ⟨Av.start _ _,fun j hj=>by omega⟩ (fun k s hk I=>?_) (fun s I=>?_)) ?_
 ·obtain⟨I1,I2⟩:=I
  have hx:o[k]? =some o[k]:=aL hk
  generalize o[k]=x at hx
  refine Ok.ix hx ?_
  by_cases hin:0<=x.Test/\x.Test<=((l.length:Nat):Int) - 1
  ·obtain⟨i,hi⟩: ∃i:Nat,x.Test= ((i:Nat):Int):=⟨x.Test.toNat,by omega⟩
   have hil:i<l.length:=by omega
   have hsx:=I1.at_ i hil
   refine Ok.eq (x:=decide (∃j y,j<k/\o[j]? =some y/\y.Test= ((i:Nat):Int))) (by rw [hw,aB,bG hin,mi,aN,hi,dY hsx,aB]) (Ok.bif (fun hb=>Ok.rt ⟨rfl,k,x,hx, .inr ?_⟩) (fun hb=>?_))
   ·obtain⟨j,y,h1,h2,h3⟩:=of_decide_eq_true hb
    exact⟨j,y,h1,h2,by rw [h3,hi]⟩
   ·have hb:=of_decide_eq_false hb
    rw [hi]
    refine Ok.ix hsx (Ok.nx ⟨?_,fun j hj=>?_⟩)
    ·rw [bX];exact I1.set hx hi hil
    ·by_cases e:j=k
     ·subst e
      rintro⟨x',hx',h⟩
      rw [hx] at hx';injection hx' with hx';subst hx'
      rcases h with h | ⟨j',y,h1,h2,h3⟩
      ·exact h hin
      ·exact hb ⟨j',y,h1,h2,by rw [h3,hi]⟩
     ·exact I2 j (by omega)
  ·refine Ok.eq (x:=true) (by rw [hw,aB,bI hin];rfl) ?_
   rw [aO]
   exact Ok.rt ⟨rfl,k,x,hx, .inl hin⟩
 ·intro j hj
  by_cases hjo:j<o.length
  ·exact I.2 j hjo hj
  ·obtain⟨x,hx,_⟩:=hj
   exact hjo (aW.1 hx).1
 intro out hout
 refine Ok.cs hout (fun s hnb=>?_) (fun r hr=>Ok.ret ?_)
 rotate_left
 ·unfold oM;rw [aC (.inr hr.2),hr.1]
 by_cases hlen:o.length=l.length
 rotate_left
 ·rw [show (((o.length:Nat):Int) != ((l.length:Nat):Int))=true by rw [bne_iff_ne];omega,aO]
  refine Ok.ret ?_
  unfold oM;rw [aC (.inl hlen)]
 rw [show (((o.length:Nat):Int) != ((l.length:Nat):Int))=false by rw [hlen,bne_self_eq_false],aN]
 have hV:oM a l sp tc o=match runT a l sp tc o (qu,qu) 0 with | some n=>(n,0) | none=>(0,12):=by
  unfold oM;rw [aD (fun h=>h.elim (fun h=>h hlen) (fun⟨k,h⟩=>hnb k h))]
 rw [hV]
 have hgood: ∀(k:Nat) x,o[k]? =some x->∃i:Nat,x.Test= ((i:Nat):Int)/\i<l.length:=fun k x hx=>by
  have:0<=x.Test/\x.Test<=((l.length:Nat):Int) - 1:=Classical.byContradiction fun h=>hnb k ⟨x,hx, .inl h⟩
  exact⟨x.Test.toNat,by omega,by omega⟩
 refine Ok.bind (Ok.qX (fun k s=>∃p:bH×bH,s.1=EB p/\vd p/\(0<=s.2/\s.2<=3001000* ((k:Nat):Int))/\runT a l sp tc (o.drop k) p s.2=runT a l sp tc o (qu,qu) 0) (Go:=fun s=>runT a l sp tc o (qu,qu) 0=some s.2) (Rt:=fun r=>r= (0,12)/\runT a l sp tc o (qu,qu) 0=none) (by omega) ⟨(qu,qu),rfl,Kr,⟨by decide,by decide⟩,rfl⟩ (fun k s hk I=>?_) (fun s I=>?_)) ?_
 ·obtain⟨q,now⟩:=s
  obtain⟨p,rfl,I2,I3,I4⟩:=I
  dsimp only at I3 I4 ⊢
  have hx:o[k]? =some o[k]:=aL hk
  generalize o[k]=x at hx
  obtain⟨i,hi,hil⟩:=hgood k x hx
  have hlx:l[i]? =some l[i]:=aL hil
  have htx:=ht _ (cO hil)
  have hgd:l.getD x.Test.toNat xn=l[i]:=by rw [hi,bX,List.getD_eq_getElem?_getD,hlx];rfl
  have hst:=Hp (a:=a) (l:=l) (sp:=sp) (tc:=tc) hx p now
  rw [hgd] at hst
  have hgk:=uj gT l[i] x.nW
  have htb:=vt I2 hgk hsp
  refine Ok.ix hx ?_
  rw [hi]
  refine Ok.ix hlx (Ok.eq (CU g htx x.nW hN) (Ok.eq (CT I2 hgk hsp hN) ?_))
  rw [iL (n:=tk p (gl a l[i] x.nW) sp+tc) (by omega),iL (n:=now+ (tk p (gl a l[i] x.nW) sp+tc)) (by omega)]
  refine Ok.bif (fun hb=>Ok.rt ⟨rfl,?_⟩) (fun hb=>Ok.nx ⟨_,rfl,hgk,?_,?_⟩)
  ·rw [<-I4,hst,aD (by simpa using hb)]
  ·dsimp only;omega
  ·dsimp only
   rw [<-I4,hst,aC (by simpa using hb)]
 ·obtain⟨p,I1,I2,I3,I4⟩:=I
  rw [List.drop_eq_nil_of_le (bJ _)] at I4
  rw [<-I4];rfl
 intro out hout
 refine Ok.cs hout (fun s h=>Ok.ret ?_) (fun r hr=>Ok.ret ?_)
 ·rw [h]
 ·rw [hr.2,hr.1]
end
end Go.Gk
namespace Go.Gk
open Go Classical
def qj (a:fz) (sp:Int):List Test->bH×bH->Int
 | [],_=>0
 | t::ts,p=>min (tk p (gl a t false) sp+qj a sp ts (gl a t false)) (tk p (gl a t true) sp+qj a sp ts (gl a t true))
def Hq (a:fz) (sp:Int) (t:Test) (ts:List Test) (p:bH×bH):Bool:=decide (tk p (gl a t true) sp+qj a sp ts (gl a t true)<tk p (gl a t false) sp+qj a sp ts (gl a t false))
def Hr (a:fz) (sp tc:Int):List Test->Nat->bH×bH->Int->List Touch
 | [],_,_,_=>[]
 | t::ts,i,p,now=>⟨((i:Nat):Int),Hq a sp t ts p,now+ (tk p (gl a t (Hq a sp t ts p)) sp+tc)⟩::Hr a sp tc ts (i+1) (gl a t (Hq a sp t ts p)) (now+ (tk p (gl a t (Hq a sp t ts p)) sp+tc))
theorem xo (a:fz) (sp tc:Int) (t:Test) (ts:List Test) (i:Nat) (p:bH×bH) (now:Int):Hr a sp tc (t::ts) i p now= ⟨((i:Nat):Int),Hq a sp t ts p,now+ (tk p (gl a t (Hq a sp t ts p)) sp+tc)⟩::Hr a sp tc ts (i+1) (gl a t (Hq a sp t ts p)) (now+ (tk p (gl a t (Hq a sp t ts p)) sp+tc)):=rfl
theorem Aw {a:fz} (g:Gv a) {sp:Int} (hsp:1<=sp/\sp<=1000000): ∀(ts:List Test) (p:bH×bH),vd p->0<=qj a sp ts p/\qj a sp ts p<=3000000* ((ts.length:Nat):Int)
 | [],p,_=>⟨Int.le_refl _,by simp [qj]⟩
 | t::ts,p,hp=>by
  have h1:=Aw g hsp ts _ (uj g t false)
  have h2:=Aw g hsp ts _ (uj g t true)
  have h3:=vt hp (uj g t false) hsp
  have h4:=vt hp (uj g t true) hsp
  unfold qj
  rw [dK]
  omega
theorem Kt (a:fz) (sp:Int) (t:Test) (ts:List Test) (p:bH×bH):qj a sp (t::ts) p=tk p (gl a t (Hq a sp t ts p)) sp+qj a sp ts (gl a t (Hq a sp t ts p)):=by
 show min _ _=_
 unfold Hq
 by_cases h:tk p (gl a t true) sp+qj a sp ts (gl a t true)<tk p (gl a t false) sp+qj a sp ts (gl a t false)
 ·rw [bG h];omega
 ·rw [bI h];omega
theorem Gw (tc:Int) (n:Nat):tc* ((n+1:Nat):Int)=tc* ((n:Nat):Int)+tc:=by rw [Int.natCast_add,Int.mul_add];simp
theorem CV (a:fz) (sp tc:Int): ∀(ts:List Test) (i:Nat) (p:bH×bH) (now:Int),(Hr a sp tc ts i p now).length=ts.length
 | [],_,_,_=>rfl
 | t::ts,i,p,now=>by unfold Hr;rw [dK,dK,CV a sp tc ts]
theorem Gx {l:List Test} {k:Nat} {t:Test} (hx:l[k]? =some t):l.drop k=t::l.drop (k+1):=by
 obtain⟨hk,rfl⟩:=aW.1 hx
 exact po hk
def yd (a:fz) (l:List Test) (sp:Int) (i:Nat):cE:=match l[i - 1]? with
 | some t=>if i=0 then ⟨0,0⟩ else ⟨qj a sp (l.drop i) (gl a t false),qj a sp (l.drop i) (gl a t true)⟩
 | none=>⟨0,0⟩
def v7 (a:fz) (l:List Test) (sp:Int) (lo i:Nat):cE:=if lo<=i then yd a l sp i else ⟨0,0⟩
theorem yZ {a:fz} {l:List Test} {sp:Int} {k:Nat} {t:Test} (hx:l[k]? =some t):yd a l sp (k+1)= ⟨qj a sp (l.drop (k+1)) (gl a t false),qj a sp (l.drop (k+1)) (gl a t true)⟩:=by
 unfold yd
 rw [yQ,hx]
 dsimp only
 rw [aD (by omega)]
theorem Jp {a:fz} {l:List Test} {sp:Int} (h0:0<l.length):yd a l sp l.length= ⟨0,0⟩:=by
 obtain⟨k,hk⟩: ∃k,l.length=k+1:=⟨l.length - 1,by omega⟩
 have hx:l[k]? =some l[k]:=aL (by omega)
 rw [hk,yZ hx,<-hk,List.drop_eq_nil_of_le (bJ _)];rfl
def tf (n:Nat) (f:Nat->cE):List cE:=(List.range n).map f
theorem xp (n:Nat) (f:Nat->cE): (tf n f).length=n:=by unfold tf;simp
theorem uP {n:Nat} {f:Nat->cE} {i:Nat} (h:i<n): (tf n f)[i]? =some (f i):=by unfold tf;rw [gJ,List.getElem?_range h];rfl
theorem sD {n:Nat} {f g:Nat->cE} (h: ∀i,i<n->f i=g i):tf n f=tf n g:=List.map_congr_left fun i hi=>h i (mf.1 hi)
theorem Jq {n:Nat} {f g:Nat->cE} {i:Nat} {v:cE} (hv:i<n->v=g i) (hg: ∀j,j<n->j≠i->f j=g j): (tf n f).set i v=tf n g:=by
 refine List.ext_getElem? fun j=>?_
 by_cases hj:j<n
 ·rw [uP hj]
  by_cases e:i=j
  ·subst e;rw [List.getElem?_set_self (by rw [xp];exact hj),hv hj]
  ·rw [List.getElem?_set_ne e,uP hj,hg j hj (Ne.symm e)]
 ·rw [List.getElem?_eq_none (by rw [fU,xp];omega),List.getElem?_eq_none (by rw [xp];omega)]
theorem Hs (n:Nat):List.replicate n (⟨0,0⟩:cE)=tf n (fun _=>⟨0,0⟩):=by
 refine List.ext_getElem? fun j=>?_
 by_cases hj:j<n
 ·rw [uP hj,List.getElem?_replicate,aC hj]
 ·rw [List.getElem?_eq_none (by simp;omega),List.getElem?_eq_none (by rw [xp];omega)]
section
variable {N:Nat}
theorem Jr {a:fz} (g:lx a) {l:List Test} {sp tc:Int} (hsp:1<=sp/\sp<=1000000) (htc:0<=tc/\tc<=1000) (h0:fA N a l=some 0) (hl:l.length<=2000) (ht: ∀t∈l,Ew a t) (hN:4398046511104<=N):
  lU N a l sp tc=some (Hr a sp tc l 0 (qu,qu) 0,0):=by
 have gT:=Au g
 have hc:=oC (N:=N) (sp:=sp) (tc:=tc) h0
 rw [aD (by decide),aC ⟨hsp,htc⟩] at hc
 have hgo: ∀{k:Nat} {t:Test},l[k]? =some t->∀s,gw N a t s=some (EB (gl a t s)):=fun hx s=>CU g (ht _ (eW hx)) s hN
 have hto: ∀{p q:bH×bH},vd p->vd q->iR N (EB p) (EB q) sp=some (tk p q sp):=fun hp hq=>CT hp hq hsp hN
 refine Ok.get ?_
 unfold lU
 refine Ok.eq hc ?_
 rw [bne_self_eq_false,aN,bP (by omega)]
 refine Ok.eq (nC _ (by omega)) ?_
 rw [Hs]
 refine Ok.bind (Ok.jB (fun st=>∃c:Int,st.2=c/\((l.length=0/\c = -1/\st.1=tf 1 (fun _=>⟨0,0⟩))\/(0<l.length/\∃k:Nat,k<l.length/\c= ((k:Nat):Int)/\st.1=tf (l.length+1) (v7 a l sp (k+1))))) (fun st=>(st.2+1).toNat)
  (Go:=fun st=>st.1=tf (l.length+1) (v7 a l sp 1)) (Rt:=fun _=>False) ?_ ?_ ?_) ?_
 ·rintro⟨T,c⟩ ⟨_,rfl,⟨h1,h2,h3⟩ | ⟨h1,k,h2,h3,h4⟩⟩
  ·dsimp only at h2 h3 ⊢
   subst h2;subst h3
   rw [bI (by decide),aN]
   refine Ok.br ?_
   dsimp only
   rw [h1]
   exact sD fun i hi=>by unfold v7;rw [aD (by omega)]
  ·dsimp only at h3 h4 ⊢
   subst h3;subst h4
   by_cases hk0:0<k
   rotate_left
   ·have:k=0:=by omega
    subst this
    rw [bI (by decide),aN]
    exact Ok.br rfl
   ·rw [bG (by omega),aO]
    obtain⟨i,hi⟩: ∃i,k=i+1:=⟨k - 1,by omega⟩
    have hx:l[i]? =some l[i]:=aL (by omega)
    have hy:l[k]? =some l[k]:=aL h2
    have hgx:=fun s=>uj gT l[i] s
    have hgy:=fun s=>uj gT l[k] s
    have hdk:l.drop k=l[k]::l.drop (k+1):=Gx hy
    have hb:=fun s=>Aw gT hsp (l.drop (k+1)) _ (hgy s)
    have hdl: (l.drop (k+1)).length<=2000:=by rw [ga];omega
    have hval: ∀s,qj a sp (l.drop k) (gl a l[i] s)=min (tk (gl a l[i] s) (gl a l[k] false) sp+qj a sp (l.drop (k+1)) (gl a l[k] false)) (tk (gl a l[i] s) (gl a l[k] true) sp+qj a sp (l.drop (k+1)) (gl a l[k] true)):=fun s=>by rw [hdk];rfl
    have hEk:yd a l sp k= ⟨qj a sp (l.drop k) (gl a l[i] false),qj a sp (l.drop k) (gl a l[i] true)⟩:=by
     conv=>lhs;rw [hi]
     rw [yZ hx,<-hi]
    rw [show ([false,true]:List Bool).length=2 from rfl]
    refine Ok.bind (Ok.lF (fun j T=>T=tf (l.length+1) (fun q=>if q=k then (if j=0 then ⟨0,0⟩ else if j=1 then ⟨qj a sp (l.drop k) (gl a l[i] false),0⟩ else yd a l sp k) else v7 a l sp (k+1) q)) (by omega) (sD fun q hq=>?_) (fun j T hj I=>?_)) (fun T I=>Ok.nx ⟨⟨_,rfl, .inr ⟨h1,i,by omega,?_,?_⟩⟩,?_⟩)
    ·by_cases e:q=k
     ·subst e;rw [aC rfl,aC rfl];unfold v7;rw [aD (by omega)]
     ·rw [aD e]
    ·subst I
     have hk1:k+1<l.length+1:=by omega
     have hT1: (tf (l.length+1) (fun q=>if q=k then (if j=0 then ⟨0,0⟩ else if j=1 then ⟨qj a sp (l.drop k) (gl a l[i] false),0⟩ else yd a l sp k) else v7 a l sp (k+1) q))[k+1]? =some (⟨qj a sp (l.drop (k+1)) (gl a l[k] false),qj a sp (l.drop (k+1)) (gl a l[k] true)⟩:cE):=by
      rw [uP hk1,aD (by omega)]
      unfold v7
      rw [aC (bJ _),yZ hy]
     have hT0: (tf (l.length+1) (fun q=>if q=k then (if j=0 then ⟨0,0⟩ else if j=1 then ⟨qj a sp (l.drop k) (gl a l[i] false),0⟩ else yd a l sp k) else v7 a l sp (k+1) q))[k]? =some (if j=0 then ⟨0,0⟩ else if j=1 then ⟨qj a sp (l.drop k) (gl a l[i] false),0⟩ else yd a l sp k):=by
      rw [uP (by omega),aC rfl]
     have hwp:IntKind.wrap .i64 (((k:Nat):Int) - 1)= ((i:Nat):Int):=by rw [fN hk0 (by omega)];congr 1;omega
     have hst: ∀s:Bool,[false,true][j]? =some s->∀T',T'=tf (l.length+1) (fun q=>if q=k then (if j=0 then ⟨0,0⟩ else if j=1 then ⟨qj a sp (l.drop k) (gl a l[i] false),0⟩ else yd a l sp k) else v7 a l sp (k+1) q)->
       T'.set k ((if j=0 then (⟨0,0⟩:cE) else if j=1 then ⟨qj a sp (l.drop k) (gl a l[i] false),0⟩ else yd a l sp k).st ⟨j,hj⟩ (qj a sp (l.drop k) (gl a l[i] s)))=tf (l.length+1) (fun q=>if q=k then (if j+1=0 then ⟨0,0⟩ else if j+1=1 then ⟨qj a sp (l.drop k) (gl a l[i] false),0⟩ else yd a l sp k) else v7 a l sp (k+1) q):=fun s hs T' hT'=>by
      subst hT'
      refine Jq (fun _=>?_) (fun q _ hne=>by rw [aD hne,aD hne])
      rw [aC rfl]
      have hj2:j=0\/j=1:=by omega
      rcases hj2 with rfl | rfl
      ·have:s=false:=by simpa using hs.symm
       subst this
       rfl
      ·have:s=true:=by simpa using hs.symm
       subst this
       show (⟨qj a sp (l.drop k) (gl a l[i] false),0⟩:cE).st ⟨1,hj⟩ _=yd a l sp k
       rw [hEk]
       rfl
     have hsx: ([false,true]:List Bool)[j]? =some (([false,true]:List Bool)[j]'hj):=aL _
     generalize ([false,true]:List Bool)[j]'hj=s at hsx
     have t1:=vt (hgx s) (hgy false) hsp
     have t2:=vt (hgx s) (hgy true) hsp
     have b1:=hb false
     have b2:=hb true
     refine Ok.ix hsx ?_
     rw [hwp,bP (by omega)]
     refine Ok.ix hx (Ok.eq (hgo hx s) (Ok.ix hy (Ok.eq (hgo hy false) (Ok.eq (hto (hgx s) (hgy false)) (Ok.ix hT1 (Ok.ix hy (Ok.eq (hgo hy true) (Ok.eq (hto (hgx s) (hgy true)) (Ok.ix hT1 (Ok.ix hT0 (Ok.eq (yS hj) (Ok.ret ?_))))))))))))
     dsimp only
     rw [iL (n:=tk (gl a l[i] s) (gl a l[k] true) sp+qj a sp (l.drop (k+1)) (gl a l[k] true)) (by omega),iL (n:=tk (gl a l[i] s) (gl a l[k] false) sp+qj a sp (l.drop (k+1)) (gl a l[k] false)) (by omega),uN,bX,<-hval s]
     exact hst s hsx _ rfl
    ·show IntKind.wrap .i64 (((k:Nat):Int) - 1)= ((i:Nat):Int)
     rw [fN hk0 (by omega)];congr 1;omega
    ·dsimp only
     rw [I]
     refine sD fun q hq=>?_
     by_cases e:q=k
     ·subst e;rw [aC rfl,aD (by decide),aD (by decide)];unfold v7;rw [aC (by omega)]
     ·rw [aD e]
      unfold v7
      by_cases h5:k+1<=q
      ·rw [aC h5,aC (by omega)]
      ·rw [aD h5,aD (by omega)]
    ·dsimp only
     rw [fN hk0 (by omega)];omega
 ·refine⟨_,rfl,?_⟩
  by_cases hl0:l.length=0
  ·left
   refine⟨hl0,by dsimp only;rw [hl0];rfl,by dsimp only;rw [hl0]⟩
  ·right
   refine⟨by omega,l.length - 1,by omega,fN (by omega) (by omega),?_⟩
   dsimp only
   refine sD fun q hq=>?_
   unfold v7
   by_cases h5:l.length - 1+1<=q
   ·have:q=l.length:=by omega
    subst this
    rw [aC h5,Jp (by omega)]
   ·rw [aD h5]
 ·dsimp only
  by_cases hl0:l.length=0
  ·rw [hl0];show _<N;rw [show IntKind.wrap .i64 (((0:Nat):Int) - 1) = -1 from rfl];simp;omega
  ·rw [fN (by omega) (by omega)];omega
 intro o ho
 refine Ok.cs ho ?_ (fun r hr=>hr.elim)
 rintro⟨T,c⟩ hT
 dsimp only at hT ⊢
 subst hT
 refine Ok.bind (Ok.lF (fun k st=>∃p:bH×bH,st.2.1=EB p/\vd p/\(0<=st.2.2/\st.2.2<=3001000* ((k:Nat):Int))/\st.1.length=k/\st.1++Hr a sp tc (l.drop k) k p st.2.2=Hr a sp tc l 0 (qu,qu) 0) (by omega) ⟨(qu,qu),rfl,Kr,⟨by decide,by decide⟩,rfl,rfl⟩ (fun k st hk I=>?_)) (fun st I=>?_)
 ·obtain⟨out,q,now⟩:=st
  obtain⟨p,rfl,I2,I3,I5,I4⟩:=I
  dsimp only at I3 I4 I5 ⊢
  have hx:l[k]? =some l[k]:=aL hk
  rw [Gx hx] at I4
  generalize l[k]=t at *
  have hgk:=fun s=>uj gT t s
  have t1:=vt I2 (hgk false) hsp
  have t2:=vt I2 (hgk true) hsp
  have b1:=Aw gT hsp (l.drop (k+1)) _ (hgk false)
  have b2:=Aw gT hsp (l.drop (k+1)) _ (hgk true)
  have hdl: (l.drop (k+1)).length<=2000:=by rw [ga];omega
  have hT1: (tf (l.length+1) (v7 a l sp 1))[k+1]? =some (⟨qj a sp (l.drop (k+1)) (gl a t false),qj a sp (l.drop (k+1)) (gl a t true)⟩:cE):=by
   rw [uP (by omega)]
   unfold v7
   rw [aC (by omega),yZ hx]
  refine Ok.ix hx (Ok.eq (hgo hx false) (Ok.eq (hto I2 (hgk false)) (Ok.eq (hgo hx true) (Ok.eq (hto I2 (hgk true)) ?_))))
  rw [bP (by omega)]
  refine Ok.ix hT1 (Ok.ix hT1 ?_)
  dsimp only
  rw [iL (n:=tk p (gl a t true) sp+qj a sp (l.drop (k+1)) (gl a t true)) (by omega),iL (n:=tk p (gl a t false) sp+qj a sp (l.drop (k+1)) (gl a t false)) (by omega)]
  have eb:decide (tk p (gl a t true) sp+qj a sp (l.drop (k+1)) (gl a t true)<tk p (gl a t false) sp+qj a sp (l.drop (k+1)) (gl a t false))=Hq a sp t (l.drop (k+1)) p:=rfl
  rw [eb]
  generalize hB:Hq a sp t (l.drop (k+1)) p=B at *
  have tB:=vt I2 (hgk B) hsp
  refine Ok.eq (x:=tk p (gl a t B) sp) (by cases B <;> rfl) (Ok.eq (hgo hx B) ?_)
  rw [iL (n:=tk p (gl a t B) sp+tc) (by omega),iL (n:=now+ (tk p (gl a t B) sp+tc)) (by omega)]
  refine Ok.app (by rw [I5];simp only [dK,List.length_nil];omega) (Ok.ret ⟨_,rfl,hgk B,?_,?_,?_⟩)
  ·dsimp only;omega
  ·dsimp only;rw [cR,I5];rfl
  ·dsimp only
   rw [<-I4,jK]
   congr 1
   show _=Hr a sp tc (t::l.drop (k+1)) k p now
   rw [xo,hB];rfl
 ·obtain⟨p,I1,I2,I3,I5,I4⟩:=I
  refine Ok.ret ?_
  rw [List.drop_eq_nil_of_le (bJ _)] at I4
  rw [<-I4]
  show (st.1,0)= (st.1++[],0)
  rw [mT]
end
end Go.Gk
namespace Go.Gk
open Go Classical
def K6 (a:fz) (sp:Int) (t:Test) (p:bH×bH):Int:=min (tk p (gl a t false) sp) (tk p (gl a t true) sp)
def N2 (a:fz) (sp:Int) (t:Test) (p:bH×bH):Bool:=decide (tk p (gl a t true) sp<tk p (gl a t false) sp)
theorem L2 (a:fz) (sp:Int) (t:Test) (p:bH×bH):K6 a sp t p=tk p (gl a t (N2 a sp t p)) sp:=by
 unfold K6 N2
 by_cases h:tk p (gl a t true) sp<tk p (gl a t false) sp
 ·rw [bG h];omega
 ·rw [bI h];omega
noncomputable def Jy (a:fz) (l:List Test) (sp:Int) (dn:List Bool) (p:bH×bH) (st:Int×Bool×Int) (k:Nat):Int×Bool×Int:=match l[k]? with
 | none=>st
 | some t=>if dn[k]? =some true then st else if st.1<0\/K6 a sp t p<st.2.2 then (((k:Nat):Int),N2 a sp t p,K6 a sp t p) else st
noncomputable def pk (a:fz) (l:List Test) (sp:Int) (dn:List Bool) (p:bH×bH):Nat->Int×Bool×Int
 | 0=>(-1,false,0)
 | k+1=>Jy a l sp dn p (pk a l sp dn p k) k
theorem K7 {a:fz} {l:List Test} {sp:Int} {dn:List Bool} {p:bH×bH} (hd:dn.length=l.length): ∀(k:Nat),k<=l.length->
  ((pk a l sp dn p k).1 = -1/\∀i,i<k->dn[i]? =some true)\/∃b t,b<k/\(pk a l sp dn p k).1= ((b:Nat):Int)/\dn[b]? =some false/\l[b]? =some t/\(pk a l sp dn p k).2.2=tk p (gl a t (pk a l sp dn p k).2.1) sp
 | 0,_=> .inl ⟨rfl,fun i h=>absurd h (by omega)⟩
 | k+1,hk=>by
  have IH:=K7 hd (a:=a) (sp:=sp) (p:=p) k (by omega)
  have hx:l[k]? =some l[k]:=aL (by omega)
  have hy:dn[k]? =some dn[k]:=aL (by omega)
  show ((Jy a l sp dn p (pk a l sp dn p k) k).1 = -1/\_)\/∃b t,b<k+1/\(Jy a l sp dn p (pk a l sp dn p k) k).1= ((b:Nat):Int)/\dn[b]? =some false/\l[b]? =some t/\(Jy a l sp dn p (pk a l sp dn p k) k).2.2=tk p (gl a t (Jy a l sp dn p (pk a l sp dn p k) k).2.1) sp
  generalize pk a l sp dn p k=st at IH ⊢
  unfold Jy
  rw [hx]
  dsimp only
  by_cases h1:dn[k]? =some true
  ·rw [aC h1]
   rcases IH with ⟨e,h⟩ | ⟨b,t,h2,h3⟩
   ·refine .inl ⟨e,fun i hi=>?_⟩
    by_cases ei:i=k
    ·subst ei;exact h1
    ·exact h i (by omega)
   ·exact .inr ⟨b,t,by omega,h3⟩
  ·rw [aD h1]
   by_cases h2:st.1<0\/K6 a sp l[k] p<st.2.2
   ·rw [aC h2]
    refine .inr ⟨k,l[k],by omega,rfl,?_,hx,L2 a sp l[k] p⟩
    rw [hy] at h1 ⊢
    congr 1
    cases he:dn[k] with
    | false=>rfl
    | true=>exact absurd (by rw [he]) h1
   ·rw [aD h2]
    rcases IH with ⟨e,h⟩ | ⟨b,t,h2,h3⟩
    ·exact absurd (.inl (by rw [e];decide)) h2
    ·exact .inr ⟨b,t,by omega,h3⟩
theorem CW: ∀(dn:List Bool) (b:Nat),dn[b]? =some false->(dn.set b true).count false+1=dn.count false
 | [],b,h=>by simp at h
 | x::xs,0,h=>by
  rw [List.getElem?_cons_zero] at h
  injection h with h
  subst h
  rw [List.set_cons_zero,List.count_cons_self,List.count_cons_of_ne (by decide)]
 | x::xs,b+1,h=>by
  rw [List.getElem?_cons_succ] at h
  have:=CW xs b h
  rw [List.set_cons_succ,List.count_cons,List.count_cons]
  omega
theorem Js {a:fz} {l:List Test} {sp:Int} {dn:List Bool} {p:bH×bH} (hd:dn.length=l.length) {m:Nat} (hc:dn.count false=m+1): ∃b t,b<l.length/\(pk a l sp dn p l.length).1= ((b:Nat):Int)/\dn[b]? =some false/\l[b]? =some t/\(pk a l sp dn p l.length).2.2=tk p (gl a t (pk a l sp dn p l.length).2.1) sp:=by
 rcases K7 hd (a:=a) (sp:=sp) (p:=p) l.length (bJ _) with ⟨_,h⟩ | h
 ·have hm:false∈dn:=List.count_pos_iff.1 (by omega)
  obtain⟨i,hi⟩:=dV hm
  have hlt:=(aW.1 hi).1
  have:=h i (by omega)
  rw [hi] at this
  exact absurd this (by decide)
 ·exact h
noncomputable def Ht (a:fz) (l:List Test) (sp tc:Int):Nat->List Bool->bH×bH->Int->List Touch
 | 0,_,_,_=>[]
 | m+1,dn,p,now=>⟨(pk a l sp dn p l.length).1,(pk a l sp dn p l.length).2.1,now+ ((pk a l sp dn p l.length).2.2+tc)⟩::Ht a l sp tc m (dn.set (pk a l sp dn p l.length).1.toNat true) (gl a (l.getD (pk a l sp dn p l.length).1.toNat xn) (pk a l sp dn p l.length).2.1) (now+ ((pk a l sp dn p l.length).2.2+tc))
theorem EC {a:fz} {l:List Test} {sp tc:Int} {m:Nat} {dn:List Bool} {p:bH×bH} {now:Int} {b:Nat} {t:Test} {s:Bool} {d:Int} (h1: (pk a l sp dn p l.length).1= ((b:Nat):Int)) (h2: (pk a l sp dn p l.length).2.1=s) (h3: (pk a l sp dn p l.length).2.2=d) (hx:l[b]? =some t):
  Ht a l sp tc (m+1) dn p now= ⟨((b:Nat):Int),s,now+ (d+tc)⟩::Ht a l sp tc m (dn.set b true) (gl a t s) (now+ (d+tc)):=by
 show (⟨(pk a l sp dn p l.length).1,(pk a l sp dn p l.length).2.1,now+ ((pk a l sp dn p l.length).2.2+tc)⟩:Touch)::Ht a l sp tc m (dn.set (pk a l sp dn p l.length).1.toNat true) (gl a (l.getD (pk a l sp dn p l.length).1.toNat xn) (pk a l sp dn p l.length).2.1) (now+ ((pk a l sp dn p l.length).2.2+tc))=_
 rw [h1,h2,h3,bX,show l.getD b xn=t by rw [List.getD_eq_getElem?_getD,hx];rfl]
def HB (s:Bool):Nat:=bif s then 1 else 0
theorem L3 (s:Bool):HB s<2:=by cases s <;> decide
section
variable {N:Nat}
theorem FB {a:fz} (g:lx a) {l:List Test} {sp tc:Int} (hsp:1<=sp/\sp<=1000000) (htc:0<=tc/\tc<=1000) (h0:fA N a l=some 0) (hl:l.length<=2000) (ht: ∀t∈l,Ew a t) (hN:4398046511104<=N):
  mM N a l sp tc=some (Ht a l sp tc l.length (List.replicate l.length false) (qu,qu) 0,0):=by
 have gT:=Au g
 have hc:=oC (N:=N) (sp:=sp) (tc:=tc) h0
 rw [aD (by decide),aC ⟨hsp,htc⟩] at hc
 have hgo: ∀{k:Nat} {t:Test},l[k]? =some t->∀s,gw N a t s=some (EB (gl a t s)):=fun hx s=>CU g (ht _ (eW hx)) s hN
 have hto: ∀{p q:bH×bH},vd p->vd q->iR N (EB p) (EB q) sp=some (tk p q sp):=fun hp hq=>CT hp hq hsp hN
 refine Ok.get ?_
 unfold mM
 refine Ok.eq hc ?_
 rw [bne_self_eq_false,aN]
 refine Ok.eq (nC _ (by omega)) ?_
 refine Ok.bind (Ok.lF (fun k T=>T.length=l.length/\∀j t,j<k->l[j]? =some t->T[j]? =some (⟨EB (gl a t false),EB (gl a t true)⟩:bD)) (by omega) ⟨by simp,fun j t hj=>absurd hj (by omega)⟩ (fun k T hk I=>?_)) ?_
 ·obtain⟨I1,I2⟩:=I
  have hx:l[k]? =some l[k]:=aL hk
  have hTk:T[k]? =some T[k]:=aL (by omega)
  refine Ok.ix hx (Ok.eq (hgo hx false) (Ok.eq (hgo hx true) (Ok.ix hTk (Ok.ret ⟨by rw [fU];exact I1,fun j t hj hy=>?_⟩))))
  rw [bX]
  by_cases e:k=j
  ·subst e
   rw [List.getElem?_set_self (by omega)]
   rw [hx] at hy;injection hy with hy;subst hy;rfl
  ·rw [List.getElem?_set_ne e]
   exact I2 j t (by omega) hy
 rintro T ⟨_,hT⟩
 have hT: ∀j t,l[j]? =some t->T[j]? =some (⟨EB (gl a t false),EB (gl a t true)⟩:bD):=fun j t hj=>hT j t (aW.1 hj).1 hj
 refine Ok.eq (nC _ (by omega)) ?_
 refine Ok.bind (Ok.lF (fun k st=>∃p:bH×bH,st.2.2.1=EB p/\vd p/\(0<=st.2.2.2/\st.2.2.2<=3001000* ((k:Nat):Int))/\st.1.length=l.length/\st.1.count false+k=l.length/\st.2.1.length=k/\st.2.1++Ht a l sp tc (l.length - k) st.1 p st.2.2.2=Ht a l sp tc l.length (List.replicate l.length false) (qu,qu) 0) (by omega) ⟨(qu,qu),rfl,Kr,⟨Int.le_refl _,Int.le_refl _⟩,by simp,by simp,rfl,rfl⟩ (fun k st hk I=>?_)) (fun st I=>?_)
 ·obtain⟨dn,out,q,now⟩:=st
  obtain⟨p,rfl,I2,I3,I4,I5,I6,I7⟩:=I
  dsimp only at I3 I4 I5 I6 I7 ⊢
  refine Ok.bind (Ok.lF (fun j st=>st= ((pk a l sp dn p j).1,((HB (pk a l sp dn p j).2.1:Nat):Int),(pk a l sp dn p j).2.2)) (by omega) rfl (fun j st hj I=>?_)) (fun st I=>?_)
  ·subst I
   have hx:l[j]? =some l[j]:=aL hj
   have hy:dn[j]? =some dn[j]:=aL (by omega)
   have hpk:pk a l sp dn p (j+1)=Jy a l sp dn p (pk a l sp dn p j) j:=rfl
   rw [hpk]
   generalize pk a l sp dn p j=S0
   have hn:Jy a l sp dn p S0 j=if dn[j]=true then S0 else if S0.1<0\/K6 a sp l[j] p<S0.2.2 then (((j:Nat):Int),N2 a sp l[j] p,K6 a sp l[j] p) else S0:=by
    unfold Jy
    rw [hx,hy]
    dsimp only
    by_cases h:dn[j]=true
    ·rw [aC h,aC (by rw [h])]
    ·rw [aD h,aD (fun e=>h (by injection e))]
   generalize Jy a l sp dn p S0 j=S2 at hn
   have hTj:=hT j _ hx
   have hg0:=uj gT l[j] false
   have hg1:=uj gT l[j] true
   generalize l[j]=t at *
   generalize hdj:dn[j]=dj at *
   refine Ok.bind (Ok.rA (n:=2) (fun st=>st.2.2.2) (fun i st=>(st.1,st.2.1,st.2.2.1)=if i=0 then (S0.1,((HB S0.2.1:Nat):Int),S0.2.2) else if i=1 then (if dj=true then (S0.1,((HB S0.2.1:Nat):Int),S0.2.2) else if S0.1<0\/tk p (gl a t false) sp<S0.2.2 then (((j:Nat):Int),0,tk p (gl a t false) sp) else (S0.1,((HB S0.2.1:Nat):Int),S0.2.2)) else (S2.1,((HB S2.2.1:Nat):Int),S2.2.2)) (Go:=fun st=>(st.1,st.2.1,st.2.2.1)= (S2.1,((HB S2.2.1:Nat):Int),S2.2.2)) (Rt:=fun _=>False) ?_ ?_ (eL _) rfl rfl (by omega)) (fun o ho=>Ok.cs ho (fun st h=>Ok.ret h) (fun r hr=>hr.elim))
   ·rintro i ⟨s1,s2,s3,s4⟩ hi e I
    dsimp only at e I ⊢
    subst e
    rw [show decide (((i:Nat):Int)<2)=true from bG (by omega),aO]
    refine Ok.ix hy ?_
    have hi2:i=0\/i=1:=by omega
    cases dj with
    | true=>
     rw [aO]
     rw [aC rfl] at hn
     subst hn
     rcases hi2 with rfl | rfl
     ·refine Ok.nx ⟨bP (n:=0) (by omega),?_⟩
      rw [aC rfl] at I
      rw [aD (by decide),aC rfl,aC rfl];exact I
     ·refine Ok.nx ⟨bP (n:=1) (by omega),?_⟩
      rw [aD (by decide),aC rfl,aC rfl] at I
      rw [aD (by decide),aD (by decide)];exact I
    | false=>
     rw [aN]
     rw [aD (by decide)] at hn
     refine Ok.ix hTj (Ok.eq (yS hi) ?_)
     rcases hi2 with rfl | rfl
     ·rw [aC rfl] at I
      injection I with I1 I
      injection I with I2' I3'
      subst I1;subst I2';subst I3'
      refine Ok.eq (hto I2 hg0) ?_
      by_cases hb:S0.1<0\/tk p (gl a t false) sp<S0.2.2
      ·rw [show (decide (S0.1<0)||decide (tk p (gl a t false) sp<S0.2.2))=true by rw [cX,bB,bB];exact hb,aO,aB]
       refine Ok.nx ⟨bP (n:=0) (by omega),?_⟩
       rw [aD (by decide),aC rfl,aD (by decide),aC hb];rfl
      ·rw [show (decide (S0.1<0)||decide (tk p (gl a t false) sp<S0.2.2))=false by rw [Bool.or_eq_false_iff,decide_eq_false_iff_not,decide_eq_false_iff_not];exact⟨fun h=>hb (.inl h),fun h=>hb (.inr h)⟩,aN,aB]
       refine Ok.nx ⟨bP (n:=0) (by omega),?_⟩
       rw [aD (by decide),aC rfl,aD (by decide),aD hb]
     ·rw [aD (by decide),aC rfl,aD (by decide)] at I
      have key: ∀u:Int×Int×Int,u= (if s1<0\/tk p (gl a t true) sp<s3 then (((j:Nat):Int),1,tk p (gl a t true) sp) else (s1,s2,s3))->u= (S2.1,((HB S2.2.1:Nat):Int),S2.2.2):=fun u hu=>by
       subst hu
       rw [hn]
       unfold K6 N2
       generalize tk p (gl a t false) sp=d0 at *
       generalize tk p (gl a t true) sp=d1 at *
       by_cases hb:S0.1<0\/d0<S0.2.2
       ·rw [aC hb] at I
        injection I with I1 I
        injection I with I2' I3'
        subst I1;subst I2';subst I3'
        rw [aC (show S0.1<0\/min s3 d1<S0.2.2 by omega)]
        by_cases h1:d1<s3
        ·rw [aC (.inr h1),bG h1]
         show _= (((j:Nat):Int),((HB true:Nat):Int),min s3 d1)
         rw [Int.min_eq_right (by omega)];rfl
        ·rw [aD (by omega),bI h1]
         show _= (((j:Nat):Int),((HB false:Nat):Int),min s3 d1)
         rw [Int.min_eq_left (by omega)];rfl
       ·rw [aD hb] at I
        injection I with I1 I
        injection I with I2' I3'
        subst I1;subst I2';subst I3'
        by_cases h1:d1<S0.2.2
        ·rw [aC (.inr h1),aC (show S0.1<0\/min d0 d1<S0.2.2 by omega),bG (show d1<d0 by omega)]
         show _= (((j:Nat):Int),((HB true:Nat):Int),min d0 d1)
         rw [Int.min_eq_right (by omega)];rfl
        ·rw [aD (by omega),aD (show ¬(S0.1<0\/min d0 d1<S0.2.2) by omega)]
      refine Ok.eq (hto I2 hg1) ?_
      by_cases hb:s1<0\/tk p (gl a t true) sp<s3
      ·rw [show (decide (s1<0)||decide (tk p (gl a t true) sp<s3))=true by rw [cX,bB,bB];exact hb,aO,aB]
       refine Ok.nx ⟨bP (n:=1) (by omega),?_⟩
       rw [aD (by decide),aD (by decide)]
       exact key _ (by rw [aC hb];rfl)
      ·rw [show (decide (s1<0)||decide (tk p (gl a t true) sp<s3))=false by rw [Bool.or_eq_false_iff,decide_eq_false_iff_not,decide_eq_false_iff_not];exact⟨fun h=>hb (.inl h),fun h=>hb (.inr h)⟩,aN,aB]
       refine Ok.nx ⟨bP (n:=1) (by omega),?_⟩
       rw [aD (by decide),aD (by decide)]
       exact key _ (by rw [aD hb])
   ·rintro⟨s1,s2,s3,s4⟩ e I
    dsimp only at e I ⊢
    subst e
    rw [show decide (((2:Nat):Int)<2)=false from rfl,aN]
    rw [aD (by decide),aD (by decide)] at I
    exact Ok.br I
  ·subst I
   dsimp only
   obtain⟨b,t,hb,e1,h2,h3,h4⟩:=Js I4 (m:=l.length - k - 1) (a:=a) (sp:=sp) (p:=p) (by omega)
   have hsn:=EC (tc:=tc) (m:=l.length - k - 1) (now:=now) e1 rfl h4 h3
   rw [show l.length - k - 1+1=l.length - k by omega] at hsn
   rw [hsn] at I7
   generalize pk a l sp dn p l.length=R at *
   obtain⟨R1,R2,R3⟩:=R
   dsimp only at e1 h4 I7 ⊢
   subst e1;subst h4
   have hgk:=uj gT t R2
   have t1:=vt I2 hgk hsp
   rw [iL (n:=tk p (gl a t R2) sp+tc) (by omega),iL (n:=now+ (tk p (gl a t R2) sp+tc)) (by omega)]
   refine Ok.ix h2 (Ok.ix (hT b t h3) (Ok.eq (yS (L3 R2)) (Ok.app (by rw [I6];simp only [dK,List.length_nil];omega) (Ok.ret ⟨gl a t R2,?_,hgk,?_,?_,?_,?_,?_⟩))))
   ·cases R2 <;> rfl
   ·dsimp only;omega
   ·dsimp only;rw [fU];exact I4
   ·dsimp only
    rw [bX]
    have:=CW dn b h2
    omega
   ·dsimp only;rw [cR,I6];rfl
   ·dsimp only
    rw [<-I7,jK,bX,show l.length - (k+1)=l.length - k - 1 by omega,show ((((HB R2:Nat):Int))==1)=R2 by cases R2 <;> rfl]
    rfl
 ·obtain⟨p,I1,I2,I3,I4,I5,I6,I7⟩:=I
  refine Ok.ret ?_
  rw [Nat.sub_self] at I7
  rw [<-I7]
  show (st.2.1,0)= (st.2.1++[],0)
  rw [mT]
end
end Go.Gk
namespace Go.Gk
open Go Classical
theorem ye (a:fz) (l:List Test) (sp tc:Int) (x:Touch) (o:List Touch) (p:bH×bH) (now:Int):runT a l sp tc (x::o) p now=if x.qy=now+ (tk p (gl a (l.getD x.Test.toNat xn) x.nW) sp+tc) then runT a l sp tc o (gl a (l.getD x.Test.toNat xn) x.nW) (now+ (tk p (gl a (l.getD x.Test.toNat xn) x.nW) sp+tc)) else none:=rfl
theorem CX {l:List Test} {i:Nat} {t:Test} (h:l[i]? =some t):l.getD (((i:Nat):Int)).toNat xn=t:=by rw [bX,List.getD_eq_getElem?_getD,h];rfl
theorem ED {a:fz} {l:List Test} {sp tc:Int}: ∀(ts:List Test) (i:Nat) (p:bH×bH) (now:Int),(∀j t,ts[j]? =some t->l[i+j]? =some t)->runT a l sp tc (Hr a sp tc ts i p now) p now=some (now+ (qj a sp ts p+tc* ((ts.length:Nat):Int)))
 | [],i,p,now,h=>by
  show some now=some (now+ (0+tc*0))
  rw [Int.mul_zero];simp
 | t::ts,i,p,now,h=>by
  have hg:=CX (by simpa using h 0 t rfl:l[i]? =some t)
  rw [xo,ye]
  dsimp only
  rw [hg,aC rfl,ED ts (i+1) _ _ (fun j t' hj=>by rw [show i+1+j=i+ (j+1) by omega];exact h (j+1) t' (by simpa using hj)),Kt a sp t ts p,dK,Gw]
  congr 1
  omega
theorem Gy {a:fz} {l:List Test} {sp tc:Int}: ∀(ts:List Test) (o:List Touch) (i:Nat) (p:bH×bH) (now v:Int),(∀j t,ts[j]? =some t->l[i+j]? =some t)->o.length=ts.length->(∀j x,o[j]? =some x->x.Test= ((i+j:Nat):Int))->runT a l sp tc o p now=some v->now+ (qj a sp ts p+tc* ((ts.length:Nat):Int))<=v
 | [],[],i,p,now,v,_,_,_,h=>by
  have:now=v:=by injection h
  subst this
  show now+ (0+tc*0)<=now
  rw [Int.mul_zero];omega
 | [],x::o,i,p,now,v,_,h,_,_=>by simp at h
 | t::ts,[],i,p,now,v,_,h,_,_=>by simp at h
 | t::ts,x::o,i,p,now,v,ht,hl,hx,h=>by
  have hg:=CX (by simpa using ht 0 t rfl:l[i]? =some t)
  have hx0:x.Test= ((i:Nat):Int):=by simpa using hx 0 x rfl
  rw [ye,hx0,hg] at h
  split at h
  ·have IH:=Gy ts o (i+1) _ _ v (fun j t' hj=>by rw [show i+1+j=i+ (j+1) by omega];exact ht (j+1) t' (by simpa using hj)) (by simpa using hl) (fun j y hj=>by rw [show i+1+j=i+ (j+1) by omega];exact hx (j+1) y (by simpa using hj)) h
   rw [dK,Gw,show qj a sp (t::ts) p=min (tk p (gl a t false) sp+qj a sp ts (gl a t false)) (tk p (gl a t true) sp+qj a sp ts (gl a t true)) from rfl]
   cases hs:x.nW with
   | true=>rw [hs] at IH;omega
   | false=>rw [hs] at IH;omega
  ·exact absurd h (by simp)
theorem FC {a:fz} {sp tc:Int}: ∀(ts:List Test) (i:Nat) (p:bH×bH) (now:Int) (j:Nat) (x:Touch),(Hr a sp tc ts i p now)[j]? =some x->x.Test= ((i+j:Nat):Int)/\j<ts.length
 | [],i,p,now,j,x,h=>by simp [Hr] at h
 | t::ts,i,p,now,0,x,h=>by
  rw [xo,List.getElem?_cons_zero] at h
  injection h with h
  subst h
  exact⟨rfl,by simp⟩
 | t::ts,i,p,now,j+1,x,h=>by
  rw [xo,List.getElem?_cons_succ] at h
  obtain⟨h1,h2⟩:=FC ts _ _ _ j x h
  exact⟨by rw [h1];congr 1;omega,by rw [dK];omega⟩
theorem Ax {a:fz} {l:List Test} {sp tc:Int} {o:List Touch} {v:Int} (h1:o.length=l.length) (h2: ∀k,¬Jo l.length o k) (h3:runT a l sp tc o (qu,qu) 0=some v):oM a l sp tc o= (v,0):=by
 unfold oM
 rw [aD (fun h=>h.elim (fun h=>h h1) (fun⟨k,h⟩=>h2 k h)),h3]
theorem FD {a:fz} {l:List Test} {sp tc:Int} {o:List Touch} (h: (oM a l sp tc o).2=0):o.length=l.length/\runT a l sp tc o (qu,qu) 0=some (oM a l sp tc o).1:=by
 unfold oM at h ⊢
 split at h
 ·exact absurd h (by decide)
 ·rename_i hg
  rw [aD hg]
  refine⟨Classical.byContradiction fun e=>hg (.inl e),?_⟩
  cases hr:runT a l sp tc o (qu,qu) 0 with
  | none=>rw [hr] at h;exact absurd h (by decide)
  | some v=>rfl
theorem Hu (a:fz) (l:List Test) (sp tc:Int):oM a l sp tc (Hr a sp tc l 0 (qu,qu) 0)= (qj a sp l (qu,qu)+tc* ((l.length:Nat):Int),0):=by
 refine Ax (CV a sp tc l 0 _ _) ?_ ?_
 ·rintro k ⟨x,hx,h⟩
  obtain⟨e1,e2⟩:=FC _ _ _ _ _ _ hx
  rcases h with h | ⟨j,y,hj,hy,e⟩
  ·omega
  ·have:=(FC _ _ _ _ _ _ hy).1
   omega
 ·rw [ED l 0 _ _ (fun j t h=>by rw [fM];exact h),Int.zero_add]
theorem FE {a:fz} {l:List Test} {sp tc:Int}: ∀(m:Nat) (dn:List Bool) (p:bH×bH) (now:Int),dn.length=l.length->dn.count false=m->
  (Ht a l sp tc m dn p now).length=m/\(∀y∈Ht a l sp tc m dn p now,∃b:Nat,y.Test= ((b:Nat):Int)/\dn[b]? =some false)/\(Ht a l sp tc m dn p now).Pairwise (fun x y=>x.Test≠y.Test)/\∃v,runT a l sp tc (Ht a l sp tc m dn p now) p now=some v
 | 0,dn,p,now,_,_=>⟨rfl,fun y hy=>absurd hy (List.not_mem_nil),iG,now,rfl⟩
 | m+1,dn,p,now,hd,hc=>by
  obtain⟨b,t,hb,e1,h2,h3,h4⟩:=Js hd hc (a:=a) (sp:=sp) (p:=p)
  rw [EC (tc:=tc) (now:=now) e1 rfl h4 h3]
  generalize (pk a l sp dn p l.length).2.1=s
  have hcn:=CW dn b h2
  obtain⟨i1,i2,i3,v,i4⟩:=FE m (dn.set b true) (gl a t s) (now+ (tk p (gl a t s) sp+tc)) (by rw [fU];exact hd) (by omega) (a:=a) (sp:=sp) (tc:=tc)
  have hne: ∀y∈Ht a l sp tc m (dn.set b true) (gl a t s) (now+ (tk p (gl a t s) sp+tc)),∃c:Nat,y.Test= ((c:Nat):Int)/\c≠b/\dn[c]? =some false:=fun y hy=>by
   obtain⟨c,hc1,hc2⟩:=i2 y hy
   have hcb:c≠b:=by
    rintro rfl
    rw [List.getElem?_set_self (by omega)] at hc2
    exact absurd hc2 (by decide)
   exact⟨c,hc1,hcb,by rw [<-hc2,List.getElem?_set_ne (Ne.symm hcb)]⟩
  refine⟨by rw [dK,i1],?_,?_,v,?_⟩
  ·intro y hy
   rcases cT.1 hy with rfl | hy
   ·exact⟨b,rfl,h2⟩
   ·obtain⟨c,hc1,_,hc2⟩:=hne y hy
    exact⟨c,hc1,hc2⟩
  ·refine mg.2 ⟨fun y hy=>?_,i3⟩
   obtain⟨c,hc1,hcb,_⟩:=hne y hy
   rw [hc1]
   show ((b:Nat):Int)≠((c:Nat):Int)
   omega
  ·rw [ye]
   dsimp only
   rw [CX h3,aC rfl,i4]
theorem Hv (a:fz) (l:List Test) (sp tc:Int): ∃v,oM a l sp tc (Ht a l sp tc l.length (List.replicate l.length false) (qu,qu) 0)= (v,0):=by
 obtain⟨i1,i2,i3,v,i4⟩:=FE (a:=a) (l:=l) (sp:=sp) (tc:=tc) l.length (List.replicate l.length false) (qu,qu) 0 (by simp) (by simp)
 refine⟨v,Ax i1 ?_ i4⟩
 rintro k ⟨x,hx,h⟩
 obtain⟨b,hb1,hb2⟩:=i2 x (eW hx)
 have hbl:=(aW.1 hb2).1
 rw [um] at hbl
 rcases h with h | ⟨j,y,hj,hy,e⟩
 ·omega
 ·obtain⟨hk,rfl⟩:=aW.1 hx
  obtain⟨hj',rfl⟩:=aW.1 hy
  exact kE.1 i3 j k hj' hk hj e
section
variable {N:Nat}
theorem uk {a:fz} {l:List Test} {o:List Touch} {sp tc:Int} (ha:bk a<=1048576) (hl:bk l<=1048576) (ho:bk o<=1048576) (_h1:bk sp<=1048576) (_h2:bk tc<=1048576) (hN:4398046511104<=N):dF N a l o sp tc=some true:=by
 have hs:=Ef ha
 have hll:l.length<=1048576:=by have:=tz l;omega
 have hoo:o.length<=1048576:=by have:=tz o;omega
 have aw:=Kl hN
 have bad: ∀{e:Int},fA N a l=some e->(e≠0\/¬((1<=sp/\sp<=1000000)/\(0<=tc/\tc<=1000)))->dF N a l o sp tc=some true:=fun{e} h1 h3=>by
  have hc:=oC (N:=N) (sp:=sp) (tc:=tc) h1
  have hne: (if e≠0 then e else if (1<=sp/\sp<=1000000)/\(0<=tc/\tc<=1000) then 0 else 1)≠0:=by
   by_cases he:e≠0
   ·rw [aC he];exact he
   ·rw [aD he,aD (h3.resolve_left he)];decide
  generalize (if e≠0 then e else if (1<=sp/\sp<=1000000)/\(0<=tc/\tc<=1000) then 0 else 1)=E at *
  have hb: (E != 0)=true:=by simpa using hne
  have hw:lU N a l sp tc=some ([],E):=by unfold lU;rw [hc,aB,hb,aO]
  unfold dF
  rw [hw,aB]
  dsimp only
  rw [hb,aO,aw]
  rfl
 rcases checked (N:=N) hs hN with ⟨e,he,h1,h2⟩ | ⟨b,h1,h2⟩
 ·exact bad (ly (Jm he h1 l)) (.inl he)
 rename_i k9 fP r gs ofP ofB pg oW
 rcases Kn b h1 hll hN with ⟨e1,e2⟩ | ⟨e1,e2⟩
 ·exact bad (ly e2) (.inl e1)
 obtain⟨t1,t2,_⟩:=CR e1
 by_cases hst: (1<=sp/\sp<=1000000)/\(0<=tc/\tc<=1000)
 rotate_left
 ·exact bad (ly e2) (.inr hst)
 have hS:=Jr b.vn hst.1 hst.2 (ly e2) t1 t2 hN
 have hR:=FB b.vn hst.1 hst.2 (ly e2) t1 t2 hN
 have hT: ∀{o:List Touch},o.length<=1048576->lW N a l o sp tc=some (oM a l sp tc o):=fun ho=>Ks b.vn hst.1 hst.2 (ly e2) t1 t2 ho hN
 obtain⟨v,hv⟩:=Hv a l sp tc
 have hnl:=(FE (a:=a) (l:=l) (sp:=sp) (tc:=tc) l.length (List.replicate l.length false) (qu,qu) 0 (by simp) (by simp)).1
 refine Ok.get ?_
 unfold dF
 refine Ok.eq hS ?_
 dsimp only
 rw [bne_self_eq_false,aN]
 refine Ok.eq hR ?_
 dsimp only
 refine Ok.eq (hT (by rw [CV];omega)) (Ok.eq (hT (by rw [hnl];omega)) ?_)
 rw [Hu,hv]
 dsimp only
 rw [bne_self_eq_false,Bool.or_false,Bool.or_false,aN]
 refine Ok.eq (hT hoo) ?_
 refine Ok.bind (Ok.rA (n:=o.length) (fun st=>st) (fun k _=>∀j x,j<k->o[j]? =some x->x.Test= ((j:Nat):Int)) (Go:=fun _=>∀j x,o[j]? =some x->x.Test= ((j:Nat):Int)) (Rt:=fun r=>r=true) ?_ ?_ (eL _) rfl (fun j x hj=>absurd hj (by omega)) (by omega)) ?_
 ·rintro k s hk e I
  subst e
  rw [nG hk,aO]
  have hx:o[k]? =some o[k]:=aL hk
  generalize o[k]=x at hx
  refine Ok.ix hx ?_
  refine Ok.bif (fun hb=>Ok.eq aw (Ok.rt rfl)) (fun hb=>Ok.nx ⟨bP (by omega),fun j y hj hy=>?_⟩)
  by_cases e:j=k
  ·subst e
   rw [hx] at hy
   injection hy with hy
   subst hy
   simpa using hb
  ·exact I j y (by omega) hy
 ·rintro s e I
  subst e
  rw [qW,aN]
  exact Ok.br fun j x hx=>I j x (aW.1 hx).1 hx
 intro out hout
 refine Ok.cs hout (fun _ I=>?_) (fun r hr=>Ok.ret hr)
 have hb: ((oM a l sp tc o).2 != 0||decide (qj a sp l (qu,qu)+tc* ((l.length:Nat):Int)<=(oM a l sp tc o).1))=true:=by
  by_cases h: (oM a l sp tc o).2=0
  ·obtain⟨h1,h2⟩:=FD h
   have:=Gy l o 0 _ _ _ (fun j t h=>by rw [fM];exact h) h1 (fun j x hx=>by rw [fM];exact I j x hx) h2
   rw [cX,bB]
   right;omega
  ·rw [show ((oM a l sp tc o).2 != 0)=true by simpa using h,Bool.true_or]
 rw [hb,aO,aw]
 exact Ok.ret rfl
end
end Go.Gk
