/-
  Helping texts: plain functions and plain laws. No statement of the seed is proved here.
-/
import Derived.Test.YtbdpcenmcmmdcaaGreatDoorE1
import Derived.Test.YtbdpcenmcmmdcaaGreatDoorA2
set_option linter.unusedVariables false
set_option linter.unusedSimpArgs false
set_option linter.unusedSectionVars false
namespace Go.Gk
open Go IntKind Classical
section
variable {N:Nat}
section
variable {α:Type}
def qf(P:α->Bool)(l:List α)(n:Nat):List Nat:=(List.range n).filter<|λk=>(l[k]?).any P
theorem zx{P:α->Bool}{l:List α}{n:Nat}{x:α}(h:l[n]? =some x):qf P l (n+1)=if P x=true then qf P l n++[n]else qf P l n:=by
 grind [qf,List.range_succ]
theorem Bu(P:α->Bool)(l:List α)(n:Nat):(qf P l n).length<=n:=by
 have:=rf (λk=>(l[k]?).any P)<|List.range n
 rw[List.length_range]at this;exact this
theorem Ku{P:α->Bool}{l:List α}{n k:Nat}:k∈qf P l n↔k<n/\(l[k]?).any P=true:=by simp[qf]
theorem AD{β:Type}{l:List α}(P:α->Bool)(g:Nat->β):nK l.length (λk=>(l[k]?).bind λx=>if P x=true then some (g k)else none)=(l.findIdx? P).map g:=by
 cases h:l.findIdx? P with
 |none=>
  grind [List.findIdx?_eq_none_iff,jA,aP,cL]
 |some j=>
  obtain⟨hj,hp,hn⟩:=List.findIdx?_eq_some_iff_getElem.1 h;refine iG.2 ⟨j,hj,by grind,λi hi=>?_⟩
  grind
end
def ints(l:List Nat):List Int:=l.map λi=>((i:Nat):Int)
theorem rM(l m:List Nat):ints (l++m)=ints l++ints m:=fO
theorem mo(l:List Nat):(ints l).length=l.length:=dU _
theorem rN{l:List Nat}{x:Int}:x∈ints l↔∃i∈l,x=((i:Nat):Int):=by
 grind [ints]
def sM(p0 p1:aH):Bool:=(((decide (p0.X0<p1.X1)&&decide (p1.X0<p0.X1))&&((p0.Y1==p1.Y0)||(p1.Y1==p0.Y0)))||((decide (p0.Y0<p1.Y1)&&decide (p1.Y0<p0.Y1))&&((p0.X1==p1.X0)||(p1.X1==p0.X0))))
def iN(b:bR)(p:aF):Bool:=b.eN&&(mn b p.dN&&p.gU.any (λr=>sM r<|xJ b))
def cK(bs:List bR)(pcs:List aF):List (List Int):=bs.map λb=>ints<|qf (iN b) pcs pcs.length
theorem ud{l:List aH}{φ:aH->Option Bool}(p:aH->Bool)(hl:l.length<=4611686018427387904)(h:∀x∈l,φ x=some (p x)):iH N l φ=some (l.any p):=
 uV p hl h
theorem LL{bs:List bR}{pcs:List aF}(hb:kV bs)(hp:pcs.length<=1073741824)(hr:∀p∈pcs,p.gU.length<=1073741824):k6 N bs pcs []=some (cK bs pcs):=by
 refine TT ?_;have hbl:=hb.len;unfold k6;refine S3 (T0 (λk st=>st=cK (bs.take k) pcs) (by omega) rfl<|λk st hk e=>?_)<|λst e=>SR (by rw[e,fG])
 subst e;have hg:=hb.ok _<|cL hk
 refine TU hk ?_;refine S3 (P:=λt=>t=ints (qf (iN bs[k]) pcs pcs.length)) (T0 (λj t=>t=ints (qf (iN bs[k]) pcs j)) (by omega) rfl<|λj t hj e=>?_)<|λt e=>?_
 ·subst e;have hjx:pcs[j]? =some pcs[j]:=aP hj;have hl:=Bu (iN bs[k]) pcs j;refine Tc hjx ?_;refine IT (x:=iN bs[k] pcs[j]) ?_ ?_
  ·unfold iN
   cases bs[k].eN with
   |false=>rfl
   |true=>
    rw[aM,DB,aB,Bool.true_and]
    cases mn bs[k] pcs[j].dN with
    |false=>rfl
    |true=>
     rw[aM,ud (λr=>sM r (xJ bs[k])) (by grind) (λr _=>by
      unfold lq;rw[oq hg.1];rfl),aB,Bool.true_and]
  ·rw[zx hjx]
   cases ht:iN bs[k] pcs[j]with
   |false=>simp[aQ,aI,IT,SR]
   |true=>
    rw[aM,aG rfl]
    grind [IT,ints,qf,iN,lf,mo,aB,SR,rM]
 grind [TM,SR,cK,eA]
def B2(r:List aH)(p:jX):Bool:=r.any<|λx=>decide (p.X>=x.X0)&&(decide (p.X<x.X1)&&(decide (p.Y>=x.Y0)&&decide (p.Y<x.Y1)))
theorem AE{r:List aH}{p:jX}(hl:r.length<=4611686018427387904):lE N r p=some (B2 r p):=by
 unfold lE
 rw[ud (λx=>decide (p.X>=x.X0)&&(decide (p.X<x.X1)&&(decide (p.Y>=x.Y0)&&decide (p.Y<x.Y1)))) hl (λx _=>by
  grind [mC,decide])];rfl
def mK(l:cS)(b:bR):Bool:=b.eN&&(mn b l.dN&&B2 [xJ b] l.At)
def lT(l:cS)(p:aF):Bool:=(p.dN==l.dN)&&B2 p.gU l.At
def ql(bs:List bR)(pcs:List aF)(l:cS):Option dK:=match bs.findIdx? (mK l)with
 |some k=>some ⟨true,((k:Nat):Int)⟩
 |none=>(pcs.findIdx? (lT l)).map λk=>⟨false,((k:Nat):Int)⟩
theorem LM{bs:List bR}{pcs:List aF}(hb:kV bs)(hp:pcs.length<=1073741824)(hr:∀p∈pcs,p.gU.length<=1073741824)(l:cS):
  k8 N bs pcs l=some ((ql bs pcs l).getD ⟨false,0⟩,(ql bs pcs l).isSome):=by
 have hbl:=hb.len;unfold k8
 rw[o9 (λk=>(bs[k]?).bind λx=>if mK l x=true then some ((⟨true,((k:Nat):Int)⟩:dK),true)else none) (by omega) (λk hk _=>by
  have hkx:bs[k]? =some bs[k]:=aP hk;have hg:=hb.ok _<|cL hk
  rw[cC hkx,aB,hkx,oq hg.1,aB,aB,AE (by simp)];unfold mK
  cases bs[k].eN with
  |false=>rfl
  |true=>
   show(((bif mn bs[k] l.dN then _ else _:Option Bool)).bind _)=_
   cases mn bs[k] l.dN with
   |false=>rfl
   |true=>
    cases B2 [xJ bs[k]] l.At <;> rfl),aB,AD (mK l) (λk=>((⟨true,((k:Nat):Int)⟩:dK),true))]
 unfold ql
 cases bs.findIdx? (mK l)with
 |some k=>rfl
 |none=>
  show((tL pcs.length _ ()).bind _)=_
  rw[o9 (λk=>(pcs[k]?).bind λx=>if lT l x=true then some ((⟨false,((k:Nat):Int)⟩:dK),true)else none) (by omega) (λk hk _=>by
   have hkx:pcs[k]? =some pcs[k]:=aP hk;rw[cC hkx,aB,hkx,aB,AE (by have:=hr _<|cL hk;omega)];unfold lT
   cases pcs[k].dN==l.dN with
   |false=>rfl
   |true=>cases B2 pcs[k].gU l.At <;> rfl),aB,AD (lT l) (λk=>((⟨false,((k:Nat):Int)⟩:dK),true))]
  cases pcs.findIdx? (lT l) <;> rfl
def Lk(n:Nat)(tch:List (List Int))(i j:Nat):Prop:=∃(k:Nat)(l:List Int),tch[k]? =some l/\((i:Nat):Int)∈l/\j=n+k
structure Cn (n m:Nat) (tch:List (List Int)) (r:Nat->Nat):Prop where
 le:∀i,i<n+m->r i<=i
 rr:∀i,i<n+m->r (r i)=r i
 co:∀i j,Lk n tch i j->r i=r j
 fi:∀S:Nat->Prop,(∀i j,Lk n tch i j->(S i↔S j))->∀i j,i<n+m->j<n+m->r i=r j->S i->S j
theorem E1{n m:Nat}{tch:List (List Int)}(hm:tch.length=m)(ht:∀l∈tch,l.length<=1073741824/\∀x∈l,∃i:Nat,i<n/\x=((i:Nat):Int))(hn:n<=1073741824)(hm2:m<=1073741824){up:List Int}(hu:UF (n+m) up (λi=>i))(hN:4398046511104<=N):
  Ok (mx tch.length (λ(k34:Nat)(s35:List Int)=>((idx tch (k34:Int)).bind λx89=>(mx x89.length (λ(k92:Nat)(s93:List Int)=>((idx x89 (k92:Int)).bind λx107=>(fC N s93 x107<|wrap .i64<|(n:Int)+(k34:Int)).bind λx109=>some x109:Option (List Int))) s35).bind λs93=>some s93:Option (List Int))) up)
   (λup'=>∃r,UF (n+m) up' r/\Cn n m tch r):=by
 have base:Ok (mx tch.length (λ(k34:Nat)(s35:List Int)=>((idx tch (k34:Int)).bind λx89=>(mx x89.length (λ(k92:Nat)(s93:List Int)=>((idx x89 (k92:Int)).bind λx107=>(fC N s93 x107<|wrap .i64<|(n:Int)+(k34:Int)).bind λx109=>some x109:Option (List Int))) s35).bind λs93=>some s93:Option (List Int))) up)
   (λup'=>∃r E,UF (n+m) up' r/\ny r E/\wU (n+m) r E/\(∀p∈E,Lk n tch p.1 p.2)/\∀(k:Nat)l(i:Nat),k<tch.length->tch[k]? =some l->((i:Nat):Int)∈l->(i,n+k)∈E):=by
  refine T0 (λq up'=>∃r E,UF (n+m) up' r/\ny r E/\wU (n+m) r E/\(∀p∈E,Lk n tch p.1 p.2)/\∀(k:Nat)l(i:Nat),k<q->tch[k]? =some l->((i:Nat):Int)∈l->(i,n+k)∈E) (by omega)
   ⟨_,_,hu,ny.id,wU.id _,λp hp=>(by cases hp),λk l i hk=>by omega⟩ (λq up' hq hI=>?_)
  obtain⟨r,E,h1,h2,h3,h4,h5⟩:=hI;have hqx:tch[q]? =some tch[q]:=aP hq;obtain⟨hl1,hl2⟩:=ht _<|cL hq
  refine Tc hqx ?_;rw[wrap_add (by omega)]
  refine S3 (T0 (λt up'=>∃r E,UF (n+m) up' r/\ny r E/\wU (n+m) r E/\(∀p∈E,Lk n tch p.1 p.2)/\(∀(k:Nat)l(i:Nat),k<q->tch[k]? =some l->((i:Nat):Int)∈l->(i,n+k)∈E)/\∀i:Nat,((i:Nat):Int)∈tch[q].take t->(i,n+q)∈E) (by omega)
   ⟨r,E,h1,h2,h3,h4,h5,λi hi=>by simp at hi⟩ (λt up' htl hI=>?_)) (λup' hI=>SR ?_)
  ·obtain⟨r,E,h1,h2,h3,h4,h5,h6⟩:=hI;refine TU htl ?_;obtain⟨i,hi,e⟩:=hl2 _<|cL htl
   rw[e];obtain⟨u2,a1,a2⟩:=JA (N:=N) h1 (i:=i) (k:=n+q) (by omega) (by omega) (by omega);refine IT a1<|SR ⟨_,_,a2,h2.join i (n+q)<|h1.rr i (by omega),h3.join (by omega) (by omega),λp hp=>?_,λk l j hk hl hj=>List.mem_append_left _<|h5 k l j hk hl hj,λj hj=>?_⟩
   ·rcases dD.1 hp with hp|hp
    ·exact h4 p hp
    ·simp at hp;subst hp;exact⟨q,tch[q],hqx,by grind,rfl⟩
   ·rw[eA htl,dD]at hj
    rcases hj with hj|hj
    ·exact List.mem_append_left _<|h6 j hj
    ·rw[l4,e]at hj;have:j=i:=by omega
     subst this;simp
  ·obtain⟨r,E,h1,h2,h3,h4,h5,h6⟩:=hI;refine⟨r,E,h1,h2,h3,h4,λk l i hk hl hi=>?_⟩
   by_cases hkq:k<q
   ·exact h5 k l i hkq hl hi
   ·have:k=q:=by omega
    subst this;rw[hqx]at hl;injection hl with hl;subst hl
    exact h6 i (by grind)
 obtain⟨up',e,r,E,h1,h2,h3,h4,h5⟩:=base;have hE:∀i j,Lk n tch i j->(i,j)∈E:=λi j⟨k,l,hl,hi,hj⟩=>by
  grind
 exact⟨up',e,r,h1,h1.le,h1.rr,λi j h=>h2 (i,j)<|hE i j h,λS hS i j hi hj=>h3 S (λp hp=>hS p.1 p.2<|h4 p hp) i j hi hj⟩
def tF(bs:List bR)(j:Nat):Bool:=(bs[j]?).any<|λb=>b.eN
def gP(n:Nat)(c:List Nat):List Nat:=c.filter<|λi=>decide<|i<n
def gB(bs:List bR)(n:Nat)(c:List Nat):List Nat:=(c.filter<|λi=> !decide (i<n)&&tF bs (i - n)).map<|λi=>i - n
def Hv(bs:List bR)(n:Nat)(c:List Nat):Bool:=decide<|0<(gP n c).length+(gB bs n c).length
def NS(bs:List bR)(n:Nat)(c:List Nat):cF:=⟨ints<|gP n c,ints<|gB bs n c,[]⟩
theorem JE(n:Nat)(c:List Nat)(i:Nat):gP n (c++[i])=if i<n then gP n c++[i]else gP n c:=by
 unfold gP;grind
theorem JF(bs:List bR)(n:Nat)(c:List Nat)(i:Nat):gB bs n (c++[i])=if i<n then gB bs n c else if tF bs (i - n)=true then gB bs n c++[i - n]else gB bs n c:=by
 unfold gB;grind
theorem IH(n:Nat)(c:List Nat):(gP n c).length<=c.length:=rf _ _
theorem II(bs:List bR)(n:Nat)(c:List Nat):(gB bs n c).length<=c.length:=by unfold gB;grind
def live(bs:List bR)(n t:Nat)(r:Nat->Nat)(hs:List Nat):List Nat:=hs.filter<|λh=>Hv bs n<|cls t r h
def mu(bs:List bR)(n t:Nat)(r:Nat->Nat)(hs:List Nat):List cF:=(live bs n t r hs).map<|λh=>NS bs n<|cls t r h
theorem E2(bs:List bR)(n t:Nat)(r:Nat->Nat)(hs:List Nat)(h:Nat):live bs n t r (hs++[h])=if Hv bs n (cls t r h)=true then live bs n t r hs++[h]else live bs n t r hs:=by
 grind [live]
theorem vt(bs:List bR)(n t:Nat)(r:Nat->Nat)(hs:List Nat):(mu bs n t r hs).length=(live bs n t r hs).length:=by simp[mu,dU]
def gi(bs:List bR)(n t:Nat)(r:Nat->Nat)(h:Nat):Nat:=(live bs n t r<|(bV t r).takeWhile<|λx=>decide<|x≠h).length
theorem yP{l:List Nat}(hn:l.Nodup){k h:Nat}(hk:l[k]? =some h):l.takeWhile (λx=>decide<|x≠h)=l.take k:=by
 induction l generalizing k with
 |nil=>simp at hk
 |cons a l ih=>
  cases k with
  |zero=>simp_all
  |succ k=>
   grind [List.nodup_cons,fQ,List.takeWhile_cons]
theorem sN(bs:List bR)(n t:Nat)(r:Nat->Nat)(hs:List Nat):(live bs n t r hs).length<=hs.length:=rf _ _
theorem JG{bs:List bR}{n t:Nat}{r:Nat->Nat}{h:Nat}(hh:h∈bV t r)(hne:Hv bs n (cls t r h)=true):gi bs n t r h<(live bs n t r<|bV t r).length/\(live bs n t r<|bV t r)[gi bs n t r h]? =some h:=by
 obtain⟨k,hk⟩:=dW hh;have hkl:=(bN.1 hk).1;unfold gi;rw[yP (oh t r) hk]
 grind [bV,List.take_append_drop,vG,bN,live]
end
section
variable {N:Nat}
theorem Bv{l:List Nat}(h:l.Nodup){i j a:Nat}(hi:l[i]? =some a)(hj:l[j]? =some a):i=j:=
 by grind [List.getElem_inj,bN]
theorem rk{n i k:Nat}{r:Nat->Nat}:i∈cls n r k↔i<n/\r i=k:=by simp[cls]
theorem Kv(n:Nat)(r:Nat->Nat)(k:Nat):(cls n r k).Nodup:=List.Nodup.sublist List.filter_sublist List.nodup_range
structure QI (bs:List bR) (n m:Nat) (r:Nat->Nat) (hs:List Nat) (ofP ofB:List Int):Prop where
 lp:ofP.length=n
 lb:ofB.length=m
 pc:∀i,i<n->r i∈hs->ofP[i]? =some ((gi bs n (n+m) r (r i):Nat):Int)
 bo:∀j,j<m->r (n+j)∈hs->ofB[j]? =some (if tF bs j=true then((gi bs n (n+m) r (r<|n+j):Nat):Int)else -1)
theorem Hx{bs:List bR}{n m:Nat}{r:Nat->Nat}(hm:bs.length=m)(hn:n<=1073741824)(hm2:m<=1073741824){op ob:List Int}(hop:op.length=n)(hob:ob.length=m)
  {body:Nat->List cF×List Int×List Int->Option (List cF×List Int×List Int)}
  (hbody:body=(λ(k123:Nat)(s124:List cF×List Int×List Int)=>((idx (tC (n+m) r) (k123:Int)).bind λx455=>(mx x455.length (λ(k458:Nat)(s459:List Int×List Int×List Int×List Int)=>((idx x455 (k458:Int)).bind λx556=>(bif decide (x556<(n:Int))then((idx s459.1 x556).bind λx580=>(app 8 s459.2.2.1 ([x556]:List Int)).bind λx582=>some (s459.1.set (Int.toNat x556) (s124.1.length:Int),s459.2.1,x582,s459.2.2.2))else((idx bs<|wrap .i64<|x556 -(n:Int)).bind λx584=>(bif x584.eN then((idx s459.2.1<|wrap .i64<|x556 -(n:Int)).bind λx594=>(app 8 s459.2.2.2 ([wrap .i64<|x556 -(n:Int)]:List Int)).bind λx596=>some (s459.2.1.set (Int.toNat<|wrap .i64<|x556 -(n:Int)) (s124.1.length:Int),x596))else((idx s459.2.1<|wrap .i64<|x556 -(n:Int)).bind λx598=>some (s459.2.1.set (Int.toNat<|wrap .i64<|x556 -(n:Int))<|-1,s459.2.2.2))).bind λs592=>some (s459.1,s592.1,s459.2.2.1,s592.2))).bind λs577=>some (s577.1,s577.2.1,s577.2.2.1,s577.2.2.2):Option (List Int×List Int×List Int×List Int))) (s124.2.1,s124.2.2,([]:List Int),([]:List Int))).bind λs459=>(bif decide (wrap .i64 ((s459.2.2.1.length:Int)+(s459.2.2.2.length:Int))>0)then((app 72 s124.1 [(⟨s459.2.2.1,s459.2.2.2,([]:List dQ)⟩:cF)]).bind λx610=>some x610)else some s124.1).bind λs606=>some (s606,s459.1,s459.2.1):Option (List cF×List Int×List Int)))):
  Ok (mx (tC (n+m) r).length body ([],op,ob)) (λst=>st.1=mu bs n (n+m) r (bV (n+m) r)/\QI bs n m r (bV (n+m) r) st.2.1 st.2.2):=by
 subst hbody;have hsl:(tC (n+m) r).length=(bV (n+m) r).length:=by simp[tC]
 have hhl:=mm (n+m) r;refine Ok.mono (T0 (λ(k:Nat)(st:List cF×List Int×List Int)=>st.1=mu bs n (n+m) r ((bV (n+m) r).take k)/\QI bs n m r ((bV (n+m) r).take k) st.2.1 st.2.2) (by omega) ⟨rfl,hop,hob,λi hi h=>by simp at h,λj hj h=>by simp at h⟩<|λk st hk hI=>?_) (λst h=>by grind);obtain⟨gs,ofP,ofB⟩:=st;obtain⟨e1,I⟩:=hI;dsimp only at e1 I ⊢;subst e1;rw[hsl]at hk;have hkx:(bV (n+m) r)[k]? =some (bV (n+m) r)[k]:=aP hk;have hts:(bV (n+m) r).take (k+1)=(bV (n+m) r).take k++[(bV (n+m) r)[k]]:=eA hk;have hgk:gi bs n (n+m) r (bV (n+m) r)[k]=(mu bs n (n+m) r<|(bV (n+m) r).take k).length:=by
  unfold gi;grind [yP,oh,vt]
 generalize hh:(bV (n+m) r)[k]=h at *;have hsx:(tC (n+m) r)[k]? =some (ints<|cls (n+m) r h):=by unfold tC;rw[jD,hkx];rfl
 refine Tc hsx ?_;have hcl:=CC (n+m) r h;rw[mo];have hgl:(mu bs n (n+m) r<|(bV (n+m) r).take k).length<=n+m:=by
  grind [vt,sN,bV,dI]
 have hold:∀i∈cls (n+m) r h,∀i',r i'∈(bV (n+m) r).take k->i≠i':=λi hi i' hi' e=>by
  grind [rk,dW,bN,dI,List.getElem?_take_of_lt,Bv,oh]
 refine S3 (P:=λs'=>QI bs n m r ((bV (n+m) r).take (k+1)) s'.1 s'.2.1/\s'.2.2.1=ints (gP n (cls (n+m) r h))/\s'.2.2.2=ints (gB bs n (cls (n+m) r h))) (Ok.mono (T0
  (λ(t:Nat)(s':List Int×List Int×List Int×List Int)=>QI bs n m r ((bV (n+m) r).take k) s'.1 s'.2.1/\s'.2.2.1=ints (gP n ((cls (n+m) r h).take t))/\s'.2.2.2=ints (gB bs n ((cls (n+m) r h).take t))/\
   (∀i∈(cls (n+m) r h).take t,i<n->s'.1[i]? =some ((gi bs n (n+m) r h:Nat):Int))/\∀i∈(cls (n+m) r h).take t,¬i<n->s'.2.1[i - n]? =some (if tF bs (i - n)=true then((gi bs n (n+m) r h:Nat):Int)else -1)) (by omega)
   ⟨I,rfl,rfl,λi hi=>by simp at hi,λi hi=>by simp at hi⟩ (λt s' ht hI'=>?_)) ?_) ?_
 ·obtain⟨oP,oB,pp,bb⟩:=s';obtain⟨J,e2,e3,J1,J2⟩:=hI';dsimp only at J e2 e3 J1 J2 ⊢;subst e2;subst e3;have htx:(ints<|cls (n+m) r h)[t]? =some (((cls (n+m) r h)[t]:Nat):Int):=by unfold ints;rw[jD,aP ht];rfl
  refine Tc htx ?_;have htt:(cls (n+m) r h).take (t+1)=(cls (n+m) r h).take t++[(cls (n+m) r h)[t]]:=eA ht;have hcm:=cL ht;have hdist:∀i∈(cls (n+m) r h).take t,i≠(cls (n+m) r h)[t]:=λi hi e=>by
   obtain⟨j,hj⟩:=dW hi;have hjt:j<t:=by have:=(bN.1 hj).1;rw[dI]at this;omega
   rw[List.getElem?_take_of_lt hjt]at hj;have:=Bv (Kv (n+m) r h) hj (by rw[e];exact aP ht);omega
  generalize (cls (n+m) r h)[t]=c at *;obtain⟨hc1,hc2⟩:=rk.1 hcm;have hgp:=IH n<|(cls (n+m) r h).take t
  have hgb:=II bs n<|(cls (n+m) r h).take t
  rw[dI]at hgp hgb
  by_cases hcn:c<n
  ·rw[bO (by omega:((c:Nat):Int)<((n:Nat):Int)),aM];refine S3 (P:=λx=>x=(oP.set c ((gi bs n (n+m) r h:Nat):Int),oB,ints (gP n<|(cls (n+m) r h).take t)++[((c:Nat):Int)],ints<|gB bs n<|(cls (n+m) r h).take t)) ?_ ?_
   ·refine TU (by rw[J.lp];exact hcn)<|TM (by rw[mo];simp;omega)<|SR ?_
    rw[cI,hgk]
   ·rintro _ rfl;refine SR ⟨⟨by simp[J.lp],J.lb,λi hi hr=>?_,J.bo⟩,?_,?_,λi hi hin=>?_,λi hi hin=>?_⟩
    ·dsimp only;rw[qH (by rw[J.lp];exact hcn),aI<|λe=>hold c hcm i hr e.symm];exact J.pc i hi hr
    ·dsimp only;rw[htt,JE,aG hcn,rM];rfl
    ·dsimp only;rw[htt,JF,aG hcn]
    ·dsimp only;rw[qH (by rw[J.lp];exact hcn)];split
     ·rfl
     ·rename_i hne;rw[htt]at hi
      rcases dD.1 hi with hi|hi
      ·exact J1 i hi hin
      ·exact absurd (by simpa using hi) hne
    ·rw[htt]at hi
     rcases dD.1 hi with hi|hi
     ·exact J2 i hi hin
     ·have:i=c:=by simpa using hi
      subst this;exact absurd hcn hin
  ·rw[bQ (by omega:¬((c:Nat):Int)<((n:Nat):Int)),aQ];have hw:wrap .i64 (((c:Nat):Int) -((n:Nat):Int))=((c - n:Nat):Int):=by rw[fP (by omega) (by omega)];omega
   have hcm2:c - n<bs.length:=by omega
   have hpl:tF bs (c - n)=bs[c - n].eN:=by unfold tF;rw[aP hcm2];rfl
   rw[hw];refine S3 (P:=λx=>x=(oP,oB.set (c - n) (if tF bs (c - n)=true then((gi bs n (n+m) r h:Nat):Int)else -1),ints<|gP n<|(cls (n+m) r h).take t,ints<|gB bs n<|(cls (n+m) r h).take t++[c])) ?_ ?_
   ·refine TU hcm2 ?_;rw[JF,aI hcn,hpl]
    cases hp:bs[c - n].eN with
    |true=>
     rw[aM,aG rfl,aG rfl];refine IT (x:=(oB.set (c - n) ((gi bs n (n+m) r h:Nat):Int),ints<|gB bs n ((cls (n+m) r h).take t)++[c - n])) ?_<|SR rfl
     rw[l6 _ _ (by rw[J.lb];omega),aB,lf (by rw[mo];simp;omega),aB,cI,hgk,rM];rfl
    |false=>
     rw[aQ,aI (by simp),aI (by simp)];refine IT (x:=(oB.set (c - n)<|-1,ints<|gB bs n<|(cls (n+m) r h).take t)) ?_<|SR rfl
     rw[l6 _ _ (by rw[J.lb];omega),aB,cI]
   ·rintro _ rfl;refine SR ⟨⟨J.lp,by simp[J.lb],J.pc,λj hj hr=>?_⟩,?_,?_,λi hi hin=>?_,λi hi hin=>?_⟩
    ·dsimp only;rw[qH (by rw[J.lb];omega),aI<|λe=>hold c hcm (n+j) hr (by omega)];exact J.bo j hj hr
    ·dsimp only;rw[htt,JE,aI hcn]
    ·dsimp only;rw[htt]
    ·rw[htt]at hi
     rcases dD.1 hi with hi|hi
     ·exact J1 i hi hin
     ·have:i=c:=by simpa using hi
      subst this;exact absurd hin hcn
    ·dsimp only;rw[qH (by rw[J.lb];omega)];split
     ·rename_i e;rw[e]
     ·rename_i hne;rw[htt]at hi
      rcases dD.1 hi with hi|hi
      ·exact J2 i hi hin
      ·exact absurd (by have:i=c:=(by simpa using hi);rw[this]) hne
 ·rintro⟨oP,oB,pp,bb⟩⟨J,e2,e3,J1,J2⟩;dsimp only at J e2 e3 J1 J2 ⊢;rw[fG]at e2 e3 J1 J2;refine⟨⟨J.lp,J.lb,λi hi hr=>?_,λj hj hr=>?_⟩,e2,e3⟩
  ·rw[hts]at hr
   rcases dD.1 hr with hr|hr
   ·exact J.pc i hi hr
   ·have hr:r i=h:=by simpa using hr
    rw[hr];exact J1 i (rk.2 ⟨by omega,hr⟩) hi
  ·rw[hts]at hr
   rcases dD.1 hr with hr|hr
   ·exact J.bo j hj hr
   ·have hr:r (n+j)=h:=by simpa using hr
    rw[hr];have:=J2 (n+j) (rk.2 ⟨by omega,hr⟩) (by omega);rwa[Nat.add_sub_cancel_left]at this
 ·rintro⟨oP,oB,pp,bb⟩⟨J,e2,e3⟩;dsimp only at J e2 e3 ⊢;subst e2;subst e3;have hgp:=IH n<|cls (n+m) r h
  have hgb:=II bs n<|cls (n+m) r h
  rw[mo,mo,wrap_add (by omega)];have hgs:mu bs n (n+m) r ((bV (n+m) r).take<|k+1)=if Hv bs n (cls (n+m) r h)=true then mu bs n (n+m) r ((bV (n+m) r).take k)++[NS bs n<|cls (n+m) r h]else mu bs n (n+m) r ((bV (n+m) r).take k):=by
   unfold mu;rw[hts,E2];split
   ·rw[fO];rfl
   ·rfl
  refine S3 (P:=λx=>x=mu bs n (n+m) r ((bV (n+m) r).take<|k+1)) (Tx (λhb=>?_)<|λhb=>SR ?_)<|λx e=>SR ⟨e,J⟩
  ·have hne:Hv bs n (cls (n+m) r h)=true:=bO (by have:=of_decide_eq_true hb;omega);refine TM (by simp;omega)<|SR ?_
   rw[hgs,aG hne];rfl
  ·have hne:¬Hv bs n (cls (n+m) r h)=true:=λh'=>by
    have h1:=of_decide_eq_true h';have h2:=of_decide_eq_false hb;omega
   rw[hgs,aI hne]
end
section
variable {N:Nat}
def eC(n:Nat)(h:dK):Nat:=if h.bR=true then n+h.Number.toNat else h.Number.toNat
structure E3 (bs:List bR) (n m:Nat) (h:dK):Prop where
 num:∃k:Nat,h.Number=((k:Nat):Int)/\(h.bR=true->k<m/\tF bs k=true)/\(h.bR=false->k<n)
theorem Bw{bs:List bR}{pcs:List aF}{l:cS}{h:dK}(hh:ql bs pcs l=some h):E3 bs pcs.length bs.length h:=by
 unfold ql at hh
 cases hf:bs.findIdx? (mK l)with
 |some k=>
  rw[hf]at hh;injection hh with hh;subst hh
  obtain⟨hk,hp,_⟩:=List.findIdx?_eq_some_iff_getElem.1 hf;refine⟨k,rfl,λ_=>⟨hk,?_⟩,λh=>by cases h⟩
  grind [mK,tF,aP]
 |none=>
  rw[hf]at hh;dsimp only at hh;rw[tS]at hh;obtain⟨k,hk,rfl⟩:=hh;obtain⟨hk,_⟩:=List.findIdx?_eq_some_iff_getElem.1 hk;exact⟨k,rfl,λh=>(by cases h),λ_=>hk⟩
def uG(bs:List bR)(pcs:List aF)(r:Nat->Nat)(l:cS):Option Nat:=(ql bs pcs l).map λh=>gi bs pcs.length (pcs.length+bs.length) r<|r<|eC pcs.length h
def Eo(bs:List bR)(pcs:List aF)(r:Nat->Nat)(l:cS):Int:=match uG bs pcs r l with|some g=>((g:Nat):Int)|none=> -1
def gK(gs:List cF)(lg:cS->Option Nat)(ls:List cS):List cF:=gs.mapIdx<|λg x=>{x with gL:=(ls.filter<|λl=>decide<|lg l=some g).map kM}
theorem mL{gs:List cF}{lg:cS->Option Nat}{ls:List cS}{g:Nat}:(gK gs lg ls)[g]? =(gs[g]?).map λx=>{x with gL:=(ls.filter<|λl=>decide<|lg l=some g).map kM}:=by
 simp[gK,List.getElem?_mapIdx]
theorem AF(gs:List cF)(lg:cS->Option Nat)(ls:List cS):(gK gs lg ls).length=gs.length:=by simp[gK,List.length_mapIdx]
theorem yQ{gs:List cF}{lg:cS->Option Nat}{ls:List cS}{l:cS}(h:lg l=none):gK gs lg (ls++[l])=gK gs lg ls:=by
 apply List.ext_getElem?
 grind [mL]
theorem AG{gs:List cF}{lg:cS->Option Nat}{ls:List cS}{l:cS}{k:Nat}{x:cF}(h:lg l=some k)(hx:(gK gs lg ls)[k]? =some x):
  (gK gs lg ls).set k {x with gL:=x.gL++[kM l]}=gK gs lg (ls++[l]):=by
 apply List.ext_getElem?;intro g;have hk:=(bN.1 hx).1;rw[ln]
 by_cases e:k=g
 ·subst e
  grind [mL,tS]
 grind [mL]
theorem JH{bs:List bR}{n t:Nat}{r:Nat->Nat}{i:Nat}(hi:i<n)(ht:i<t):Hv bs n (cls t r<|r i)=true:=by
 unfold Hv;rw[cP];have:i∈gP n (cls t r<|r i):=my.2 ⟨rk.2 ⟨ht,rfl⟩,by grind⟩
 grind
theorem JI{bs:List bR}{n t:Nat}{r:Nat->Nat}{j:Nat}(hp:tF bs j=true)(ht:n+j<t):Hv bs n (cls t r<|r<|n+j)=true:=by
 unfold Hv;rw[cP];have:j∈gB bs n (cls t r<|r<|n+j):=dV.2 ⟨n+j,my.2 ⟨rk.2 ⟨ht,rfl⟩,by simp[hp]⟩,by omega⟩
 grind
structure IJ (bs:List bR) (ls:List cS) (pcs:List aF) (r:Nat->Nat) (gs:List cF) (ofP ofB kC:List Int) (kq:List dK):Prop where
 conn:Cn pcs.length bs.length (cK bs pcs) r
 gs:gs=gK (mu bs pcs.length (pcs.length+bs.length) r<|bV (pcs.length+bs.length) r) (uG bs pcs r) ls
 of:QI bs pcs.length bs.length r (bV (pcs.length+bs.length) r) ofP ofB
 kC:kC=ls.map (Eo bs pcs r)
 kq:kq=ls.map (λl=>(ql bs pcs l).getD ⟨false,0⟩)
theorem xO{bs:List bR}{pcs:List aF}(hp:pcs.length<=1073741824):∀l∈cK bs pcs,l.length<=1073741824/\∀x∈l,∃i:Nat,i<pcs.length/\x=((i:Nat):Int):=by
 grind [cK,Bu,iN,mo,rN,Ku]
theorem FX{bs:List bR}{ls:List cS}{pcs:List aF}(hb:kV bs)(hp:pcs.length<=1000000000)(hr:∀p∈pcs,p.gU.length<=1073741824)(hl:ls.length<=1073741824)(hN:4398046511104<=N):
  Ok (gV N bs ls pcs (cK bs pcs) [] [] [] []) (λx=>∃r,IJ bs ls pcs r x.1 x.2.1 x.2.2.1 x.2.2.2.1 x.2.2.2.2):=by
 have hbl:=hb.len;unfold gV;rw[wrap_add (by omega)];obtain⟨up0,u1,u2⟩:=xG (N:=N) (n:=pcs.length+bs.length) (by omega);refine IT u1 ?_;refine S3 (E1 (n:=pcs.length) (m:=bs.length) (by simp[cK]) (xO (by omega)) (by omega) (by omega) u2 hN) ?_;rintro up1⟨r,v1,v2⟩;refine IT (pD 0 (by omega))<|IT (pD 0 (by omega)) ?_
 obtain⟨up2,w1,_⟩:=MT (N:=N) v1 (by omega) (by omega);refine IT w1 ?_;refine S3 (Hx (bs:=bs) (n:=pcs.length) (m:=bs.length) (r:=r) rfl (by omega) (by omega) (op:=List.replicate pcs.length 0) (ob:=List.replicate bs.length 0) (by simp) (by simp) rfl) ?_;rintro⟨gs,ofP,ofB⟩⟨e1,I⟩;dsimp only at e1 I ⊢;subst e1;have hgl:(mu bs pcs.length (pcs.length+bs.length) r<|bV (pcs.length+bs.length) r).length<=pcs.length+bs.length:=by
  grind [vt,sN,bV,mm]
 refine S3 (T0 (λ(k:Nat)(st:List cF×List Int×List Int×List Int×List dK)=>st=(gK (mu bs pcs.length (pcs.length+bs.length) r<|bV (pcs.length+bs.length) r) (uG bs pcs r)<|ls.take k,ofP,ofB,(ls.take k).map<|Eo bs pcs r,(ls.take k).map<|λl=>(ql bs pcs l).getD ⟨false,0⟩)) (by omega) ?_<|λk st hk e=>?_) ?_
 ·congr 1;unfold gK;apply List.ext_getElem?;intro g;rw[List.getElem?_mapIdx];unfold mu;rw[jD]
  cases(live bs pcs.length (pcs.length+bs.length) r<|bV (pcs.length+bs.length) r)[g]? <;> rfl
 ·subst e;dsimp only;have hts:ls.take (k+1)=ls.take k++[ls[k]]:=eA hk;refine TU hk<|IT (LM hb (by omega) hr _) ?_
  dsimp only;refine S3 (P:=λx=>x=(gK (mu bs pcs.length (pcs.length+bs.length) r<|bV (pcs.length+bs.length) r) (uG bs pcs r)<|ls.take k++[ls[k]],Eo bs pcs r ls[k])) ?_ ?_
  ·cases hh:ql bs pcs ls[k]with
   |none=>
    refine SR ?_;have h1:uG bs pcs r ls[k]=none:=by unfold uG;rw[hh];rfl
    rw[yQ h1];unfold Eo;rw[h1]
   |some h=>
    have h1:uG bs pcs r ls[k]=some (gi bs pcs.length (pcs.length+bs.length) r<|r<|eC pcs.length h):=by unfold uG;rw[hh];rfl
    have h2:Eo bs pcs r ls[k]=((gi bs pcs.length (pcs.length+bs.length) r (r<|eC pcs.length h):Nat):Int):=by unfold Eo;rw[h1]
    obtain⟨q,q1,q2,q3⟩:=(Bw hh).num;have hix:eC pcs.length h<pcs.length+bs.length/\Hv bs pcs.length (cls (pcs.length+bs.length) r<|r<|eC pcs.length h)=true/\iW N ofP ofB h=some ((gi bs pcs.length (pcs.length+bs.length) r (r<|eC pcs.length h):Nat):Int):=by
     unfold iW eC;rw[q1,cI]
     cases hbo:h.bR with
     |true=>
      obtain⟨q4,q5⟩:=q2 hbo;rw[aM,aG rfl];refine⟨by omega,JI q5 (by omega),?_⟩;have:=I.bo q q4<|jV.2 ⟨by have:=v2.le (pcs.length+q) (by omega);omega,v2.rr _ (by omega)⟩
      rw[aG q5]at this;rw[cC this,aB]
     |false=>
      have q4:=q3 hbo;rw[aQ,aI (by simp)];refine⟨by omega,JH q4 (by omega),?_⟩;have:=I.pc q q4<|jV.2 ⟨by have:=v2.le q (by omega);omega,v2.rr _ (by omega)⟩
      rw[cC this,aB]
    obtain⟨i1,i2,i3⟩:=hix;have hgi:=JG (r:=r) (t:=pcs.length+bs.length) (bs:=bs) (n:=pcs.length) (h:=r<|eC pcs.length h) (jV.2 ⟨by have:=v2.le _ i1;omega,v2.rr _ i1⟩) i2;have hgx:gi bs pcs.length (pcs.length+bs.length) r (r<|eC pcs.length h)<(gK (mu bs pcs.length (pcs.length+bs.length) r<|bV (pcs.length+bs.length) r) (uG bs pcs r)<|ls.take k).length:=by
     rw[AF,vt];exact hgi.1
    rw[h2];dsimp only[Option.getD,Option.isSome];rw[aM];refine IT i3 ?_;generalize gi bs pcs.length (pcs.length+bs.length) r (r<|eC pcs.length h)=g at *;refine TU hgx<|IT (Bq _) ?_
    have hpl:((gK (mu bs pcs.length (pcs.length+bs.length) r<|bV (pcs.length+bs.length) r) (uG bs pcs r)<|ls.take k)[g]).gL.length<=ls.length:=by
     have:=mL (gs:=mu bs pcs.length (pcs.length+bs.length) r<|bV (pcs.length+bs.length) r) (lg:=uG bs pcs r) (ls:=ls.take k) (g:=g);rw[aP hgx]at this;have:=this.symm;rw[tS]at this;obtain⟨y,_,hy⟩:=this;rw[<-hy,dU];have:=rf (λl=>decide<|uG bs pcs r l=some g)<|ls.take k
     rw[dI]at this;omega
    refine TM (by simp;omega)<|TU hgx<|SR ?_
    rw[cI];congr 1;exact AG h1<|aP hgx
  ·rintro _ rfl;dsimp only;refine TM (by simp;omega)<|TM (by simp;omega)<|SR ?_
   rw[hts,fO,fO];rfl
 ·rintro st rfl;dsimp only;rw[fG];exact SR ⟨r,v2,rfl,I,rfl,rfl⟩
end
section
variable {N:Nat}
theorem Bx{p:aF}:∀{dJ:List (List<|List aA)}{k:Nat},p∈bY k dJ->∃(i:Nat)(ps:List (List aA))(q:List aA),dJ[i]? =some ps/\q∈ps/\p= ⟨((k+i:Nat):Int),q,aU q⟩
 | [],k,h=>by cases h
 |ps::dJ,k,h=>by
  rcases dD.1 h with h|h
  ·obtain⟨q,hq,rfl⟩:=dV.1 h;exact⟨0,ps,q,rfl,hq,rfl⟩
  ·obtain⟨i,ps',q,h1,h2,h3⟩:=Bx h;refine⟨i+1,ps',q,by grind,h2,?_⟩;rw[h3,show k+1+i=k+(i+1)by omega]
structure rl (a:gQ):Prop where
 xN:0<a.aK.length/\a.aK.length<=16
 Sp:∀r∈a.aK,jW r=0
 out:jW a.cJ=0
 many:a.cJ.length+(a.aK.map List.length).sum<=2000
 AH:jy a=0
 vu:mY a=0
theorem rl.gb{a:gQ}(h:rl a):kV a.aN:=⟨(ng h.AH).1,λb hb=>⟨((ng h.AH).2 b hb).1,((ng h.AH).2 b hb).2.1⟩⟩
theorem rl.cs{a:gQ}(h:rl a):∀r∈a.aK,r.length<=2000/\∀x∈r,D3 x:=λr hr=>Dz (rL.1<|h.Sp r hr).1
structure AJ (a:gQ) (kp:List (List aA)) (dJ:List (List (List aA))) (p:aF) (i:Nat) (r:List aH) (s:List aA) (ps:List (List aA)) (u:Nat->Nat) (j k:Nat):Prop where
 SP:a.aK[i]? =some r
 kp:kp[i]? =some s
 dJ:dJ[i]? =some ps
 dr:wh r (lk a.aN ((i:Nat):Int)) s
 pt:t8 s u ps
 at_:ps[j]? =some p.Set
 head:(bV (aU s).length u)[j]? =some k
 set:tB (oX (aU s) (aU s).length u k) p.Set
 lim:zD (vn r++vn (lk a.aN ((i:Nat):Int))) (j6 r++j6 (lk a.aN ((i:Nat):Int))) (p.Set.map cG)
 QJ:p.dN=((i:Nat):Int)
 QK:p.gU=aU p.Set
theorem LN{a:gQ}{kp:List (List aA)}{dJ:List (List<|List aA)}(hg:rl a)(hD:xM a.aK a.aN a.aK.length kp dJ){p:aF}(hp:p∈bY 0 dJ):∃i r s ps u j k,AJ a kp dJ p i r s ps u j k:=by
 obtain⟨i,ps,q,h1,h2,rfl⟩:=Bx hp;have hil:i<a.aK.length:=by have:=(bN.1 h1).1;rw[hD.Bt]at this;exact this
 have hc:a.aK[i]? =some a.aK[i]:=aP hil;have hd:kp[i]? =some (kp[i]'(by rw[hD.len];exact hil)):=aP _;have hdr:=hD.dr i _ _ hil hc hd;obtain⟨u,hu⟩:=hD.pt i _ ps hil hd h1;obtain⟨sx,sy⟩:=hdr.small (hg.cs _<|cL hil).2<|λx hx=>(tE hg.gb _ x hx).1
 obtain⟨j,k,g1,g2,g3,g4⟩:=DC hu hdr.can hdr.lim sx sy h2;exact⟨i,_,_,ps,u,j,k,hc,hd,h1,hdr,hu,g1,g2,g3,g4,by rw[jE],rfl⟩
theorem AJ.Hs{a:gQ}{kp:List (List aA)}{dJ:List (List<|List aA)}(hg:rl a){p:aF}{i:Nat}{r:List aH}{s:List aA}{ps:List (List aA)}{u:Nat->Nat}{j k:Nat}(h:AJ a kp dJ p i r s ps u j k):
  p.Set.length<=5000/\(∀b∈p.Set,b.Xs.length<=5000)/\p.gU.length<=5000*5000:=by
 have h1:=(hg.cs r<|fQ h.SP).1;have h2:=Bs hg.gb ((i:Nat):Int);rw[h.QK];exact yh (A:=5000) h.set.can h.lim (by grind [eL,tA]) (by grind [eL,mU])
def Hy(a0 a1 b0 b1:Int):Bool:=decide (b0<a1)&&decide (a0<b1)
def Hz(a b:aH):Bool:=Hy a.X0 a.X1 b.X0 b.X1&&Hy a.Y0 a.Y1 b.Y0 b.Y1
theorem DD{a0 a1 b0 b1:Int}(h1: -1000000<=a0/\a0<=1000000)(h2: -1000000<=a1/\a1<=1000000)(h3: -1000000<=b0/\b0<=1000000)(h4: -1000000<=b1/\b1<=1000000):∃n,m9 N a0 a1 b0 b1=some n/\0<=n/\(n=0↔Hy a0 a1 b0 b1=true):=by
 unfold m9 Hy
 grind [wrap,fP]
theorem OD{a b:aH}(h1:gl a=true)(h2:gl b=true):∃n,uM N a b=some n/\(n=0↔Hz a b=true):=by
 have b1:=ot h1;have b2:=ot h2;obtain⟨n,n1,n2,n3⟩:=DD (N:=N) (a0:=a.X0) (a1:=a.X1) (b0:=b.X0) (b1:=b.X1) (by omega) (by omega) (by omega) (by omega);obtain⟨m,m1,m2,m3⟩:=DD (N:=N) (a0:=a.Y0) (a1:=a.Y1) (b0:=b.Y0) (b1:=b.Y1) (by omega) (by omega) (by omega) (by omega);unfold uM Hz;rw[n1,aB,m1,aB]
 grind
def tG(x y:bR):Bool:=(decide (x.cR<=y.To)&&decide (y.cR<=x.To))&&Hz (xJ x) (xJ y)
def sm(a:gQ):Prop:=∃(i k:Nat)(x y:bR),k<i/\a.aN[i]? =some x/\a.aN[k]? =some y/\tG x y=true
noncomputable def yF(r:List aH):Option Int:=if jW r≠0 then some (jW r)else none
noncomputable def FY(a:gQ):Int:=if 2000<a.cJ.length+(a.aK.map List.length).sum then 2 else if jy a≠0 then jy a else if mY a≠0 then mY a else if sm a then 12 else 0
noncomputable def Kw(a:gQ):Int:=match a.aK.findSome? yF with|some e=>e|none=>if jW a.cJ≠0 then jW a.cJ else FY a
noncomputable def kG(a:gQ):Int:=if a.aK.length=0 then 9 else if 16<a.aK.length then 2 else Kw a
def OW(kp:List (List aA))(dJ:List (List<|List aA)):Prop:=(∀s∈kp,(aU s).length<=2000)/\(bY 0 dJ).length<=2000
abbrev DE:=List (List aH)×List aH×List bR×List cS×List (List aA)×List aF×List (List Int)×List cF×List Int×List Int×List Int×List dK
def NT(a:gQ)(x:Option DE×Int):Prop:=
 (kG a≠0/\x=(none,kG a))\/(kG a=0/\rl a/\¬sm a/\∃kp dJ,xM a.aK a.aN a.aK.length kp dJ/\
  ((¬OW kp dJ/\x=(none,2))\/(OW kp dJ/\∃r gs ofP ofB kC kq,IJ a.aN a.bJ (bY 0 dJ) r gs ofP ofB kC kq/\
   x=(some (a.aK,a.cJ,a.aN,a.bJ,kp,bY 0 dJ,cK a.aN (bY 0 dJ),gs,ofP,ofB,kC,kq),0))))
structure tH (a:gQ):Prop where
 cs:a.aK.length<=1048576
 each:∀r∈a.aK,r.length<=1048576
 out:a.cJ.length<=1048576
 bs:a.aN.length<=1048576
 ls:a.bJ.length<=1048576
 nm:DA a
theorem HA{a:gQ}(h:bk a<=1048576):tH a:=by
 rw[Lv]at h;have h1:=xh a.aK;have h2:=xh a.cJ;have h3:=xh a.aN;have h4:=xh a.bJ;refine⟨by omega,λr hr=>?_,by omega,by omega,by omega,λx hx=>?_⟩
 ·have:=It hr
  grind [xh]
 ·have:=It hx
  grind [Jt,Oz]
theorem Bz{a:gQ}(hs:tH a)(hN:4398046511104<=N):Ok (iA N a) (NT a):=by
 unfold iA;have pe:∀e:Int,e≠0->kG a=e->Ok (some ((none:Option DE),e)) (NT a):=λe he h=>SR<|.inl ⟨by omega,by rw[h]⟩
 have c1:=hs.cs;refine Tx (λh=>?_)<|λh=>?_
 ·grind [kG]
 have h0:¬a.aK.length=0:=by grind
 refine Tx (λh=>?_)<|λh=>?_
 ·grind [kG]
 have h1:¬16<a.aK.length:=by grind
 have pe1:kG a=Kw a:=by grind [kG]
 have hso:=hs.out;have sumle:∀k,k<=a.aK.length->((a.aK.take k).map List.length).sum<=k*1048576:=by
  intro k
  induction k with
  |zero=>intro _;simp
  |succ k ih=>
   intro hk;have:=ih (by omega);have h2:=hs.each _<|cL (show k<a.aK.length by omega)
   rw[eA (by omega),fO,List.sum_append]
   grind
 refine S3 (Vd (Go:=λs:Int=>s=((a.cJ.length+(a.aK.map List.length).sum:Nat):Int)/\∀r∈a.aK,jW r=0) (Rt:=λx:Option DE×Int=>∃e,e≠0/\x=(none,e)/\a.aK.findSome? yF=some e)
  (λ(k:Nat)(s:Int)=>s=((a.cJ.length+((a.aK.take k).map List.length).sum:Nat):Int)/\∀r∈a.aK.take k,jW r=0) (by omega) ⟨by simp,λr hr=>by simp at hr⟩ (λk s hk hI=>?_) (λs hI=>by grind)) ?_
 ·obtain⟨e,hI⟩:=hI;subst e;have hkx:a.aK[k]? =some a.aK[k]:=aP hk;have hts:a.aK.take (k+1)=a.aK.take k++[a.aK[k]]:=eA hk;have he:=hs.each _<|cL hk
  refine Tc hkx<|IT (xL (by omega) hN) ?_
  refine Tx (λh=>TW ?_)<|λh=>Tk ?_
  ·have h:jW a.aK[k]≠0:=by simpa using h
   refine⟨_,h,rfl,?_⟩
   grind [List.findSome?_eq_some_iff,yF,vG,List.take_append_drop]
  ·have h:jW a.aK[k]=0:=by simpa using h
   have:=sumle k (by omega);have hk16:k*1048576<=16*1048576:=Nat.mul_le_mul_right _ (by omega);refine⟨?_,λr hr=>?_⟩
   ·rw[wrap_add (by omega),hts,fO,List.sum_append];simp only[eY,List.map_nil,List.sum_cons,List.sum_nil];congr 1;omega
   ·rw[hts]at hr
    rcases dD.1 hr with hr|hr
    ·exact hI r hr
    ·simp at hr;subst hr;exact h
 intro o ho;refine Tv ho ?_ ?_
 rotate_left
 ·rintro x⟨e,he,rfl,hf⟩;exact pe e he (by rw[pe1];unfold Kw;rw[hf])
 rintro s⟨rfl,hreg⟩;have QQ:a.aK.findSome? yF=none:=List.findSome?_eq_none_iff.2 λr hr=>by unfold yF;rw[aI (by simpa using hreg r hr)]
 have pe2:kG a=if jW a.cJ≠0 then jW a.cJ else FY a:=by rw[pe1];unfold Kw;rw[QQ]
 refine IT (xL (by omega) hN) ?_;refine Tx (λh=>?_)<|λh=>?_
 ·have h:jW a.cJ≠0:=by simpa using h
  exact pe _ h (by rw[pe2,aG h])
 have hout:jW a.cJ=0:=by simpa using h
 have pe3:kG a=FY a:=by rw[pe2,aI (by simpa using hout)]
 refine Tx (λh=>?_)<|λh=>?_
 ·have h:2000<a.cJ.length+(a.aK.map List.length).sum:=by have:=of_decide_eq_true h;omega
  exact pe 2 (by omega) (by rw[pe3];unfold FY;rw[aG h])
 have hmany:¬2000<a.cJ.length+(a.aK.map List.length).sum:=by have:=of_decide_eq_false h;omega
 have hbs:=hs.bs;have hls:=hs.ls;refine IT (El (by omega) (by omega) (by omega)) ?_;refine Tx (λh=>?_)<|λh=>?_
 ·have h:jy a≠0:=by simpa using h
  exact pe _ h (by rw[pe3];unfold FY;rw[aI hmany,aG h])
 have hbo:jy a=0:=by simpa using h
 refine IT (Em (by omega) (by omega) hs.nm (by omega)) ?_;refine Tx (λh=>?_)<|λh=>?_
 ·have h:mY a≠0:=by simpa using h
  exact pe _ h (by rw[pe3];unfold FY;rw[aI hmany,aI (by simpa using hbo),aG h])
 have hla:mY a=0:=by simpa using h
 have hg:rl a:=⟨by omega,hreg,hout,by omega,hbo,hla⟩;have pe4:kG a=if sm a then 12 else 0:=by rw[pe3];unfold FY;rw[aI hmany,aI (by simpa using hbo),aI (by simpa using hla)]
 refine S3 (Vd (Go:=λ_:Unit=>¬sm a) (Rt:=λx:Option DE×Int=>x=(none,12)/\sm a)
  (λ(k:Nat)(_:Unit)=>∀(i j:Nat)(x y:bR),i<k->j<i->a.aN[i]? =some x->a.aN[j]? =some y->¬tG x y=true) (by omega) (λi j x y h=>by omega) (λk s hk hI=>?_) (λs hI=>?_)) ?_
 ·have hkx:a.aN[k]? =some a.aN[k]:=aP hk;refine Tc hkx<|IT (tj _ k (by omega)) ?_
  have hgk:=hg.gb.ok _<|cL hk
  refine S3 (Vd (Go:=λ_:Unit=>∀(j:Nat)(y:bR),j<k->a.aN[j]? =some y->¬tG a.aN[k] y=true) (Rt:=λx:Option DE×Int=>x=(none,12)/\sm a)
   (λ(t:Nat)(_:Unit)=>∀(j:Nat)(y:bR),j<t->a.aN[j]? =some y->¬tG a.aN[k] y=true) (by rw[dI];omega) (λj y h=>by omega) (λt s ht hI2=>?_) (λs hI2 j y hj hy=>hI2 j y (by rw[dI];omega) hy)) ?_
  ·have htk:t<k:=by rw[dI]at ht;omega
   have htx:(a.aN.take k)[t]? =some a.aN[t]:=by rw[List.getElem?_take_of_lt htk];exact aP (by omega)
   have hgt:=hg.gb.ok _<|cL (show t<a.aN.length by omega)
   refine Tc htx ?_;refine IT (x:=tG a.aN[k] a.aN[t]) ?_ ?_
   ·unfold tG
    cases hc:(decide (a.aN[k].cR<=a.aN[t].To)&&decide (a.aN[t].cR<=a.aN[k].To))with
    |false=>rfl
    |true=>
     obtain⟨n,n1,n2⟩:=OD (N:=N) hgk.2 hgt.2;rw[aM,oq hgk.1,aB,oq hgt.1,aB,n1,aB,Bool.true_and];congr 1;rw[gS,beq_iff_eq];exact n2
   ·refine Tx (λh=>TW ⟨rfl,k,t,_,_,htk,hkx,aP (by omega),h⟩)<|λh=>Tk λj y hj hy=>?_
    by_cases e:j<t
    ·exact hI2 j y e hy
    ·have:j=t:=by omega
     subst this;rw[aP (by omega)]at hy;injection hy with hy
     rw[<-hy,h];simp
  ·intro o ho;refine Tv ho (λs hI2=>Tk λi j x y hi hj hx hy=>?_)<|λx hx=>TW hx
   by_cases e:i<k
   ·exact hI i j x y e hj hx hy
   ·have:i=k:=by omega
    subst this;rw[hkx]at hx;injection hx with hx
    rw[<-hx];exact hI2 j y hj hy
 ·rintro⟨i,j,x,y,hj,hx,hy,hc⟩;exact hI i j x y (bN.1 hx).1 hj hx hy hc
 intro o ho;refine Tv ho ?_ ?_
 rotate_left
 ·rintro x⟨rfl,hc⟩;exact pe 12 (by omega) (by rw[pe4,aG hc])
 intro _ hncl;have pe5:kG a=0:=by rw[pe4,aI hncl]
 refine S3 (IG (N:=N) (by omega) hg.cs hg.gb hN) ?_;rintro⟨okk,kp,pcs⟩⟨dJ,D,e1,e2⟩;dsimp only at D e1 e2 ⊢;subst e1;refine Tx (λh=>SR<|.inr ⟨pe5,hg,hncl,kp,dJ,D, .inl ⟨λhf=>?_,rfl⟩⟩)<|λh=>?_
 ·have:=e2.2 hf;rw[this]at h;cases h
 ·have hf:OW kp dJ:=e2.1 (by cases okk <;> simp_all);have hpr:∀p∈bY 0 dJ,p.gU.length<=1073741824:=λp hp=>by
   obtain⟨i,r,s,ps,u,j,k,hP⟩:=LN hg D hp;have:=(hP.Hs hg).2.2;omega
  have hf2:=hf.2;refine IT (LL hg.gb (by omega) hpr) ?_;refine S3 (FX (N:=N) hg.gb (by omega) hpr (by omega) hN) ?_;rintro⟨gs,ofP,ofB,kC,kq⟩⟨r,hC⟩;exact SR<|.inr ⟨pe5,hg,hncl,kp,dJ,D, .inr ⟨hf,r,gs,ofP,ofB,kC,kq,hC,rfl⟩⟩
end
section
variable {N:Nat}
theorem JJ{w:Nat}{g:Nat->Nat}{a:Nat}:∀{ks:List Nat},ks.Nodup->a∈ks->(ks.map<|λk=>(if a=k then w else 0)+g k).sum=w+(ks.map g).sum
 | [],_,h=>by cases h
 |k::ks,hn,h=>by
  have hn':=List.nodup_cons.1 hn;simp only[eY,List.sum_cons]
  by_cases e:a=k
  ·subst e;rw[aG rfl];have:ks.map (λk=>(if a=k then w else 0)+g k)=ks.map g:=List.map_congr_left λx hx=>by
    rw[aI<|λe=>hn'.1 (by rw[e];exact hx),jE]
   rw[this];omega
  ·rw[aI e,JJ hn'.2 (by rcases eF.1 h with h|h;exact absurd h e;exact h)];omega
theorem HB{α:Type}{ks:List Nat}(hn:ks.Nodup)(f w:α->Nat):∀{l:List α},(∀x∈l,f x∈ks)->(ks.map<|λk=>((l.filter<|λx=>decide<|f x=k).map w).sum).sum=(l.map w).sum
 | [],_=>by
  have:∀ks:List Nat,(ks.map<|λ_=>0).sum=0:=λks=>by
   induction ks with
   |nil=>rfl
   |cons k ks ih=>simp only[eY,List.sum_cons,ih]
  simpa using this ks
 |x::l,h=>by
  have ih:=HB hn f w (l:=l) λy hy=>h y<|kg _ hy
  have:ks.map (λk=>(((x::l).filter<|λx=>decide<|f x=k).map w).sum)=ks.map (λk=>(if f x=k then w x else 0)+((l.filter<|λx=>decide<|f x=k).map w).sum):=List.map_congr_left λk _=>by
   rw[List.filter_cons]
   by_cases e:f x=k
   ·rw[aG (by simpa using e),aG e,eY,List.sum_cons]
   ·rw[aI (by simpa using e),aI e,jE]
  rw[this,JJ hn<|h x (by simp),ih,eY,List.sum_cons]
def JK(s:List aA):jX:=match s with|b::_=>⟨b.Xs.headD 0,b.Y0⟩| []=>⟨0,0⟩
theorem AJ.ne{a:gQ}{kp:List (List aA)}{dJ:List (List<|List aA)}{p:aF}{i:Nat}{r:List aH}{s:List aA}{ps:List (List aA)}{u:Nat->Nat}{j k:Nat}(h:AJ a kp dJ p i r s ps u j k):p.Set≠[]:=by
 intro e;have hh:=jV.1<|fQ h.head
 have hx:(aU s)[k]? =some (aU s)[k]:=aP hh.1;have hm:(aU s)[k]∈oX (aU s) (aU s).length u k:=mV.2 ⟨k,hh.1,hh.2,hx⟩;obtain⟨b,hb,q,hq,hr⟩:=sY<|fQ hx
 have hbm:cG b∈s.map cG:=dV.2 ⟨b,hb,rfl⟩;have hq1:=Iz (h.dr.can.each _ hbm).2.2.1 q hq;have hb1:=(h.dr.can.each _ hbm).1;have hc:=h.set.cover q.1 b.Y0;rw[e]at hc;have:uE (oX (aU s) (aU s).length u k) q.1 b.Y0=true:=kL.2 ⟨_,hm,by rw[hr];exact⟨⟨Int.le_refl _,hq1⟩,Int.le_refl _,hb1⟩⟩;rw[this]at hc
 cases hc
structure kN (a:gQ) (kp:List (List aA)) (dJ:List (List (List aA))) (r:Nat->Nat) (gs:List cF) (ofP ofB kC:List Int) (kq:List dK):Prop where
 yG:rl a
 SQ:¬sm a
 dr:xM a.aK a.aN a.aK.length kp dJ
 xN:OW kp dJ
 NU:IJ a.aN a.bJ (bY 0 dJ) r gs ofP ofB kC kq
inductive OE (N:Nat) (a:gQ):Prop
 |err (e:Int) (he:e≠0) (h:iA N a=some (none,e))
 |ok {kp:List (List aA)} {dJ:List (List (List aA))} {r:Nat->Nat} {gs:List cF} {ofP ofB kC:List Int} {kq:List dK} (b:kN a kp dJ r gs ofP ofB kC kq)
  (h:iA N a=some (some (a.aK,a.cJ,a.aN,a.bJ,kp,bY 0 dJ,cK a.aN<|bY 0 dJ,gs,ofP,ofB,kC,kq),0))
theorem opened{a:gQ}(hs:tH a)(hN:4398046511104<=N):OE N a:=by
 obtain⟨x,hx,hI⟩:=Bz (N:=N) hs hN
 rcases hI with⟨he,rfl⟩|⟨_,hg,hcl,kp,dJ,D,⟨_,rfl⟩|⟨hf,r,gs,ofP,ofB,kC,kq,hC,rfl⟩⟩
 ·exact .err _ he hx
 ·exact .err 2 (by omega) hx
 ·exact .ok ⟨hg,hcl,D,hf,hC⟩ hx
end
section
variable {S R:Type}
theorem TJ{body:S->Option (Fl S R)}{N n:Nat}{s:S}(ι:S->Int)(Inv:Nat->S->Prop){Go:S->Prop}{Rt:R->Prop}
  (h1:∀k s,k<n->ι s=((k:Nat):Int)->Inv k s->Ok (body s) (Mf (λs'=>ι s'=((k+1:Nat):Int)/\Inv (k+1) s') Go Rt))
  (h2:∀s,ι s=((n:Nat):Int)->Inv n s->Ok (body s) (Mf (λ_=>False) Go Rt))
  {k0:Nat} (hk:k0<=n) (hi:ι s=((k0:Nat):Int)) (h0:Inv k0 s) (hn:n<N):Ok (Gk.jg body N s) (QD Go Rt):=by
 refine T4 (λs=>∃k:Nat,k<=n/\ι s=((k:Nat):Int)/\Inv k s) (λs=>n -(ι s).toNat) ?_ ⟨k0,hk,hi,h0⟩ (by omega);rintro s⟨k,hk,e,hI⟩
 by_cases hlt:k<n
 ·refine(h1 k s hlt e hI).mono ?_;rintro(s'|s'|r)hp
  ·have hp1:ι s'=((k+1:Nat):Int):=hp.1;exact⟨⟨k+1,hlt,hp.1,hp.2⟩,by omega⟩
  ·exact hp
  ·exact hp
 grind
theorem jK{k n:Nat}(h:k<n):decide (((k:Nat):Int)<((n:Nat):Int))=true:=bO (by omega)
theorem nz(n:Nat):decide (((n:Nat):Int)<((n:Nat):Int))=false:=bQ (by omega)
theorem AK{k n:Nat}(h:n<=k):decide (((k:Nat):Int)<((n:Nat):Int))=false:=bQ (by omega)
end
theorem sO{α:Type}{p:α->Bool}:∀{l:List α}{k:Nat},(∀(j:Nat)x,j<k->l[j]? =some x->p x=true)->(∀x,l[k]? =some x->p x=false)->l.takeWhile p=l.take k/\l.dropWhile p=l.drop k
 | [],k,_,_=>by simp
 |y::l,0,_,h2=>by
  have:=h2 y rfl;rw[List.takeWhile_cons,List.dropWhile_cons,this];simp
 |y::l,k+1,h1,h2=>by
  have h:=h1 0 y (by omega) rfl;obtain⟨e1,e2⟩:=sO (l:=l) (k:=k) (λj x hj hx=>h1 (j+1) x (by omega) hx)<|λx hx=>h2 x hx
  rw[List.takeWhile_cons,List.dropWhile_cons,h,aG rfl,aG rfl,e1,e2];simp
section
variable {N:Nat}
def sP(l:List Int)(c:Int):List Int:=if c∈l then l else l.takeWhile (λx=>decide<|x<c)++c::l.dropWhile (λx=>decide<|x<c)
theorem AL(l:List Int)(c:Int):(sP l c).length<=l.length+1:=by
 grind [sP,decide,eL,List.takeWhile_append_dropWhile,fq]
theorem DF{l:List Int}{c x:Int}:x∈sP l c↔x∈l\/x=c:=by
 grind [sP,decide,List.takeWhile_append_dropWhile]
theorem MV{l:List Int}(h:j7 l)(c:Int):∀x∈l.dropWhile (λx=>decide<|x<c),c<=x:=by
 induction l with
 |nil=>simp
 |cons a l ih=>
  rw[List.dropWhile_cons]
  by_cases ha:a<c
  ·rw[aG (by grind)];exact ih h.tail
  ·rw[aI (by grind)];intro x hx
   rcases eF.1 hx with rfl|hx
   ·omega
   ·have:=h.head x hx;omega
theorem MW(l:List Int)(c:Int):∀x∈l.takeWhile (λx=>decide<|x<c),x<c:=by
 induction l with
 |nil=>simp
 |cons a l ih=>
  rw[List.takeWhile_cons]
  grind
theorem vv{l:List Int}{c:Int}(h:j7 l):j7 (sP l c):=by
 unfold sP;split
 ·exact h
 ·rename_i hc;have hs:=h;rw[<-List.takeWhile_append_dropWhile (p:=λx=>decide<|x<c) (l:=l)]at hs;unfold j7 at hs ⊢;rw[List.pairwise_append]at hs ⊢;refine⟨hs.1,pz.2 ⟨λx hx=>?_,hs.2.1⟩,λx hx y hy=>?_⟩
  ·have h1:=MV h c x hx
   grind [List.takeWhile_append_dropWhile,decide,List.mem_append_right]
  ·have h1:=MW l c x hx
   grind
def ly(l:List Int):List Int:=l.foldl sP []
theorem wj:∀(cs l:List Int),j7 l->j7 (cs.foldl sP l)/\(∀x,x∈cs.foldl sP l↔x∈l\/x∈cs)/\(cs.foldl sP l).length<=l.length+cs.length
 | [],l,h=>⟨h,λx=>by simp,by simp⟩
 |c::cs,l,h=>by
  obtain⟨h1,h2,h3⟩:=wj cs (sP l c)<|vv h
  refine⟨h1,λx=>?_,?_⟩
  ·rw[List.foldl_cons,h2,DF,eF,or_assoc]
  ·rw[List.foldl_cons,fq];have:=AL l c;omega
theorem oO(l:List Int):j7 (ly l):=(wj l [] kH).1
theorem E4{l:List Int}{x:Int}:x∈ly l↔x∈l:=by
 have:=(wj l [] kH).2.1 x
 grind [ly]
theorem vx(l:List Int):(ly l).length<=l.length:=by
 have:=(wj l [] kH).2.2
 grind [ly]
theorem xP(l:List Int)(c d:Int):ly (l++[c,d])=sP (sP (ly l) c) d:=by simp[ly,List.foldl_append]
theorem IK{a b:Nat}(h:a+b<=4611686018427387904):wrap .i64 (Int.tdiv (wrap .i64<|((a:Nat):Int)+((b:Nat):Int)) 2)=(((a+b) / 2:Nat):Int):=by
 grind [wrap_add,Int.tdiv_eq_ediv_of_nonneg,fP]
theorem yi{l:List Int}{c:Int}(h:j7 l)(hl:l.length<=1099511627776)(hN:4398046511104<=N):fV N l c=some (sP l c):=by
 refine TT ?_;unfold fV
 refine S3 (T4 (Go:=λst:Int×Int=>∃a:Nat,st.1=((a:Nat):Int)/\a<=l.length/\(∀(j:Nat)x,j<a->l[j]? =some x->x<c)/\(∀(j:Nat)x,a<=j->l[j]? =some x->c<=x)) (Rt:=λ_=>True)
  (λst=>∃a b:Nat,st=(((a:Nat):Int),((b:Nat):Int))/\a<=b/\b<=l.length/\(∀(j:Nat)x,j<a->l[j]? =some x->x<c)/\(∀(j:Nat)x,b<=j->l[j]? =some x->c<=x))
  (λst=>(st.2 - st.1).toNat) ?_ ⟨0,l.length,rfl,by omega,cH _,λj x hj=>by omega,λj x hj hx=>by grind⟩ (by omega)) ?_
 ·rintro st⟨a,b,rfl,hab,hb,h1,h2⟩;dsimp only
  by_cases hlt:a<b
  ·have hm:(a+b) / 2<l.length:=by omega
   have hx:l[(a+b) / 2]? =some l[(a+b) / 2]:=aP hm;rw[jK hlt,aM,IK (by omega)];refine Tc hx ?_
   by_cases hc:l[(a+b) / 2]<c
   ·rw[bO hc,aM,aB];refine Tk ⟨⟨(a+b) / 2+1,b,?_,by omega,hb,λj x hj hx'=>?_,h2⟩,?_⟩
    ·rw[bI (by omega)]
    ·by_cases e:j=(a+b) / 2
     ·grind
     ·have:=h.lt (i:=j) (j:=(a+b) / 2) (by omega) hx' hx;omega
    ·rw[bI (by omega)];omega
   ·rw[bQ hc,aQ,aB];refine Tk ⟨⟨a,(a+b) / 2,rfl,by omega,by omega,h1,λj x hj hx'=>?_⟩,by simp only;omega⟩
    by_cases e:j=(a+b) / 2
    ·subst e;rw[hx]at hx';injection hx' with hx';omega
    ·have:=h.lt (i:=(a+b) / 2) (j:=j) (by omega) hx hx';omega
  ·rw[AK (by omega),aQ];exact Tu ⟨a,rfl,by omega,h1,λj x hj hx=>h2 j x (by omega) hx⟩
 intro o ho;refine Tv ho ?_<|λr hr=>r.elim
 rintro⟨st1,st2⟩⟨a,ha,hle,h1,h2⟩;dsimp only at ha ⊢;subst ha;have hin:l[a]? =some c->sP l c=l:=λhx=>by unfold sP;rw[aG<|fQ hx]
 have hout:l[a]? ≠some c->sP l c=l.take a++c::l.drop a:=λhx=>by
  have hc:c∉l:=λhc=>by
   obtain⟨j,hj⟩:=dW hc
   by_cases h3:j<a
   ·have:=h1 j c h3 hj;omega
   ·by_cases e:j=a
    ·subst e;exact hx hj
    ·have h5:a<l.length:=by have:=(bN.1 hj).1;omega
     have h6:l[a]? =some l[a]:=aP h5;have h7:=h.lt (i:=a) (j:=j) (by omega) h6 hj;have h8:=h2 a _ (cH _) h6;omega
  unfold sP;rw[aI hc];obtain⟨e1,e2⟩:=sO (p:=λx=>decide<|x<c) (l:=l) (k:=a) (λj x hj hx'=>bO<|h1 j x hj hx')<|λx hx'=>bQ (by have:=h2 a x (cH _) hx';omega)
  rw[e1,e2]
 have hrest:l[a]? ≠some c->Ok ((uj l 0 ((a:Nat):Int)).bind λx49=>(app 8 ([]:List Int) x49).bind λx51=>(app 8 x51 ([c]:List Int)).bind λx54=>(uj l ((a:Nat):Int) ((l.length:Nat):Int)).bind λx56=>(app 8 x54 x56).bind λx58=>some x58) (λr=>r=sP l c):=λhx=>by
  have htk:(l.take a).length=a:=by rw[dI];omega
  refine IT (tj l a hle)<|TM (by simp only[List.length_nil];omega)<|TM (by rw[List.nil_append];simp only[fq,List.length_nil];omega)<|IT (rB l a hle)<|TM ?_<|SR ?_
  ·rw[List.nil_append,eL,l3];simp only[fq,List.length_nil];omega
  ·rw[hout hx];simp
 by_cases hlt:a<l.length
 ·have hx:l[a]? =some l[a]:=aP hlt;rw[jK hlt,aM,cC hx,aB,aB];refine Tx (λhb=>SR ?_)<|λhb=>hrest ?_
  ·rw[beq_iff_eq]at hb;rw[hin (by rw[hx,hb])]
  ·rw[beq_eq_false_iff_ne]at hb;rw[hx];intro e;injection e with e;exact hb e
 ·rw[AK (by omega),aQ,aB,aQ];exact hrest (by rw[List.getElem?_eq_none (by omega)];intro e;cases e)
theorem HC(l m:List aH):j6 (l++m)=j6 l++j6 m:=List.flatMap_append
theorem DG{l:List aH}(hl:l.length<=268435456)(hN:4398046511104<=N):iE N l=some (ly<|j6 l):=by
 refine TT ?_;unfold iE;refine S3 (TJ (n:=l.length) (λs=>s.2) (λk s=>s.1=ly (j6<|l.take k)) (Go:=λs=>s.1=ly (j6 l)) (Rt:=λ_=>False) ?_ ?_ (cT _) rfl rfl (by omega)) ?_
 ·rintro k⟨out,i⟩hk e hI;dsimp only at e hI ⊢;subst e;subst hI;rw[jK hk,aM];have hx:l[k]? =some l[k]:=aP hk;have h1:=vx<|j6<|l.take k
  rw[mU,dI]at h1;have h2:=AL (ly<|j6<|l.take k) l[k].Y0;refine Tc hx<|Tc hx<|IT (yi (oO _) (by omega) hN)<|IT (yi (vv<|oO _) (by omega) hN)<|Tk ⟨bI (by omega),?_⟩
  rw[eA hk,HC];exact(xP _ _ _).symm
 ·rintro⟨out,i⟩e hI;dsimp only at e hI ⊢;subst e;rw[nz,aQ];exact Tu (by rw[fG]at hI;exact hI)
 intro o ho;exact Tv ho (λs hs=>SR hs)<|λr hr=>hr.elim
def sp(s:aD):Int×Int:=(s.from_,s.to)
theorem LO:∀{l m:List aD},l.map sp=m.map sp->l=m
 | [],[],_=>rfl
 | [],_::_,h=>by cases h
 |_::_,[],h=>by cases h
 |⟨a,b⟩::l,⟨c,d⟩::m,h=>by
  rw[eY,eY]at h;injection h with h1 h2
  unfold sp at h1;injection h1 with h3 h4
  simp only at h3 h4;rw[h3,h4,LO h2]
theorem yj(a b:Int):(if b<a then b else a)=min a b:=by omega
theorem yk(a b:Int):(if a<b then b else a)=max a b:=by omega
theorem E5{l:List aD}{s:aD}(hl:l.length<=268435456)(hN:4398046511104<=N):Ok (iZ N l s) (λr=>r.map sp=mH (l.map sp) (sp s)):=by
 unfold iZ;have hget:∀(j:Nat)(x:Int×Int),(l.map sp)[j]? =some x->∃y,l[j]? =some y/\x=sp y:=λj x h=>by
  grind
 refine S3 (T4 (Go:=λst:List aD×Int=>∃k:Nat,st=(l.take k,((k:Nat):Int))/\k<=l.length/\(∀(j:Nat)x,j<k->l[j]? =some x->x.to<s.from_)/\(∀x,l[k]? =some x->¬x.to<s.from_)) (Rt:=λ_=>False)
  (λst=>∃k:Nat,st=(l.take k,((k:Nat):Int))/\k<=l.length/\∀(j:Nat)x,j<k->l[j]? =some x->x.to<s.from_) (λst=>l.length - st.2.toNat) ?_ ⟨0,by simp,by omega,λj x hj=>by omega⟩ (by simp;omega)) ?_
 ·rintro st⟨k,rfl,hk,hI⟩;dsimp only
  by_cases hlt:k<l.length
  ·have hx:l[k]? =some l[k]:=aP hlt;rw[jK hlt,aM,cC hx,aB,aB];refine Tx (λhb=>?_)<|λhb=>?_
   ·have hb:=of_decide_eq_true hb;refine IT rfl<|TM ?_<|Tk ⟨⟨k+1,?_,hlt,?_⟩,?_⟩
    ·grind
    all_goals grind [bI,eA,cI]
   grind [of_decide_eq_false,Tu]
  grind [AK,aB,Tu,bN]
 intro o ho;refine Tv ho ?_<|λr hr=>hr.elim
 rintro st⟨k,rfl,hk,hI,hE⟩;dsimp only
 obtain⟨e1,e2⟩:=sO (p:=λa:Int×Int=>decide (a.2<(sp s).1)) (l:=l.map sp) (k:=k) (λj x hj hx=>by
  obtain⟨y,hy,rfl⟩:=hget j x hx
  exact bO (hI j y hj hy)) (λx hx=>by
  obtain⟨y,hy,rfl⟩:=hget k x hx
  exact bQ (hE y hy))
 refine S3 (T4 (Go:=λst:aD×Int=>∃i:Nat,st.2=((i:Nat):Int)/\i<=l.length/\lB (sp s) ((l.drop k).map sp)=(sp st.1,(l.drop i).map sp)) (Rt:=λ_=>False)
  (λst=>∃i:Nat,st.2=((i:Nat):Int)/\i<=l.length/\lB (sp s) ((l.drop k).map sp)=lB (sp st.1) ((l.drop i).map sp)) (λst=>l.length - st.2.toNat) ?_ ⟨k,rfl,hk,rfl⟩ (by omega)) ?_
 ·rintro⟨s',i'⟩⟨i,e,hi,hm⟩;dsimp only at e hm ⊢;subst e
  by_cases hlt:i<l.length
  ·have hx:l[i]? =some l[i]:=aP hlt;have hd:(l.drop i).map sp=sp l[i]::(l.drop<|i+1).map sp:=by rw[vG hlt,eY]
   rw[jK hlt,aM,cC hx,aB,aB];refine Tx (λhb=>?_)<|λhb=>?_
   ·have hb:=of_decide_eq_true hb;refine IT rfl<|IT rfl<|Tk ⟨⟨i+1,bI (by omega),hlt,?_⟩,?_⟩
    ·rw[hm,hd]
     conv=>lhs;unfold lB
     rw[aG (show(sp l[i]).1<=(sp s').2 from hb),yj,yk];rfl
    ·dsimp only;rw[bI (by omega)];simp only[cI];omega
   ·have hb:=of_decide_eq_false hb;refine Tu ⟨i,rfl,hi,?_⟩;rw[hm,hd]
    conv=>lhs;unfold lB
    rw[aI (show ¬(sp l[i]).1<=(sp s').2 from hb)]
  ·rw[AK (by omega),aQ,aB,aQ];refine Tu ⟨i,rfl,hi,?_⟩;rw[hm,List.drop_eq_nil_of_le (by omega)];rfl
 intro o ho;refine Tv ho ?_<|λr hr=>hr.elim
 rintro⟨s',i'⟩⟨i,e,hi,hm⟩;dsimp only at e hm ⊢;subst e;refine TM ?_<|IT (rB l i hi)<|TM ?_<|SR ?_
 ·rw[dI];simp only[fq,List.length_nil];omega
 ·rw[eL,dI,l3];simp only[fq,List.length_nil];omega
 ·unfold mH;rw[e1,e2,<-List.map_take,<-List.map_drop,hm];simp
theorem DH:∀(l:List (Int×Int))(s:Int×Int),(lB s l).2.length<=l.length
 | [],s=>cH _
 |a::l,s=>by
  unfold lB;split
  ·have:=DH l (min s.1 a.1,max s.2 a.2);rw[fq];omega
  ·exact cH _
theorem B3(l:List (Int×Int))(s:Int×Int):(mH l s).length<=l.length+1:=by
 grind [mH,DH,decide,eL,List.takeWhile_append_dropWhile,fq]
def kr(y:Int)(out:List (Int×Int))(r:aH):List (Int×Int):=if r.Y0<=y/\y<r.Y1 then mH out (r.X0,r.X1)else out
def mM(l:List aH)(y:Int):List (Int×Int):=l.foldl (kr y) []
theorem Kx(l:List aH)(r:aH)(y:Int):mM (l++[r]) y=kr y (mM l y) r:=by simp[mM,List.foldl_append]
theorem B4(y:Int):∀(l:List aH)(out:List (Int×Int)),(l.foldl (kr y) out).length<=out.length+l.length
 | [],out=>by simp
 |r::l,out=>by
  rw[List.foldl_cons,fq];have h1:=B4 y l<|kr y out r
  have h2:(kr y out r).length<=out.length+1:=by
   unfold kr;split
   ·exact B3 _ _
   ·omega
  omega
theorem vz(l:List aH)(y:Int):(mM l y).length<=l.length:=by
 grind [B4,mM]
theorem AM(y:Int):∀(l:List aH)(out:List (Int×Int)),(∀r∈l,r.X0<r.X1)->j7 (dO out)->j7 (dO<|l.foldl (kr y) out)/\∀x,j5 (l.foldl (kr y) out) x=(j5 out x||uE l x y)
 | [],out,_,h=>⟨h,λx=>by simp[uE]⟩
 |r::l,out,hr,h=>by
  have h0:=hr r (by simp);rw[List.foldl_cons];have hst:j7 (dO<|kr y out r)/\∀x,j5 (kr y out r) x=(j5 out x||((decide (r.X0<=x)&&decide (x<r.X1))&&(decide (r.Y0<=y)&&decide (y<r.Y1)))):=by
   unfold kr
   by_cases hy:r.Y0<=y/\y<r.Y1
   ·rw[aG hy];obtain⟨j1,j2⟩:=Aw (l:=out) (s:=(r.X0,r.X1)) h h0;refine⟨j1,λx=>?_⟩;rw[j2,bO hy.1,bO hy.2,Bool.or_comm];simp
   ·rw[aI hy];refine⟨h,λx=>?_⟩;have:(decide (r.Y0<=y)&&decide (y<r.Y1))=false:=by rw[Bool.and_eq_false_iff,decide_eq_false_iff_not,decide_eq_false_iff_not];omega
    rw[this];simp
  obtain⟨m1,m2⟩:=AM y l (kr y out r) (λr' hr'=>hr r'<|kg _ hr') hst.1;refine⟨m1,λx=>?_⟩;rw[m2,hst.2,Bool.or_assoc];rfl
theorem yl{l:List aH}(h:∀r∈l,r.X0<r.X1)(y:Int):j7 (dO<|mM l y)/\∀x,j5 (mM l y) x=uE l x y:=by
 obtain⟨h1,h2⟩:=AM y l [] h kH
 grind [j5,mM]
theorem yR{y y':Int}:∀(l:List aH)(out:List (Int×Int)),(∀r∈l,(r.Y0<=y/\y<r.Y1)↔(r.Y0<=y'/\y'<r.Y1))->l.foldl (kr y) out=l.foldl (kr y') out
 | [],out,_=>rfl
 |r::l,out,h=>by
  rw[List.foldl_cons,List.foldl_cons,yR l _<|λr' hr'=>h r'<|kg _ hr'];congr 1;unfold kr;have:=h r (by simp)
  by_cases h1:r.Y0<=y/\y<r.Y1
  ·rw[aG h1,aG<|this.1 h1]
  ·rw[aI h1,aI<|λh2=>h1<|this.2 h2]
theorem IL{l:List aH}{y y':Int}(h:∀r∈l,(r.Y0<=y/\y<r.Y1)↔(r.Y0<=y'/\y'<r.Y1)):mM l y=mM l y':=yR l [] h
theorem LP{l:List aH}{y:Int}(h:∀r∈l,¬(r.Y0<=y/\y<r.Y1)):mM l y= []:=by
 have:∀(l:List aH)(out:List (Int×Int)),(∀r∈l,¬(r.Y0<=y/\y<r.Y1))->l.foldl (kr y) out=out:=by
  intro l
  induction l with
  |nil=>simp
  |cons r l ih=>
   grind [kg,kr]
 exact this l [] h
theorem FZ{l:List aH}{y:Int}(hl:l.length<=134217728)(hN:4398046511104<=N):Ok (iB N l y) (λr=>r.map sp=mM l y):=by
 unfold iB;refine S3 (TJ (n:=l.length) (λs=>s.2) (λk s=>s.1.map sp=mM (l.take k) y) (Go:=λs=>s.1.map sp=mM l y) (Rt:=λ_=>False) ?_ ?_ (cT _) rfl rfl (by omega)) ?_
 ·rintro k⟨out,i⟩hk e hI;dsimp only at e hI ⊢;subst e;rw[jK hk,aM];have hx:l[k]? =some l[k]:=aP hk;have hlen:out.length<=l.length:=by
   grind [vz,dU,dI]
  rw[cC hx,aB];have hst:mM (l.take<|k+1) y=kr y (mM (l.take k) y) l[k]:=by rw[eA hk,Kx]
  have hno:¬(l[k].Y0<=y/\y<l[k].Y1)->Ok ((some out).bind λs141=>some (Fl.nx (s141,wrap .i64<|((k:Nat):Int)+1):Fl (List aD×Int) Empty)) (Mf (λs'=>s'.2=((k+1:Nat):Int)/\s'.1.map sp=mM (l.take<|k+1) y) (λs=>s.1.map sp=mM l y)<|λ_=>False):=λhy=>by
   grind [aB,Tk,bI,kr]
  by_cases h1:l[k].Y0<=y
  ·rw[bO h1,aM,aB,aB]
   by_cases h2:y<l[k].Y1
   ·rw[bO h2,aM];refine S3 (P:=λr:List aD=>r.map sp=mM (l.take<|k+1) y) (IT rfl<|IT rfl<|S3 (E5 (by omega) hN)<|λr hr=>SR ?_)<|λr hr=>Tk ⟨bI (by omega),hr⟩
    rw[hr,hI,hst];unfold kr;rw[aG ⟨h1,h2⟩];rfl
   ·rw[bQ h2,aQ];exact hno<|λh=>h2 h.2
  ·rw[bQ h1,aQ,aB,aQ];exact hno<|λh=>h1 h.1
 ·rintro⟨out,i⟩e hI;dsimp only at e hI ⊢;subst e;rw[nz,aQ];exact Tu (by rw[fG]at hI;exact hI)
 intro o ho;exact Tv ho (λs hs=>SR hs)<|λr hr=>hr.elim
theorem BA{l:List aD}{x:Int}(hl:l.length<=1099511627776)(hN:4398046511104<=N):gX N l x=some (j5 (l.map sp) x):=by
 refine TT ?_;unfold gX;have hm:∀b:Bool,(j5 (l.map sp) x=b↔(l.any λs=>decide (s.from_<=x)&&decide (x<s.to))=b):=λb=>by unfold j5;rw[List.any_map];rfl
 refine S3 (TJ (n:=l.length) (λs=>s) (λk s=>∀(j:Nat)y,j<k->l[j]? =some y->¬(y.from_<=x/\x<y.to)) (Go:=λs=>j5 (l.map sp) x=false) (Rt:=λr=>r=j5 (l.map sp) x) ?_ ?_ (cT _) rfl (λj y hj=>by omega) (by omega)) ?_
 ·rintro k i hk e hI;subst e;rw[jK hk,aM];have hx:l[k]? =some l[k]:=aP hk;rw[cC hx,aB]
  have hno:¬(l[k].from_<=x/\x<l[k].to)->Ok (some (Fl.nx (wrap .i64 (((k:Nat):Int)+1)):Fl Int Bool)) (Mf (λs'=>s'=((k+1:Nat):Int)/\∀(j:Nat)y,j<k+1->l[j]? =some y->¬(y.from_<=x/\x<y.to)) (λs=>j5 (l.map sp) x=false) (λr=>r=j5 (l.map sp) x)):=λhy=>Tk ⟨bI (by omega),λj y hj hjy=>by
   grind⟩
  by_cases h1:l[k].from_<=x
  ·rw[bO h1,aM,aB,aB]
   by_cases h2:x<l[k].to
   ·rw[bO h2,aM];refine TW ?_;symm;rw[hm,kI]
    grind
   grind
  grind
 ·rintro i e hI;subst e;rw[nz,aQ];refine Tu ?_;rw[hm,List.any_eq_false]
  grind [dW,bN,Bool.and_eq_false_iff,decide_eq_false_iff_not]
 intro o ho;exact Tv ho (λs hs=>SR hs.symm)<|λr hr=>SR hr
end
section
variable {α:Type}[DecidableEq α]{N:Nat}
def NV(N:Nat)(p0 p1:List α):Option Bool:=
 bif(p0.length:Int) != (p1.length:Int)then some false else((jg (λ(s32:Int)=>(bif decide (s32<(p0.length:Int))then((idx p0 s32).bind λx45=>(idx p1 s32).bind λx48=>bif(!(decide<|x45=x48))then some (.rt false)else some (.nx<|wrap .i64<|s32+1))else(some<|.br s32):Option (Fl Int Bool))) N 0).bind λo51=>o51.cs (λ(s32:Int)=>some true)<|λr=>some r)
theorem HD{l m:List α}(hl:l.length<=1099511627776)(hN:4398046511104<=N):NV N l m=some (decide<|l=m):=by
 refine TT ?_;unfold NV
 by_cases he:l.length=m.length
 ·rw[show(((l.length:Nat):Int) != ((m.length:Nat):Int))=false by rw[he];simp,aQ];refine S3 (TJ (n:=l.length) (λs=>s) (λk s=>∀j,j<k->l[j]? =m[j]?) (Go:=λs=>l=m) (Rt:=λr=>r=false/\l≠m) ?_ ?_ (cT _) rfl (λj hj=>by omega) (by omega)) ?_
  ·rintro k i hk e hI;subst e;have hx:l[k]? =some l[k]:=aP hk
   grind [aP,jK,Tc,TW,Tk,bI]
  ·rintro i e hI;subst e;rw[nz,aQ];refine Tu<|List.ext_getElem? λj=>?_
   grind
  intro o ho;exact Tv ho (λs hs=>SR (bO hs).symm)<|λr hr=>SR (by grind)
 grind [SR,bQ]
end
section
variable {N:Nat}
theorem F0{l m:List aH}(hl:l.length<=1099511627776)(hN:4398046511104<=N):km N l m=some (decide<|l=m):=HD hl hN
theorem F1{l m:List aD}(hl:l.length<=1099511627776)(hN:4398046511104<=N):kl N l m=some (decide<|l=m):=HD hl hN
def xQ(b:aO):Bd:=⟨b.from_,b.to,dO<|b.jY.map sp⟩
theorem Ky{l:List (Int×Int)}:dO l= []↔l= []:=by
 cases l with
 |nil=>exact⟨λ_=>rfl,λ_=>rfl⟩
 |cons s l=>exact⟨λh=>(by cases h),λh=>(by cases h)⟩
theorem Kz{l m:List aD}:dO (l.map sp)=dO (m.map sp)↔l=m:=by grind [LO,EV]
theorem IM{l:List aO}{b:aO}(hlt:b.from_<b.to)(hl:l.length<=1073741824)(hs:∀c∈l,c.jY.length<=1099511627776)(hN:4398046511104<=N):
  Ok (gA N l b) (λr=>r.map xQ=ko (l.map xQ) (xQ b)):=by
 unfold gA ko
 by_cases h0:b.jY= []
 ·rw[show(((b.jY.length:Nat):Int)==0)=true by rw[h0];rfl,aM,aG<|.inl (by unfold xQ;rw[h0];rfl)];exact SR rfl
 ·rw[show(((b.jY.length:Nat):Int)==0)=false by simp_all,aQ];have hne:¬((xQ b).xs= []\/(xQ b).y1<=(xQ b).y0):=by
   rintro(h|h)
   ·have h:=Ky.1 h
    simp_all
   ·have h:b.to<=b.from_:=h;omega
  rw[aI hne]
  rcases List.eq_nil_or_concat l with rfl|⟨A,c,hA⟩
  ·grind [decide,aB,TM,SR]
  ·rw[List.concat_eq_append]at hA;subst hA;have hlen:(A++[c]).length=A.length+1:=by simp
   have hwp:wrap .i64 ((((A++[c]).length:Nat):Int) - 1)=((A.length:Nat):Int):=by grind [Di]
   have hlast:(A++[c])[A.length]? =some c:=by simp
   rw[hwp,bO (by omega),aM,cC hlast,aB,aB,F1 (by grind) hN,aB,aB,cI];have hl2:((A++[c]).map xQ).getLast? =some (xQ c):=by simp
   have hd2:((A++[c]).map xQ).dropLast=A.map xQ:=by simp
   rw[hl2,hd2];dsimp only
   by_cases h1:c.to=b.from_/\c.jY=b.jY
   ·grind [xQ,bO,aB,SR,List.set_append_right]
   ·rw[aI (show ¬((xQ c).y1=(xQ b).y0/\(xQ c).xs=(xQ b).xs)from λh=>h1 ⟨h.1,Kz.1 h.2⟩)];have e2:(bif c.to==b.from_ then some (decide<|c.jY=b.jY)else some false)=some false:=by
     by_cases h2:c.to=b.from_
     ·rw[show(c.to==b.from_)=true by rw[h2];simp,aM,bQ<|λh=>h1 ⟨h2,h⟩]
     ·rw[show(c.to==b.from_)=false by simpa using h2,aQ]
    rw[e2,aB,aQ];exact TM (by rw[hlen];simp;omega)<|SR (by simp)
theorem LQ{s:List Bd}{b c:Bd}(h:c∈ko s b):c.xs=b.xs\/∃d∈s,c.xs=d.xs:=by
 grind [ko,List.dropLast_subset,List.mem_of_getLast?]
theorem sQ{f:Int->List Int}{B:Nat}(hf:∀y,(f y).length<=B):∀(ss:List (Int×Int))(out:List Bd),(∀c∈out,c.xs.length<=B)->(∀c∈nv f ss out,c.xs.length<=B)/\(nv f ss out).length<=out.length+ss.length
 | [],out,h=>⟨h,by simp[nv]⟩
 |s::ss,out,h=>by
  obtain⟨h1,h2⟩:=sQ hf ss (ko out ⟨s.1,s.2,f s.1⟩) (λc hc=>by
   rcases LQ hc with h3|⟨d,hd,h3⟩
   ·grind
   grind)
  refine⟨h1,?_⟩;have:=Kl out ⟨s.1,s.2,f s.1⟩;show(nv f ss<|ko out ⟨s.1,s.2,f s.1⟩).length<=_;rw[fq];omega
theorem pw:∀(ys:List Int),(lC ys).length=ys.length - 1
 | []=>rfl
 | [_]=>rfl
 |a::b::l=>by
  show(lC<|b::l).length+1=_;rw[pw<|b::l];simp
theorem DI:∀(ys:List Int)(k:Nat)(h:k+1<ys.length),(lC ys)[k]? =some (ys[k],ys[k+1])
 | [],k,h=>by simp at h
 | [_],k,h=>by simp at h
 |a::b::l,0,h=>rfl
 |a::b::l,k+1,h=>by
  have:=DI (b::l) k (by grind);show(lC<|b::l)[k]? =_;rw[this];rfl
theorem HE(f:Int->List Int)(ss:List (Int×Int))(s:Int×Int)(out:List Bd):nv f (ss++[s]) out=ko (nv f ss out) ⟨s.1,s.2,f s.1⟩:=by simp[nv,List.foldl_append]
theorem DJ{ys:List Int}(hy:j7 ys){f:Int->List Int}{B:Nat}(hf:∀y,(f y).length<=B)(hB:B<=1099511627776)(hys:ys.length<=1073741824){out:List aO}{k:Nat}(h1:1<=k)(hk:k<ys.length)
  (hI:out.map xQ=nv f ((lC ys).take<|k - 1) []) {r:List aD} (hr:dO (r.map sp)=f (ys[k - 1]'(by omega))) (hN:4398046511104<=N):
  Ok (gA N out ⟨ys[k - 1]'(by omega),ys[k],r⟩) (λo=>o.map xQ=nv f ((lC ys).take k) []):=by
 have hlt:ys[k - 1]'(by omega)<ys[k]:=ov.1 hy (k - 1) k (by omega) hk (by omega);obtain⟨s1,s2⟩:=sQ hf ((lC ys).take<|k - 1) [] (λc hc=>by cases hc);have hol:out.length<=ys.length:=by
  grind
 refine(IM hlt (by omega) (λc hc=>?_) hN).mono λo ho=>?_
 ·have h3:(xQ c).xs.length<=B:=s1 _ (by grind)
  grind [xQ,kU,dU]
 ·have hg:=DI ys (k - 1) (by omega)
  grind [lC,pw,eA,aP,HE,xQ]
def tI(b:aO):List aH:=b.jY.map λs=>⟨s.from_,b.from_,s.to,b.to⟩
def oZ(l:List aO):List aH:=l.flatMap tI
theorem HF:∀(l:List (Int×Int)),Dk (dO l)=l
 | []=>rfl
 |s::l=>by rw[kB];show(s.1,s.2)::Dk (dO l)=_;rw[HF l]
theorem BB:∀{l:List aO}{s:List aA},l.map xQ=s.map cG->oZ l=aU s
 | [],[],_=>rfl
 | [],_::_,h=>by cases h
 |_::_,[],h=>by cases h
 |b::l,c::s,h=>by
  rw[eY,eY]at h;injection h with h1 h2
  have e:=BB h2;show tI b++oZ l=oe c++aU s;rw[e];congr 1;unfold xQ cG at h1;injection h1 with g1 g2 g3
  unfold tI oe;rw[<-g3,HF,g1,g2,List.map_map];rfl
theorem HG(l:List aO)(b:aO):oZ (l++[b])=oZ l++tI b:=by simp[oZ,List.flatMap_append]
theorem JL{l:List aO}(hl:l.length<=1099511627776)(hs:∀b∈l,b.jY.length<=1099511627776)(hr:(oZ l).length<=1099511627776)(hN:4398046511104<=N):jQ N l=some (oZ l):=by
 refine TT ?_;unfold jQ;refine S3 (TJ (n:=l.length) (λs=>s.2) (λk s=>s.1=oZ (l.take k)) (Go:=λs=>s.1=oZ l) (Rt:=λ_=>False) ?_ ?_ (cT _) rfl rfl (by omega)) ?_
 ·rintro k⟨out,i⟩hk e hI;dsimp only at e hI ⊢;subst e;subst hI;rw[jK hk,aM];have hx:l[k]? =some l[k]:=aP hk;have hsl:=hs _<|cL hk
  have hts:oZ (l.take<|k+1)=oZ (l.take k)++tI l[k]:=by rw[eA hk,HG]
  have hlen:(oZ<|l.take k).length+l[k].jY.length<=(oZ l).length:=by
   grind [oZ,eL,List.take_append_drop,tI,dU]
  refine S3 (TJ (n:=l[k].jY.length) (λs=>s.2) (λj s=>s.1=oZ (l.take k)++(tI l[k]).take j) (Go:=λs=>s.1=oZ (l.take<|k+1)) (Rt:=λ_=>False) ?_ ?_ (cT _) rfl (by simp) (by omega)) ?_
  ·rintro j⟨o2,i2⟩hj e hI;dsimp only at e hI ⊢;subst e;subst hI;have hy:l[k].jY[j]? =some l[k].jY[j]:=aP hj;have hjr:j<(tI l[k]).length:=by grind [tI,dU]
   refine Tc hx ?_;rw[jK hj,aM];refine Tc hx<|Tc hy<|Tc hx<|Tc hx<|Tc hy<|Tc hx<|TM ?_<|Tk ⟨bI (by omega),?_⟩
   ·grind
   grind [py,eA,tI]
  ·grind [Tc,Tu,mz,tI,dU]
  intro o ho;exact Tv ho (λs hs=>Tk ⟨bI (by omega),hs⟩)<|λr hr=>hr.elim
 ·rintro⟨out,i⟩e hI;dsimp only at e hI ⊢;subst e;rw[nz,aQ];exact Tu (by rw[fG]at hI;exact hI)
 intro o ho;exact Tv ho (λs hs=>SR hs)<|λr hr=>hr.elim
theorem E6{l:List aH}{ys:List Int}(hm:∀r∈l,r.Y0∈ys/\r.Y1∈ys){s:Int×Int}{y:Int}(hs:s∈lC ys)(hy:j7 ys)(h1:s.1<=y)(h2:y<s.2):mM l y=mM l s.1:=IL λr hr=>by
 obtain⟨m1,m2⟩:=hm r hr;obtain⟨_,_,_,h⟩:=sX hy s hs
 rcases h _ m1 with h3|h3 <;> rcases h _ m2 with h4|h4 <;> constructor <;> intro h5 <;> omega
theorem F2{l:List aH}{ys:List Int}(hm:∀r∈l,r.Y0∈ys/\r.Y1∈ys){y:Int}(h:(∀c∈ys,y<c)\/(∀c∈ys,c<=y)):mM l y= []:=by grind [LP]
theorem F3{l:List aH}:∀r∈l,r.Y0∈ly (j6 l)/\r.Y1∈ly (j6 l):=by grind [E4,oc]
theorem LR(l:List aH):(ly<|j6 l).length<=2*l.length:=by
 grind [vx,j6,mU]
theorem wk{l:List aH}{s:List aA}(hc:fF (s.map cG))(hcov:∀x y,wX (s.map cG) x y=uE l x y)(hl:l.length<=10000000)(hok:∀r∈l,r.X0<r.X1)(hr:(aU s).length<=1099511627776)(hN:4398046511104<=N):
  fR N l=some (aU s):=by
 refine TT ?_;unfold fR;refine IT (DG (by omega) hN) ?_;have hyl:=LR l;have hyi:=oO<|j6 l
 have hf:∀y,j7 (dO<|mM l y)/\(dO<|mM l y).length % 2=0:=λy=>⟨(yl hok y).1,by simp[kU]⟩;have hfl:∀y,(dO<|mM l y).length<=20000000:=λy=>by grind [kU,vz]
 obtain⟨b1,b2⟩:=BZ (f:=λy=>dO<|mM l y) hf hyi (λt ht y h1 h2=>by(try dsimp only);rw[E6 F3 ht hyi h1 h2]) (λy h=>by(try dsimp only);rw[F2 F3 h];rfl);have hsame:nv (λy=>dO<|mM l y) (lC<|ly<|j6 l) []=s.map cG:=wc b1 hc λx y=>by
  grind [wX,vl,yl]
 have hmy:= @F3 l;generalize ly (j6 l)=ys at *;refine S3 (TJ (n:=max 1 ys.length) (λs=>s.2) (λk st=>1<=k/\st.1.map xQ=nv (λy=>dO<|mM l y) ((lC ys).take<|k - 1) []) (Go:=λst=>st.1.map xQ=s.map cG) (Rt:=λ_=>False) ?_ ?_ (k0:=1) (by omega) rfl ⟨cH _,rfl⟩ (by omega)) ?_
 ·rintro k⟨out,i⟩hk e⟨hk1,hI⟩;dsimp only at e hI ⊢;subst e;have hk2:k<ys.length:=by omega
  rw[jK hk2,aM,ja hk1 (by omega)];refine TU (by omega)<|TU hk2<|TU (by omega)<|S3 (FZ (by omega) hN) λr hr=>S3 (DJ hyi (f:=λy=>dO<|mM l y) hfl (by omega) (by omega) hk1 hk2 hI (by grind) hN) λo ho=>Tk ⟨bI (by omega),by omega,?_⟩
  grind
 ·grind [AK,Tu,mz,pw]
 intro o ho;refine Tv ho (λst hs=>?_)<|λr hr=>hr.elim
 have e:=BB hs;obtain⟨s1,s2⟩:=sQ (f:=λy=>dO<|mM l y) hfl (lC ys) [] (λc hc=>by cases hc);refine IT (JL (l:=st.1) ?_ ?_ (by rw[e];exact hr) hN)<|SR e
 ·have:(st.1.map xQ).length<=ys.length:=by rw[hs,<-hsame];have:=pw ys;simp only[List.length_nil]at s2;omega
  rw[dU]at this;omega
 ·intro b hb;have h3:=s1 (xQ b) (by rw[hsame,<-hs];exact dV.2 ⟨b,hb,rfl⟩);have h4:(xQ b).xs.length=2*b.jY.length:=by unfold xQ;rw[kU,dU]
  omega
def ue(w:Int)(p q:Bool):Bool:=((((w==1)&&(p||q))||(((w==2)&&p)&&q))||(((w==3)&&p)&&(!q)))
theorem LS(w:Int):ue w false false=false:=by simp[ue]
theorem B5(iC:Bool->Bool->Bool)(a b ss:List (Int×Int))(s:Int×Int)(out:List (Int×Int)):nu iC a b (ss++[s]) out=if iC (j5 a s.1) (j5 b s.1)=true then mH (nu iC a b ss out) s else nu iC a b ss out:=by simp[nu,List.foldl_append]
theorem zy(iC:Bool->Bool->Bool)(a b:List (Int×Int)):∀(ss out:List (Int×Int)),(nu iC a b ss out).length<=out.length+ss.length
 | [],out=>by simp[nu]
 |s::ss,out=>by
  have h1:=zy iC a b ss (if iC (j5 a s.1) (j5 b s.1)=true then mH out s else out);have h2:(if iC (j5 a s.1) (j5 b s.1)=true then mH out s else out).length<=out.length+1:=by
   split
   ·exact B3 _ _
   ·omega
  show(nu iC a b ss (if iC (j5 a s.1) (j5 b s.1)=true then mH out s else out)).length<=_;rw[fq];omega
def B6(a b:List (Int×Int)):List Int:=ly<|dO a++dO b
theorem E7(a b:List (Int×Int)):(B6 a b).length<=2*a.length+2*b.length:=by
 have:=vx<|dO a++dO b
 rw[eL,kU,kU]at this;exact this
theorem LU{a b:List aD}{w:Int}(ha:a.length<=10000000)(hb:b.length<=10000000)(hN:4398046511104<=N):
  Ok (kD N a b w) (λr=>r.map sp=nu (ue w) (a.map sp) (b.map sp) (lC<|B6 (a.map sp)<|b.map sp) []):=by
 unfold kD;have hfl:∀(l:List aD),(ly<|dO<|l.map sp).length<=2*l.length:=λl=>by
  grind [vx,dO,kU,dU]
 refine S3 (TJ (n:=a.length) (λs=>s.2) (λk s=>s.1=ly (dO<|(a.take k).map sp)) (Go:=λs=>s.1=ly (dO<|a.map sp)) (Rt:=λ_=>False) ?_ ?_ (cT _) rfl rfl (by omega)) ?_
 ·rintro k⟨out,i⟩hk e hI;dsimp only at e hI ⊢;subst e;subst hI;rw[jK hk,aM];have hx:a[k]? =some a[k]:=aP hk;have h1:=hfl<|a.take k
  rw[dI]at h1;have h2:=AL (ly<|dO<|(a.take k).map sp) a[k].from_;refine Tc hx<|Tc hx<|IT (yi (oO _) (by omega) hN)<|IT (yi (vv<|oO _) (by omega) hN)<|Tk ⟨bI (by omega),?_⟩
  rw[eA hk,fO,we];exact(xP _ _ _).symm
 ·simp[nz,aQ,Tu,fG]
 intro o ho;refine Tv ho ?_<|λr hr=>hr.elim
 rintro⟨xa,ia⟩hxa;dsimp only at hxa ⊢;subst hxa;refine S3 (TJ (n:=b.length) (λs=>s.2) (λk s=>s.1=ly (dO (a.map sp)++dO ((b.take k).map sp))) (Go:=λs=>s.1=B6 (a.map sp) (b.map sp)) (Rt:=λ_=>False) ?_ ?_ (cT _) rfl (by simp[dO]) (by omega)) ?_
 ·rintro k⟨out,i⟩hk e hI;dsimp only at e hI ⊢;subst e;subst hI;rw[jK hk,aM];have hx:b[k]? =some b[k]:=aP hk;have h1:=vx<|dO (a.map sp)++dO ((b.take k).map sp)
  rw[eL,kU,kU,dU,dU,dI]at h1;have h2:=AL (ly<|dO (a.map sp)++dO ((b.take k).map sp)) b[k].from_;refine Tc hx<|Tc hx<|IT (yi (oO _) (by omega) hN)<|IT (yi (vv<|oO _) (by omega) hN)<|Tk ⟨bI (by omega),?_⟩
  rw[eA hk,fO,we,<-py];exact(xP _ _ _).symm
 ·rintro⟨out,i⟩e hI;dsimp only at e hI ⊢;subst e;rw[nz,aQ];exact Tu (by rw[fG]at hI;exact hI)
 intro o ho;refine Tv ho ?_<|λr hr=>hr.elim
 rintro⟨xs,ix⟩hxs;dsimp only at hxs ⊢;have hxl:=E7 (a.map sp)<|b.map sp
 rw[<-hxs,dU,dU]at hxl;rw[<-hxs];clear hxs;refine S3 (TJ (n:=max 1 xs.length) (λs=>s.2) (λk st=>1<=k/\st.1.map sp=nu (ue w) (a.map sp) (b.map sp) ((lC xs).take<|k - 1) []) (Go:=λst=>st.1.map sp=nu (ue w) (a.map sp) (b.map sp) (lC xs) []) (Rt:=λ_=>False) ?_ ?_ (k0:=1) (by omega) rfl ⟨cH _,rfl⟩ (by omega)) ?_
 ·rintro k⟨out,i⟩hk e⟨hk1,hI⟩;dsimp only at e hI ⊢;subst e;have hk2:k<xs.length:=by omega
  rw[jK hk2,aM,ja hk1 (by omega)];have hx:xs[k - 1]? =some (xs[k - 1]'(by omega)):=aP _;have hy:xs[k]? =some xs[k]:=aP hk2;have hg:=DI xs (k - 1) (by omega);have hts:(lC xs).take k=(lC xs).take (k - 1)++[(xs[k - 1]'(by omega),xs[k])]:=by
   grind [lC,pw,eA,aP]
  have hol:out.length<=xs.length:=by
   have h1:=zy (ue w) (a.map sp) (b.map sp) ((lC xs).take<|k - 1) [];rw[<-hI,dU,dI,pw]at h1;simp only[List.length_nil]at h1;omega
  refine Tc hx<|Tc hx<|IT (BA (by omega) hN)<|IT (BA (by omega) hN) ?_
  refine S3 (P:=λr:List aD=>r.map sp=nu (ue w) (a.map sp) (b.map sp) ((lC xs).take k) []) (Tx (λhb=>?_)<|λhb=>?_)<|λr hr=>Tk ⟨bI (by omega),by omega,by rw[Nat.add_sub_cancel];exact hr⟩
  ·refine Tc hx<|Tc hy<|S3 (E5 (by omega) hN)<|λr hr=>SR ?_
   rw[hr,hI,hts,B5,aG (show ue w _ _=true from hb)];rfl
  ·refine SR ?_;rw[hI,hts,B5,aI (show ¬ue w _ _=true by rw[l5];exact hb)]
 ·rintro⟨out,i⟩e⟨hk1,hI⟩;dsimp only at e hI ⊢;subst e;rw[AK (by omega),aQ];refine Tu ?_;rw[mz (by rw[pw];omega)]at hI;exact hI
 intro o ho;exact Tv ho (λs hs=>SR hs)<|λr hr=>hr.elim
def pO(w:Int)(a b:List aH)(y:Int):List (Int×Int):=nu (ue w) (mM a y) (mM b y) (lC<|B6 (mM a y)<|mM b y) []
theorem HH(a b:List (Int×Int)):Ends a (B6 a b)/\Ends b (B6 a b):=by
 constructor <;> intro s hs <;> constructor <;> refine E4.2<|dD.2 ?_
 ·exact .inl<|List.mem_flatMap.2 ⟨s,hs,by simp⟩
 ·exact .inl<|List.mem_flatMap.2 ⟨s,hs,by simp⟩
 ·exact .inr<|List.mem_flatMap.2 ⟨s,hs,by simp⟩
 ·exact .inr<|List.mem_flatMap.2 ⟨s,hs,by simp⟩
theorem B7{a b:List aH}(ha:∀r∈a,r.X0<r.X1)(hb:∀r∈b,r.X0<r.X1)(w y:Int):j7 (dO<|pO w a b y)/\∀x,j5 (pO w a b y) x=ue w (uE a x y) (uE b x y):=by
 obtain⟨h1,h2⟩:=Hh (iC:=ue w) (LS w) (a:=mM a y) (b:=mM b y) (xs:=B6 (mM a y)<|mM b y) (oO _) (HH _ _).1 (HH _ _).2
 grind [j5,pO,yl]
theorem IP(w:Int)(a b:List aH)(y:Int):(pO w a b y).length<=2*a.length+2*b.length:=by
 grind [zy,ue,mM,lC,B6,E7,vz,pw,pO,List.length_nil]
theorem HI{a b:List aH}{w:Int}{s:List aA}(hc:fF (s.map cG))(hcov:∀x y,wX (s.map cG) x y=ue w (uE a x y) (uE b x y))(hla:a.length<=10000000)(hlb:b.length<=10000000)
  (ha:∀r∈a,r.X0<r.X1) (hb:∀r∈b,r.X0<r.X1) (hr:(aU s).length<=1099511627776) (hN:4398046511104<=N):ig N a b w=some (aU s):=by
 refine TT ?_;unfold ig;refine TM (by grind)<|TM (by grind) ?_
 rw[List.nil_append];refine IT (DG (by grind) hN) ?_;have hyl:=LR<|a++b
 rw[eL]at hyl;have hyi:=oO<|j6<|a++b
 have hmy:= @F3<|a++b
 have hma:∀r∈a,r.Y0∈ly (j6<|a++b)/\r.Y1∈ly (j6<|a++b):=λr hr=>hmy r<|List.mem_append_left _ hr
 have hmb:∀r∈b,r.Y0∈ly (j6<|a++b)/\r.Y1∈ly (j6<|a++b):=λr hr=>hmy r<|List.mem_append_right _ hr
 have hf:∀y,j7 (dO<|pO w a b y)/\(dO<|pO w a b y).length % 2=0:=λy=>⟨(B7 ha hb w y).1,by simp[kU]⟩;have hfl:∀y,(dO<|pO w a b y).length<=80000000:=λy=>by grind [kU,IP]
 obtain⟨b1,b2⟩:=BZ (f:=λy=>dO (pO w a b y)) hf hyi (λt ht y h1 h2=>by grind [pO,E6]) (λy h=>by
  (try dsimp only);unfold pO;rw[F2 hma h,F2 hmb h];rfl)
 have hsame:nv (λy=>dO<|pO w a b y) (lC<|ly<|j6<|a++b) []=s.map cG:=wc b1 hc λx y=>by
  grind [wX,vl,B7]
 clear hmy hma hmb;generalize ly (j6<|a++b)=ys at *;refine S3 (TJ (n:=max 1 ys.length) (λs=>s.2) (λk st=>1<=k/\st.1.map xQ=nv (λy=>dO<|pO w a b y) ((lC ys).take<|k - 1) []) (Go:=λst=>st.1.map xQ=s.map cG) (Rt:=λ_=>False) ?_ ?_ (k0:=1) (by omega) rfl ⟨cH _,rfl⟩ (by omega)) ?_
 ·rintro k⟨out,i⟩hk e⟨hk1,hI⟩;dsimp only at e hI ⊢;subst e;have hk2:k<ys.length:=by omega
  rw[jK hk2,aM,ja hk1 (by omega)];refine TU (by omega)<|TU hk2<|TU (by omega)<|TU (by omega)<|S3 (FZ (by omega) hN) λr1 hr1=>S3 (FZ (by omega) hN) λr2 hr2=>?_
  have l1:r1.length<=10000000:=by grind [vz,dU]
  have l2:r2.length<=10000000:=by grind [vz,dU]
  refine S3 (LU l1 l2 hN) λr hr=>S3 (DJ hyi (f:=λy=>dO<|pO w a b y) hfl (by omega) (by omega) hk1 hk2 hI (by(try dsimp only);rw[hr,hr1,hr2];rfl) hN) λo ho=>Tk ⟨bI (by omega),by omega,?_⟩;rw[Nat.add_sub_cancel];exact ho
 ·rintro⟨out,i⟩e⟨hk1,hI⟩;dsimp only at e hI ⊢;subst e;rw[AK (by omega),aQ];refine Tu ?_;rw[mz (by rw[pw];omega),hsame]at hI;exact hI
 intro o ho;refine Tv ho (λst hs=>?_)<|λr hr=>hr.elim
 have e:=BB hs;obtain⟨s1,s2⟩:=sQ (f:=λy=>dO<|pO w a b y) hfl (lC ys) [] (λc hc=>by cases hc);refine IT (JL (l:=st.1) ?_ ?_ (by rw[e];exact hr) hN)<|SR e
 ·have:(st.1.map xQ).length<=ys.length:=by rw[hs,<-hsame];have:=pw ys;simp only[List.length_nil]at s2;omega
  rw[dU]at this;omega
 ·intro b hb;have h3:=s1 (xQ b) (by rw[hsame,<-hs];exact dV.2 ⟨b,hb,rfl⟩);have h4:(xQ b).xs.length=2*b.jY.length:=by unfold xQ;rw[kU,dU]
  omega
theorem F4(n:Int):cU N n=some (oj n):=rfl
theorem DK{l:List aH}(hl:l.length<=1099511627776)(hN:4398046511104<=N):iI N l=some (mW l):=by
 refine TT ?_;unfold iI mW
 by_cases h:2000<l.length
 ·grind [bO,SR]
 ·rw[bQ (by omega),aQ,aI h];refine S3 (TJ (n:=l.length) (λs=>s) (λk s=>∀(j:Nat)x,j<k->l[j]? =some x->mI x=none) (Go:=λs=>l.findSome? mI=none) (Rt:=λr=>l.findSome? mI=some r) ?_ ?_ (cT _) rfl (λj x hj=>by omega) (by omega)) ?_
  ·rintro k i hk e hI;subst e;rw[jK hk,aM];have hx:l[k]? =some l[k]:=aP hk;have hrt:∀c,mI l[k]=some c->l.findSome? mI=some c:=λc hc=>by
    rw[List.findSome?_eq_some_iff];refine⟨l.take k,l[k],l.drop<|k+1,?_,hc,λx hx'=>?_⟩
    ·rw[List.getElem_cons_drop,List.take_append_drop]
    grind [dW,bN,dI,List.getElem?_take_of_lt]
   refine Tc hx ?_;have hb:((cU N l[k].X0).bind λx110=>bif(!x110)then some true else((cU N l[k].Y0).bind λx112=>bif(!x112)then some true else((cU N l[k].X1).bind λx114=>bif(!x114)then some true else((cU N l[k].Y1).bind λx116=>some<|!x116))))=some (!gl l[k]):=by
    rw[F4,F4,F4,F4];unfold gl
    grind
   refine IT hb<|Tx (λh1=>TW<|hrt 1 ?_)<|λh1=>Tx (λh2=>TW<|hrt 13 ?_)<|λh2=>Tk ⟨bI (by omega),λj x hj hjx=>?_⟩
   all_goals grind [mI]
  ·grind [Tu,List.findSome?_eq_none_iff,dW,bN]
  intro o ho;exact Tv ho (λs hs=>SR (by rw[hs];rfl))<|λr hr=>SR (by rw[hr];rfl)
theorem IQ{l:List aH}{s:List aA}(hs:tB l s):FW l↔aU s=l:=⟨λ⟨t,h1,h2⟩=>by rw[hs.unique h1];exact h2,λh=>⟨s,hs,h⟩⟩
theorem wD{l:List aH}(hl:l.length<=1073741824)(hN:4398046511104<=N):fX N l=some (jW l):=by
 refine TT ?_;unfold fX;refine IT (DK (by omega) hN) ?_;unfold jW;refine Tx (λh=>SR ?_)<|λh=>?_
 ·grind
 ·have h0:mW l=0:=by simpa using h
  rw[aI (by omega)];obtain⟨hlen,hok⟩:=Dz h0;have hbf:∀a b:aH,((decide (a.Y0<b.Y0)||((a.Y0==b.Y0)&&decide (a.X0<b.X0)))=true)↔¬(b.Y0<a.Y0\/(b.Y0=a.Y0/\b.X0<=a.X0)):=λa b=>by
   grind
  refine S3 (T4 (Go:=λ_=>OV l) (Rt:=λr=>r=8/\¬OV l) (λs=>∃k:Nat,s=((k:Nat):Int)/\1<=k/\∀(j:Nat)a b,j+1<k->l[j]? =some a->l[j+1]? =some b->¬(b.Y0<a.Y0\/(b.Y0=a.Y0/\b.X0<=a.X0))) (λs=>l.length - s.toNat) ?_ ⟨1,rfl,cH _,λj a b hj=>by omega⟩ (by simp;omega)) ?_
  ·rintro s⟨k,rfl,hk,hI⟩;refine Tx (λh=>?_)<|λh=>Tu λj a b ha hb=>hI j a b ?_ ha hb
   ·have hk2:k<l.length:=by grind
    rw[ja hk (by omega)];have hx:l[k - 1]? =some (l[k - 1]'(by omega)):=aP _;have hy:l[k]? =some l[k]:=aP hk2;refine Tc hx<|Tc hy ?_
    unfold iY;rw[aB];refine Tx (λhb=>TW ⟨rfl,λhu=>?_⟩)<|λhb=>Tk ⟨⟨k+1,by grind [bI],by omega,λj a b hj ha hb'=>?_⟩,by grind [bI,cI]⟩
    ·have:=(hbf _ _).2<|hu (k - 1) _ _ hx (by rw[show k - 1+1=k by omega];exact hy)
     grind
    grind
   grind
  ·rintro o ho;refine Tv ho (λs hu=>?_)<|λr hr=>SR (by grind)
   rw[aG hu];obtain⟨s,_,hs⟩:=qZ (N:=N) (l:=l) (by omega) hok (by omega);obtain⟨z1,z2,z3⟩:=hs.Hs;have z4:2*l.length*(2*l.length)<=4000*4000:=Nat.mul_le_mul (by omega) (by omega);refine IT (wk hs.can hs.cover (by omega) (λr hr=>(hok r hr).x) (by omega) hN)<|IT (F0 (by omega) hN) ?_
   grind [IQ,SR,aU]
end
theorem DL(n:Nat)(g:Nat->Nat):((List.range<|n+1).map g).sum=((List.range n).map g).sum+g n:=by
 simp[List.range_succ,fO,List.sum_append]
def QX(r:aH)(x y:Int):Bool:=(decide (r.X0<=x)&&decide (x<r.X1))&&(decide (r.Y0<=y)&&decide (y<r.Y1))
def QL(a b:aH):Prop:=∀x y,¬(QX a x y=true/\QX b x y=true)
theorem MX{r:aH}{x y:Int}:QX r x y=true↔(r.X0<=x/\x<r.X1)/\r.Y0<=y/\y<r.Y1:=by simp[QX]
theorem AN:∀{xs:List Int},j7 xs->(Dk xs).Pairwise (λp q=>p.2<q.1)
 | [],_=>kH
 | [a],_=>kH
 |a::b::l,h=>by
  unfold Dk;rw[pz];exact⟨λq hq=>h.tail.head q.1 (FQ q hq).1,AN h.tail.tail⟩
def uH(a b:aH):Prop:=a.Y1<=b.Y0\/(a.Y0=b.Y0/\a.Y1=b.Y1/\a.X1<b.X0)
theorem uH.apart{a b:aH}(h:uH a b):QL a b:=λx y⟨h1,h2⟩=>by
 rw[MX]at h1 h2
 rcases h with h|h <;> omega
theorem sR:∀{s:List aA},fF (s.map cG)->(aU s).Pairwise uH
 | [],_=>kH
 |b::s,h=>by
  rw[og,List.pairwise_append];refine⟨?_,sR h.tail,λx hx y hy=>?_⟩
  ·unfold oe;rw[List.pairwise_map];exact List.Pairwise.imp (λhpq=> .inr ⟨rfl,rfl,hpq⟩)<|AN (h.each (cG b) (by simp)).2.2.1
  ·unfold oe at hx;obtain⟨p,_,rfl⟩:=dV.1 hx;obtain⟨c,hc,q,_,rfl⟩:=sY hy;exact .inl<|h.Df (cG c)<|dV.2 ⟨c,hc,rfl⟩
theorem vA{s:List aA}(h:fF (s.map cG)):∀r∈aU s,r.X0<r.X1/\r.Y0<r.Y1:=λr hr=>by
 obtain⟨b,hb,p,hp,rfl⟩:=sY hr;have hc:=h.each (cG b)<|dV.2 ⟨b,hb,rfl⟩
 exact⟨Iz hc.2.2.1 p hp,hc.1⟩
theorem HJ{s:List aA}(h:fF (s.map cG)):(aU s).Nodup:=by
 have h1:=sR h;have h2:=vA h;refine List.Pairwise.imp_of_mem (λ{a b}ha hb hab e=>?_) h1;subst e;have:=h2 a ha
 rcases hab with h|h <;> omega
def vB(s:List Bd):Nat:=(s.map<|λb=>b.xs.length / 2).sum
theorem HK(s t:List Bd):vB (s++t)=vB s+vB t:=by simp[vB,fO,List.sum_append]
theorem KA(s:List Bd)(b:Bd):vB (ko s b)<=vB s+b.xs.length / 2:=by
 unfold ko
 grind [tz,vB,HK]
structure Sz (t:List Bd):Prop where
 each:∀b∈t,b.y0<b.y1/\j7 b.xs/\b.xs.length % 2=0
 ord:t.Pairwise (λb c=>b.y1<=c.y0)
theorem fold_push:∀(t out:List Bd),Sz t->fF out->(∀c∈out,∀b∈t,c.y1<=b.y0)->fF (t.foldl ko out)/\vB (t.foldl ko out)<=vB out+vB t/\
  ∀y,rowAt (t.foldl ko out) y=if(∃b∈t,b.y0<=y/\y<b.y1)then rowAt t y else rowAt out y
 | [],out,_,hc,_=>⟨hc,by simp[vB],λy=>by simp⟩
 |b::t,out,hl,hc,ho=>by
  have hb:=hl.each b (by simp);have hord:=pz.1 hl.ord;have ho1:∀c∈out,c.y1<=b.y0:=λc h=>ho c h b (by simp);have h1:=yb hc ho1 hb.2.1 hb.2.2;have htop:=yc ho1 (show b.y0<=b.y1 by omega);obtain⟨f1,f2,f3⟩:=fold_push t (ko out b) ⟨λc hcm=>hl.each c<|kg _ hcm,hord.2⟩ h1 (λc hcm d hd=>by grind);refine⟨f1,?_,λy=>?_⟩
  ·have:=KA out b;have e:vB (b::t)=b.xs.length / 2+vB t:=by simp[vB]
   rw[List.foldl_cons,e];omega
  ·rw[List.foldl_cons,f3 y,ya ho1 (λc hcm=>(hc.each c hcm).1)<|λh=>absurd h (by omega),n8]
   by_cases hy:b.y0<=y/\y<b.y1
   ·have hn:¬∃c∈t,c.y0<=y/\y<c.y1:=λ⟨c,hcm,h⟩=>by have:=hord.1 c hcm;omega
    rw[aI hn,aG hy,aG ⟨b,by simp,hy⟩,aG hy]
   ·rw[aI hy]
    by_cases h:∃c∈t,c.y0<=y/\y<c.y1
    ·obtain⟨c,hcm,h⟩:=h;rw[aG ⟨c,hcm,h⟩,aG ⟨c,kg _ hcm,h⟩,aI hy]
    ·rw[aI h,aI hy,aI (show ¬∃c∈b::t,c.y0<=y/\y<c.y1 from λ⟨c,hcm,h2⟩=>by
      grind)]
noncomputable def sq(C:List aH)(b:aA):Bd:=⟨b.Y0,b.Y1,dO<|(Dk b.Xs).filter<|λp=>decide<|(⟨p.1,b.Y0,p.2,b.Y1⟩:aH)∈C⟩
theorem KB{l m:List (Int×Int)}(h:l.Sublist m):(dO l).Sublist (dO m):=by
 induction h with
 |slnil=>exact List.Sublist.refl _
 |cons a _ ih=>grind [kB]
 |cons_cons a _ ih=>grind [kB]
theorem DM(l:List (Int×Int)):(dO l).length % 2=0/\(dO l).length / 2=l.length:=by simp[kU]
theorem E8{s p:List aA}{C:List aH}(hs:fF (s.map cG))(hp:fF (p.map cG))(hC:∀r∈C,r∈aU s)(hcov:∀x y,wX (p.map cG) x y=uE C x y):(aU p).length<=C.length:=by
 have hinc:∀b∈s,j7 (sq C b).xs:=λb hb=>by
  have h1:=JD hs b hb;have h2:=KB<|List.filter_sublist (l:=Dk b.Xs) (p:=λp=>decide<|(⟨p.1,b.Y0,p.2,b.Y1⟩:aH)∈C)
  rw[Dl<|vr hs b hb]at h2;exact List.Pairwise.sublist h2 h1
 have hlow:Sz (s.map<|sq C):=by
  refine⟨λb hb=>?_,?_⟩
  ·obtain⟨c,hc,rfl⟩:=dV.1 hb;exact⟨(hs.each (cG c)<|dV.2 ⟨c,hc,rfl⟩).1,hinc c hc,(DM _).1⟩
  ·have:=hs.ord;rw[List.pairwise_map]at this ⊢;exact List.Pairwise.imp (λh=>h.1) this
 obtain⟨f1,f2,f3⟩:=fold_push (s.map<|sq C) [] hlow fF.nil (λc hc=>by cases hc);have hrow:∀{t:List aA},(∀b∈t,b∈s)->∀x y,qJ (rowAt (t.map<|sq C) y) x=true->uE C x y=true:=by
  intro t ht x y h
  induction t with
  |nil=>cases h
  |cons b t ih=>
   rw[eY,n8]at h;split at h
   ·rename_i hy;have hbm:=ht b (by simp);have h1:=hinc b hbm;have h:qJ (dO<|(Dk b.Xs).filter<|λp=>decide<|(⟨p.1,b.Y0,p.2,b.Y1⟩:aH)∈C) x=true:=h;rw[vl h1,vk]at h;obtain⟨q,hq,h2⟩:=h;have hq:=my.1 hq;exact kL.2 ⟨_,of_decide_eq_true hq.2,h2,hy⟩
   grind
 have hrow2:∀x y,uE C x y=true->qJ (rowAt (s.map<|sq C) y) x=true:=by
  intro x y h;obtain⟨r,hr,h1,h2⟩:=kL.1 h;obtain⟨b,hb,q,hq,rfl⟩:=sY<|hC r hr
  dsimp only at h1 h2;have key:∀{t:List aA},(∀c∈t,c∈s)->fF (t.map cG)->b∈t->rowAt (t.map<|sq C) y=(sq C b).xs:=by
   intro t ht hc hbt
   induction t with
   |nil=>cases hbt
   |cons c t ih=>
    rw[eY,n8]
    by_cases hy:c.Y0<=y/\y<c.Y1
    ·rw[aG (show(sq C c).y0<=y/\y<(sq C c).y1 from hy)]
     rcases eF.1 hbt with rfl|hbt
     ·rfl
     ·have:=hc.Df (cG b)<|dV.2 ⟨b,hbt,rfl⟩
      grind [cG]
    ·rw[aI (show ¬((sq C c).y0<=y/\y<(sq C c).y1)from hy)]
     rcases eF.1 hbt with rfl|hbt
     ·exact absurd h2 hy
     ·exact ih (λd hd=>ht d<|kg _ hd) hc.tail hbt
  rw[key (λc hc=>hc) hs hb];have h1':=hinc b hb;show qJ (dO<|(Dk b.Xs).filter<|λp=>decide<|(⟨p.1,b.Y0,p.2,b.Y1⟩:aH)∈C) x=true;rw[vl h1',vk];exact⟨q,my.2 ⟨hq,bO hr⟩,h1⟩
 have hsame:p.map cG=(s.map<|sq C).foldl ko []:=wc hp f1 λx y=>by
  rw[hcov,gS];have e:rowAt ((s.map<|sq C).foldl ko []) y=rowAt (s.map<|sq C) y:=by
   rw[f3]
   by_cases h:∃b∈s.map (sq C),b.y0<=y/\y<b.y1
   ·rw[aG h]
   ·rw[aI h]
    exact(mG λb hb=>by
     have:¬(b.y0<=y/\y<b.y1):=λh2=>h ⟨b,hb,h2⟩
     omega).symm
  unfold wX;rw[e];exact⟨hrow2 x y,hrow (λb hb=>hb) x y⟩
 have hc1:(aU p).length=vB (p.map cG):=by
  have:∀p:List aA,(aU p).length=vB (p.map cG):=λp=>by
   induction p with
   |nil=>rfl
   |cons b p ih=>rw[og,eL,q8,ih];unfold vB;rw[eY,eY,List.sum_cons];rfl
  exact this p
 have hc2:∀s:List aA,vB (s.map<|sq C)=((aU s).filter<|λr=>decide<|r∈C).length:=λs=>by
  induction s with
  |nil=>rfl
  |cons b s ih=>
   rw[og,List.filter_append,eL,<-ih];unfold vB;rw[eY,eY,List.sum_cons];congr 1;show(dO _).length / 2=_;rw[(DM _).2];unfold oe;rw[List.filter_map,dU];rfl
 have hc3:((aU s).filter<|λr=>decide<|r∈C).length<=C.length:=gu (List.Nodup.sublist List.filter_sublist<|HJ hs) λr hr=>of_decide_eq_true (my.1 hr).2;rw[hc1,hsame];have e0:vB ([]:List Bd)=0:=rfl;have:=hc2 s;omega
section
variable {N:Nat}
theorem yS{all:List aH}(w:aH->Nat):∀(c:List Nat),((c.filterMap<|λi=>all[i]?).map w).sum=(c.map<|λi=>(all[i]?).elim 0 w).sum
 | []=>rfl
 |i::c=>by
  rw[eY,List.sum_cons,<-yS w c]
  cases h:all[i]? with
  |none=>rw[List.filterMap_cons_none (f:=λi=>all[i]?) h];simp
  |some x=>rw[List.filterMap_cons_some (f:=λi=>all[i]?) h,eY,List.sum_cons];rfl
theorem MY{all:List aH}{u:Nat->Nat}(h:∀i,i<all.length->u i∈bV all.length u)(w:aH->Nat):((bV all.length u).map<|λk=>((oX all all.length u k).map w).sum).sum=(all.map w).sum:=by
 have e:(λk=>((oX all all.length u k).map w).sum)=λk=>(((List.range all.length).filter<|λx=>decide<|u x=k).map<|λi=>(all[i]?).elim 0 w).sum:=by
  funext k;unfold oX;rw[yS];rfl
 rw[e,HB (oh _ _) u _<|λx hx=>h x<|re.1 hx];have:∀m,m<=all.length->((List.range m).map<|λi=>(all[i]?).elim 0 w).sum=((all.take m).map w).sum:=by
  intro m
  induction m with
  |zero=>intro _;rfl
  |succ m ih=>
   grind [DL,eA,aP]
 grind
theorem DN:∀{l m:List Nat},l.length=m.length->(∀(j x y:Nat),l[j]? =some x->m[j]? =some y->x<=y)->l.sum<=m.sum
 | [],[],_,_=>cH _
 | [],_::_,h,_=>by simp at h
 |_::_,[],h,_=>by simp at h
 |a::l,b::m,h,hle=>by
  have h1:=hle 0 a b rfl rfl;have h2:=DN (l:=l) (m:=m) (by simpa using h) λj x y hx hy=>hle (j+1) x y (by grind) (by grind);rw[List.sum_cons,List.sum_cons];omega
theorem JM{r hs:List aH}{s:List aA}(h1:∀x∈r,gl x=true)(h2:∀x∈hs,gl x=true)(hc:fF (s.map cG))(hl:zD (vn r++vn hs) (j6 r++j6 hs) (s.map cG)):∀q∈aU s,gl q=true/\q.X0<q.X1/\q.Y0<q.Y1:=by
 intro q hq;have hp:=vA hc q hq;obtain⟨b,hb,p,hpm,rfl⟩:=sY hq;have hll:=hl (cG b)<|dV.2 ⟨b,hb,rfl⟩
 have hm:=FQ p hpm;have bx:∀c∈vn r++vn hs,-1000000<=c/\c<=1000000:=λc hcm=>by
  rcases dD.1 hcm with h|h
  ·obtain⟨x,hx,h⟩:=vo.1 h;have:=ot<|h1 x hx
   omega
  ·obtain⟨x,hx,h⟩:=vo.1 h;have:=ot<|h2 x hx
   omega
 have by':∀c∈j6 r++j6 hs,-1000000<=c/\c<=1000000:=λc hcm=>by
  rcases dD.1 hcm with h|h
  ·obtain⟨x,hx,h⟩:=oc.1 h;have:=ot<|h1 x hx
   omega
  ·obtain⟨x,hx,h⟩:=oc.1 h;have:=ot<|h2 x hx
   omega
 have g1:=bx _<|hll.2.2 p.1 hm.1
 have g2:=bx _<|hll.2.2 p.2 hm.2
 have g3:=by' _ hll.1
 have g4:=by' _ hll.2.1
 exact⟨Dy ⟨g1,g3,g2,g4⟩,hp⟩
structure r7 (r hs:List aH) (s:List aA) (u:Nat->Nat) (ps:List (List aA)):Prop where
 r1:∀x∈r,gl x=true
 r2:∀x∈hs,gl x=true
 k1:∀x∈r,D3 x
 k2:∀x∈hs,D3 x
 dr:wh r hs s
 pt:t8 s u ps
 xN:(aU s).length<=2000
theorem r7.part{r hs:List aH}{s:List aA}{u:Nat->Nat}{ps:List (List aA)}(h:r7 r hs s u ps){p:List aA}(hp:p∈ps):fF (p.map cG)/\(aU p).length<=2000/\∀q∈aU p,gl q=true/\q.X0<q.X1/\q.Y0<q.Y1:=by
 obtain⟨sx,sy⟩:=h.dr.small h.k1 h.k2;obtain⟨j,k,g1,g2,g3,g4⟩:=DC h.pt h.dr.can h.dr.lim sx sy hp
 have:=E8 h.dr.can g3.can (λx hx=>by
  grind [mV,fQ]) g3.cover
 have h2:=Du (aU s) (aU s).length u k;have:=h.xN;exact⟨g3.can,by omega,JM h.r1 h.r2 g3.can g4⟩
theorem r7.bV{r hs:List aH}{s:List aA}{u:Nat->Nat}{ps:List (List aA)}(h:r7 r hs s u ps):∀i,i<(aU s).length->u i∈Gk.bV (aU s).length u:=λi hi=>jV.2 ⟨by have:=h.pt.join.le i hi;omega,h.pt.join.rr i hi⟩
theorem r7.total{r hs:List aH}{s:List aA}{u:Nat->Nat}{ps:List (List aA)}(h:r7 r hs s u ps):(ps.map<|λp=>(aU p).length).sum<=(aU s).length:=by
 have h1:=MY h.bV<|λ_=>1
 have one:∀l:List aH,(l.map<|λ_=>1).sum=l.length:=λl=>by
  induction l with
  |nil=>rfl
  |cons x l ih=>grind
 simp only[one]at h1;rw[<-h1];refine DN (by simp[h.pt.len]) λj x y hx hy=>?_;rw[jD,tS]at hx hy;obtain⟨p,hp,rfl⟩:=hx;obtain⟨k,hk,rfl⟩:=hy;have hs:=h.pt.each j k p hk hp
 exact E8 h.dr.can hs.can (λx hx=>by
  grind [mV,fQ]) hs.cover
theorem B8{ps:List (List aA)}{x y:Int}:uE (ps.flatMap aU) x y=true↔∃p∈ps,uE (aU p) x y=true:=by
 grind [kL]
theorem r7.cover{r hs:List aH}{s:List aA}{u:Nat->Nat}{ps:List (List aA)}(h:r7 r hs s u ps)(x y:Int):uE (ps.flatMap aU) x y=wX (s.map cG) x y:=by
 rw[<-q9 h.dr.can,gS,B8];constructor
 ·rintro⟨p,hp,hc⟩;obtain⟨j,hj⟩:=dW hp;have hjl:=(bN.1 hj).1;have hk:(Gk.bV (aU s).length u)[j]? =some ((Gk.bV (aU s).length u)[j]'(by rw[<-h.pt.len];exact hjl)):=aP _;have hs:=h.pt.each j _ _ hk hj;rw[q9 hs.can,hs.cover]at hc
  grind [kL,mV,fQ]
 ·intro hc;obtain⟨q,hq,h2⟩:=kL.1 hc;obtain⟨i,hi⟩:=dW hq;have hil:=(bN.1 hi).1;obtain⟨j,hj⟩:=dW<|h.bV i hil
  have hjl:j<ps.length:=by rw[h.pt.len];grind
  have hs:=h.pt.each j _ _ hj<|aP hjl
  refine⟨_,cL hjl,?_⟩;rw[q9 hs.can,hs.cover]
  grind [kL,mV]
section
variable {a:gQ}{kp:List (List aA)}{dJ:List (List (List aA))}{r:Nat->Nat}{gs:List cF}{ofP ofB kC:List Int}{kq:List dK}
theorem B9(b:kN a kp dJ r gs ofP ofB kC kq){i:Nat}(hi:i<a.aK.length):∃s ps u,kp[i]? =some s/\dJ[i]? =some ps/\r7 a.aK[i] (lk a.aN ((i:Nat):Int)) s u ps:=by
 have hd:kp[i]? =some (kp[i]'(by rw[b.dr.len];exact hi)):=aP _;have hp:dJ[i]? =some (dJ[i]'(by rw[b.dr.Bt];exact hi)):=aP _;have hdr:=b.dr.dr i _ _ hi (aP hi) hd;obtain⟨u,hu⟩:=b.dr.pt i _ _ hi hd hp;have hreg:=rL.1<|b.yG.Sp _<|cL hi
 exact⟨_,_,u,hd,hp,λx hx=>((uF.1 hreg.1).2 x hx).1,λx hx=>(tE b.yG.gb _ x hx).2,(Dz hreg.1).2,λx hx=>(tE b.yG.gb _ x hx).1,hdr,hu,b.xN.1 _<|fQ hd⟩
end
end
def DO(a b:aH):Prop:=(0<min a.X1 b.X1 - max a.X0 b.X0/\0<=min a.Y1 b.Y1 - max a.Y0 b.Y0)\/(0<=min a.X1 b.X1 - max a.X0 b.X0/\0<min a.Y1 b.Y1 - max a.Y0 b.Y0)
theorem KC{all:List aH}(hB:all.Pairwise uH)(hp:∀r∈all,r.X0<r.X1/\r.Y0<r.Y1){i j:Nat}{a c:aH}(ha:all[i]? =some a)(hc:all[j]? =some c):DO a c↔i=j\/AZ all i j\/AZ all j i:=by
 have h1:AZ all i j↔FU a c:=⟨λ⟨a',c',e1,e2,h⟩=>by grind,λh=>⟨a,c,ha,hc,h⟩⟩;have h2:AZ all j i↔FU c a:=⟨λ⟨a',c',e1,e2,h⟩=>by grind,λh=>⟨c,a,hc,ha,h⟩⟩
 grind [fQ,bN,DO,FU,Nat.lt_trichotomy,ov,uH]
theorem BC{α:Type}{q q':List α}(h:q <+:q'){t:Nat}{x:α}(hx:q[t]? =some x):q'[t]? =some x:=by
 obtain⟨r,rfl⟩:=h
 grind
def wm(f:Int->Int->Bool)(x y:Int):Prop:=f x y=true/\∀x' y',f x' y'=true->y<y'\/(y=y'/\x<=x')
theorem wm.unique{f:Int->Int->Bool}{x y x' y':Int}(h:wm f x y)(h':wm f x' y'):x=x'/\y=y':=by
 have h1:=h.2 _ _ h'.1;have h2:=h'.2 _ _ h.1;omega
theorem IU{a:aH}{l:List aH}(hp:∀r∈a::l,r.X0<r.X1/\r.Y0<r.Y1)(hB:∀r∈l,uH a r):wm (uE<|a::l) a.X0 a.Y0:=by
 have pa:=hp a (by simp);refine⟨kL.2 ⟨a,by simp,by omega,by omega⟩,λx' y' h=>?_⟩
 grind [kL,uH]
theorem IV{s:List aA}(hc:fF (s.map cG))(hne:s≠[]):∃r t,aU s=r::t/\wm (λx y=>wX (s.map cG) x y) r.X0 r.Y0/\JK s= ⟨r.X0,r.Y0⟩:=by
 cases s with
 |nil=>grind
 |cons b s=>
  have hx:=hc.each (cG b) (by simp);have hxs:b.Xs≠[]:=hx.2.1;have he:b.Xs.length % 2=0:=hx.2.2.2;obtain⟨x0,x1,xs,e⟩:∃x0 x1 xs,b.Xs=x0::x1::xs:=by
   match hb:b.Xs with
   | []=>grind
   | [x0]=>grind
   |x0::x1::xs=>simp
  have hr:aU (b::s)= ⟨x0,b.Y0,x1,b.Y1⟩::((Dk xs).map (λp=>(⟨p.1,b.Y0,p.2,b.Y1⟩:aH))++aU s):=by
   rw[og];unfold oe;rw[e];rfl
  have hB:=sR hc;have hpos:=vA hc;rw[hr]at hB hpos;refine⟨_,_,hr,?_,by grind [JK]⟩;have:=IU hpos (pz.1 hB).1;rw[<-hr]at this;refine⟨?_,λx' y' h=>this.2 x' y' ?_⟩
  ·show wX _ _ _=true;rw[<-q9 hc];exact this.1
  grind [q9]
theorem E9{all:List aH}{u:Nat->Nat}(hB:all.Pairwise uH)(hp:∀r∈all,r.X0<r.X1/\r.Y0<r.Y1)(hJ:Joined all u){h:Nat}{a:aH}(ha:all[h]? =some a)(hu:u h=h):wm (uE<|oX all all.length u h) a.X0 a.Y0:=by
 obtain⟨hl,e⟩:=bN.1 ha;have pa:=hp a<|fQ ha
 refine⟨kL.2 ⟨a,mV.2 ⟨h,hl,hu,ha⟩,by omega,by omega⟩,λx' y' hc=>?_⟩;obtain⟨r,hr,hx,hy⟩:=kL.1 hc;obtain⟨k,hk,huk,hrk⟩:=mV.1 hr;have hle:=hJ.le k hk
 grind [bN,ov,uH]
theorem wo{u:Nat->Nat}:∀(d i:Nat),∃t,bV (i+d) u=bV i u++t
 | 0,i=>⟨[],by simp⟩
 |d+1,i=>by
  obtain⟨t,ht⟩:=wo (u:=u) d i;rw[<-Nat.add_assoc,g9,ht];split
  ·exact⟨t++[i+d],by simp⟩
  ·exact⟨t,rfl⟩
theorem LV{u:Nat->Nat}{i n:Nat}(hi:i<n)(hu:u i=i):(bV n u)[(bV i u).length]? =some i:=by
 obtain⟨t,ht⟩:=wo (u:=u) (n -(i+1))<|i+1
 rw[show i+1+(n -(i+1))=n by omega]at ht
 grind [g9]
section
variable {N:Nat}
theorem KD{a b:aH}(ha:D3 a)(hb:D3 b):jz N a b=some (decide<|DO a b):=by
 have a1:=ha.s1;have a2:=ha.s2;have a3:=ha.s3;have a4:=ha.s4;have b1:=hb.s1;have b2:=hb.s2;have b3:=hb.s3;have b4:=hb.s4;unfold small at a1 a2 a3 a4 b1 b2 b3 b4;unfold jz;rw[yj,yj,yk,yk,fP (x:=min a.X1 b.X1 - max a.X0 b.X0) (by omega) (by omega),fP (x:=min a.Y1 b.Y1 - max a.Y0 b.Y0) (by omega) (by omega)]
 grind [DO,gt_iff_lt,ge_iff_le]
theorem insert_eq{l:List (List aH)}{r0:aH}{t:List aH}(hl:l.length<=1000000)(hN:4398046511104<=N)(h:∀x,l[l.length - 1]? =some x->∃x0 t',x=x0::t'/\¬(r0.Y0<x0.Y0\/(r0.Y0=x0.Y0/\r0.X0<x0.X0))):kc N l (r0::t)=some (l++[r0::t]):=by
 refine TT ?_;unfold kc;refine S3 (T4 (Go:=λs=>s=((l.length:Nat):Int)) (Rt:=λ_=>False) (λs=>s=((l.length:Nat):Int)) (λs=>0) ?_ rfl (by omega)) ?_
 ·rintro s rfl
  by_cases h0:l.length=0
  ·grind [bQ,aB,Tu]
  ·rw[bO (by omega),aM,ja (by omega) (by omega)];have hx:l[l.length - 1]? =some (l[l.length - 1]'(by omega)):=aP _;obtain⟨x0,t',e,hn⟩:=h _ hx;have i1:idx (r0::t) 0=some r0:=rfl;have i2:idx (l[l.length - 1]'(by omega)) 0=some x0:=by rw[e];rfl
   rw[i1,aB,cC hx,aB,i2,aB]
   grind [iY,aB,decide,Tu]
 intro o ho;refine Tv ho ?_<|λr hr=>hr.elim
 rintro s rfl;refine IT (tj l l.length<|cH _)<|TM ?_<|TM ?_<|IT (rB l l.length<|cH _)<|TM ?_<|SR ?_
 all_goals grind
structure BI (all:List aH) (u:Nat->Nat) (i:Nat) (q:List Nat) (done:List Bool) (own:List aH):Prop where
 len:done.length=all.length
 nd:q.Nodup
 lt:∀k∈q,k<all.length/\u k=i
 hd:i∈q
 dn:∀k,k<all.length->done[k]? =some (decide<|u k<i\/k∈q)
 ow:own.map some=q.map (λk=>all[k]?)
theorem BI.QM{all:List aH}{u:Nat->Nat}{i:Nat}{q:List Nat}{done:List Bool}{own:List aH}(h:BI all u i q done own):own.length=q.length:=by
 have:=congrArg List.length h.ow
 grind
theorem BI.xN{all:List aH}{u:Nat->Nat}{i:Nat}{q:List Nat}{done:List Bool}{own:List aH}(h:BI all u i q done own):q.length<=all.length:=by
 have:=gu h.nd (m:=List.range all.length) (λk hk=>by rw[re];exact(h.lt k hk).1)
 grind
theorem BI.at_{all:List aH}{u:Nat->Nat}{i:Nat}{q:List Nat}{done:List Bool}{own:List aH}(h:BI all u i q done own){p k:Nat}(hk:q[p]? =some k):own[p]? =all[k]? :=by
 have e:=congrArg (λl=>l[p]?) h.ow
 grind
theorem BI.mem{all:List aH}{u:Nat->Nat}{i:Nat}{q:List Nat}{done:List Bool}{own:List aH}(h:BI all u i q done own){r:aH}:r∈own↔∃k∈q,all[k]? =some r:=by
 have:r∈own↔some r∈own.map some:=by simp
 rw[this,h.ow,dV]
theorem HL{s:List aA}{u:Nat->Nat}{ps:List (List aA)}(hc:fF (s.map cG))(hP:t8 s u ps)(hn:(aU s).length<=2000)(hok:∀r∈aU s,D3 r)(hps:∀p∈ps,(aU p).length<=2000)(hN:4398046511104<=N):
  gh N (aU s)=some (ps.map aU):=by
 refine TT ?_;have hB:=sR hc;have hpos:=vA hc;have hJ:=hP.join;have hlen:=hP.len;have heach:=hP.each;clear hP hc;generalize aU s=all at *;unfold gh;refine IT (pD false (by omega)) ?_;have hadj:∀a b,(AZ all a b\/AZ all b a)->u a=u b:=λa b h=>h.elim (λh=>hJ.co a b h)<|λh=>(hJ.co b a h).symm
 refine S3 (TJ (n:=all.length) (λst=>st.2.2) (λi st=>st.1.length=all.length/\(∀k,k<all.length->st.1[k]? =some (decide (u k<i)))/\st.2.1=(ps.take (bV i u).length).map aU) (Go:=λst=>st.2.1=ps.map aU) (Rt:=λ_=>False) ?_ ?_ (cT _) rfl
  ⟨by simp,λk hk=>by simp[hk],by simp[bV]⟩ (by omega)) ?_
 ·rintro i⟨done,out,ii⟩hi e⟨hdl,hdn,hout⟩;dsimp only at e hdl hdn hout ⊢;subst e;rw[jK hi,aM];refine Tc (hdn i hi)<|Tx (λhb=>?_)<|λhb=>?_
  ·have hlt:u i<i:=of_decide_eq_true hb;refine Tk ⟨bI (by omega),hdl,λk hk=>?_,?_⟩
   ·rw[hdn k hk];congr 1;rw[decide_eq_decide];have hne:u k≠i:=λe=>by have:=hJ.rr k hk;grind
    omega
   grind [g9]
  ·have hge:¬u i<i:=of_decide_eq_false hb;have hui:u i=i:=by have:=hJ.le i hi;omega
   have hx:all[i]? =some all[i]:=aP hi;refine Tc (hdn i hi)<|Tc hx ?_
   refine S3 (T4 (Go:=λst=>st.1.length=all.length/\(∀k,k<all.length->st.1[k]? =some (decide (u k<i+1)))/\(∀r,r∈st.2.1↔r∈oX all all.length u i)/\st.2.1.length<=all.length) (Rt:=λ_=>False)
    (λst=>∃(q:List Nat)(t:Nat),st.2.2=((t:Nat):Int)/\t<=q.length/\BI all u i q st.1 st.2.1/\∀(p k j:Nat),p<t->q[p]? =some k->j<all.length->(AZ all k j\/AZ all j k)->j∈q)
    (λst=>all.length+1 - st.2.2.toNat) ?_ ⟨[i],0,rfl,by simp,?_,λp k j hp=>by omega⟩ (by simp;omega)) ?_
   ·rintro⟨d1,o1,t'⟩⟨q,t,e,ht,hI,hcl⟩;dsimp only at e hI ⊢;subst e;have hql:=hI.xN;have hol:=hI.QM
    by_cases hlt:t<q.length
    ·rw[jK (by omega:t<o1.length),aM];have hqt:q[t]? =some q[t]:=aP hlt;have hkt:=hI.lt _<|cL hlt
     have hya:all[q[t]]? =some all[q[t]]:=aP hkt.1
     refine S3 (TJ (n:=all.length) (λst=>st.2.2) (λj st=>∃q',q <+:q'/\BI all u i q' st.1 st.2.1/\∀j',j'<j->(AZ all q[t] j'\/AZ all j' q[t])->j'∈q')
      (Go:=λst=>∃q',q <+:q'/\BI all u i q' st.1 st.2.1/\∀j',j'<all.length->(AZ all q[t] j'\/AZ all j' q[t])->j'∈q') (Rt:=λ_=>False) ?_ ?_ (cT _) rfl ⟨q,List.prefix_refl _,hI,λj' hj=>by omega⟩ (by omega)) ?_
     ·rintro j⟨d2,o2,jj⟩hj e⟨q',hpre,hI',hc'⟩;dsimp only at e hI' ⊢;subst e;rw[jK hj,aM];have hq't:q'[t]? =some q[t]:=by rw[BC hpre hqt]
      have hy2:o2[t]? =some all[q[t]]:=by rw[hI'.at_ hq't];exact hya
      have hz:all[j]? =some all[j]:=aP hj;have htc:=KC hB hpos hya hz;have hcond:((idx d2 ((j:Nat):Int)).bind λx1054=>bif(!x1054)then((idx o2 ((t:Nat):Int)).bind λx1056=>(idx all ((j:Nat):Int)).bind λx1058=>(jz N x1056 x1058).bind λx1061=>some x1061)else some false)=some (!decide (u j<i\/j∈q')&&decide (DO all[q[t]] all[j])):=by
       rw[cC<|hI'.dn j hj,aB]
       cases decide (u j<i\/j∈q')with
       |true=>rfl
       |false=>rw[jG,aM,cC hy2,aB,cC hz,aB,KD (hok _ (cL hkt.1)) (hok _ (cL hj)),aB,Bool.true_and]
      refine IT hcond ?_;refine S3 (P:=λst:List Bool×List aH=>∃q',q <+:q'/\BI all u i q' st.1 st.2/\∀j',j'<j+1->(AZ all q[t] j'\/AZ all j' q[t])->j'∈q') (Tx (λhb=>?_)<|λhb=>?_)<|λst hst=>Tk ⟨bI (by omega),hst⟩
      ·rw[cO,Bool.not_eq_true',decide_eq_false_iff_not,cP]at hb;have hju:u j=i:=by
        rcases htc.1 hb.2 with h|h
        ·rw[<-h];exact hkt.2
        ·rw[<-hadj _ _ h];exact hkt.2
       have hjq:j∉q':=λh=>hb.1<|.inr h
       have hol2:=hI'.QM;have hql2:=hI'.xN;refine Tc (hI'.dn j hj)<|Tc hz<|TM (by simp only[fq,List.length_nil];omega)<|SR ⟨q'++[j],hpre.trans<|List.prefix_append _ _,⟨?_,?_,?_,?_,?_,?_⟩,?_⟩
       ·rw[iO];exact hI'.len
       ·rw[List.nodup_append];exact⟨hI'.nd,by simp,λa ha b hb=>by simp at hb;subst hb;exact λe=>hjq<|e▸ha⟩
       ·intro k hk
        rcases dD.1 hk with hk|hk
        ·exact hI'.lt k hk
        ·simp at hk;subst hk;exact⟨hj,hju⟩
       ·exact List.mem_append_left _ hI'.hd
       ·intro k hk;rw[cI,ln]
        by_cases e:j=k
        ·subst e;rw[aG rfl,aG (by rw[hI'.len];exact hj)];congr 1;exact(bO<|.inr (by simp)).symm
        ·rw[aI e,hI'.dn k hk];congr 1;rw[decide_eq_decide,dD];simp only[l4];constructor
         ·exact λh=>h.elim .inl<|λh=> .inr<|.inl h
         ·exact λh=>h.elim .inl<|λh=>h.elim .inr<|λh=>absurd h.symm e
       ·rw[fO,fO,hI'.ow];simp[hz]
       ·intro j' hj' ha
        by_cases e:j'=j
        ·subst e;simp
        ·exact List.mem_append_left _<|hc' j' (by omega) ha
      ·refine SR ⟨q',hpre,hI',λj' hj' ha=>?_⟩
       by_cases e:j'=j
       ·subst e;have hj2:u j'=i:=by rw[<-hadj _ _ ha];exact hkt.2
        rw[bO<|htc.2<|.inr ha,Bool.and_true,Bool.not_eq_false',cP]at hb
        rcases hb with hb|hb
        ·omega
        ·exact hb
       ·exact hc' j' (by omega) ha
     ·rintro⟨d2,o2,jj⟩e hI2;dsimp only at e hI2 ⊢;subst e;rw[nz,aQ];exact Tu hI2
     intro o ho;refine Tv ho ?_<|λr hr=>hr.elim
     rintro⟨d2,o2,jj⟩⟨q',hpre,hI',hc'⟩;dsimp only at hI' ⊢;refine Tk ⟨⟨q',t+1,bI (by omega),?_,hI',λp k j hp hk hj ha=>?_⟩,?_⟩
     ·have:=hpre.length_le;omega
     ·by_cases e:p=t
      ·subst e;rw[BC hpre hqt]at hk;injection hk with hk;subst hk
       exact hc' j hj ha
      ·have hpq:q[p]? =some (q[p]'(by omega)):=aP _;rw[BC hpre hpq]at hk;injection hk with hk;subst hk
       exact hpre.subset<|hcl p _ j (by omega) hpq hj ha
     ·rw[bI (by omega)];simp only[cI];omega
    ·rw[AK (by omega:o1.length<=t),aQ];have htq:t=q.length:=by omega
     have hcls:∀k,k<all.length->(k∈q↔u k=i):=λk hk=>⟨λh=>(hI.lt k h).2,λh=>by
      have hstep:∀a b,AZ all a b->(a∈q↔b∈q):=λa b hab=>by
       have hab':=hab;obtain⟨ra,rb,e1,e2,_⟩:=hab';have hla:=(bN.1 e1).1;have hlb:=(bN.1 e2).1;constructor
       ·intro h';obtain⟨p,hp⟩:=dW h';exact hcl p a b (by rw[htq];exact(bN.1 hp).1) hp hlb<|.inl hab
       ·intro h';obtain⟨p,hp⟩:=dW h';exact hcl p b a (by rw[htq];exact(bN.1 hp).1) hp hla<|.inr hab
      exact hJ.fi (λk=>k∈q) hstep i k hi hk (by rw[hui,h]) hI.hd⟩
     refine Tu ⟨hI.len,λk hk=>?_,λr=>?_,by rw[hol];exact hql⟩
     ·rw[hI.dn k hk];congr 1;rw[decide_eq_decide,hcls k hk];omega
     ·rw[hI.mem,mV];constructor
      ·rintro⟨k,hk,h⟩;exact⟨k,(hI.lt k hk).1,(hI.lt k hk).2,h⟩
      ·rintro⟨k,hk,h1,h2⟩;exact⟨k,(hcls k hk).2 h1,h2⟩
   ·refine⟨by rw[iO];exact hdl,by simp,λk hk=>by simp at hk;subst hk;exact⟨hi,hui⟩,by simp,λk hk=>?_,by simp[hx]⟩;rw[cI,ln]
    by_cases e:i=k
    ·subst e;rw[aG rfl,aG (by rw[hdl];exact hi)];congr 1;exact(bO<|.inr (by simp)).symm
    ·rw[aI e,hdn k hk];congr 1;rw[decide_eq_decide];simp only[l4];omega
   intro o ho;refine Tv ho ?_<|λr hr=>hr.elim
   rintro⟨d1,o1,t'⟩⟨g1,g2,g3,g4⟩;dsimp only at g1 g2 g3 g4 ⊢;have hh:=LV hi hui;have hml:(bV i u).length<ps.length:=by rw[hlen];exact(bN.1 hh).1
   have hpp:ps[(bV i u).length]? =some ps[(bV i u).length]:=aP hml;have ox:=heach _ _ _ hh hpp;have hcov:∀x y,wX (ps[(bV i u).length].map cG) x y=uE o1 x y:=λx y=>by rw[ox.cover];exact(MQ g3 x y).symm
   have hpl:=hps _<|cL hml
   refine IT (wk ox.can hcov (by omega) (λr hr=>?_) (by omega) hN) ?_
   ·obtain⟨k,_,_,hk⟩:=mV.1<|(g3 r).1 hr
    exact(hpos r<|fQ hk).1
   have hfirst:∀(j h:Nat)p,(bV all.length u)[j]? =some h->ps[j]? =some p->∃r t a,aU p=r::t/\all[h]? =some a/\r.X0=a.X0/\r.Y0=a.Y0:=λj h p hj hp=>by
    have hs:=heach j h p hj hp;obtain⟨hhl,hhu⟩:=jV.1<|fQ hj
    have ha:all[h]? =some all[h]:=aP hhl;have hne:p≠[]:=λe=>by
     have hL:=(E9 hB hpos hJ ha hhu).1;rw[<-hs.cover,e]at hL
     cases hL
    obtain⟨r,t,e1,e2,_⟩:=IV hs.can hne;have e2':wm (uE<|oX all all.length u h) r.X0 r.Y0:=⟨by rw[<-hs.cover];exact e2.1,λx' y' hxy=>e2.2 x' y' (by simp only;rw[hs.cover];exact hxy)⟩;obtain⟨e3,e4⟩:=e2'.unique<|E9 hB hpos hJ ha hhu
    exact⟨r,t,all[h],e1,ha,e3,e4⟩
   obtain⟨r,t,a,e1,e2,e3,e4⟩:=hfirst _ _ _ hh hpp;have hheads:(bV i u).length<=i:=mm i u;rw[e1];refine IT (insert_eq (by rw[hout,dU,dI];omega) hN<|λx hxl=>?_)<|Tk ⟨bI (by omega),g1,g2,?_⟩
   ·have hol:out.length=(bV i u).length:=by rw[hout,dU,dI];omega
    have hpos2:0<(bV i u).length:=by
     have:=(bN.1 hxl).1;omega
    rw[hout,jD,dU,dI,show min (bV i u).length ps.length=(bV i u).length by omega,List.getElem?_take_of_lt (by omega)]at hxl;have hp2:ps[(bV i u).length - 1]? =some (ps[(bV i u).length - 1]'(by omega)):=aP _;rw[hp2]at hxl;injection hxl with hxl
    have hh2:(bV i u)[(bV i u).length - 1]? =some ((bV i u)[(bV i u).length - 1]'(by omega)):=aP _;have hm2:=jV.1<|fQ hh2
    obtain⟨tl,htl⟩:=wo (u:=u) (all.length - i) i;rw[show i+(all.length - i)=all.length by omega]at htl;have hh3:(bV all.length u)[(bV i u).length - 1]? =some ((bV i u)[(bV i u).length - 1]'(by omega)):=by rw[htl,jB (by omega)];exact hh2
    obtain⟨r',t',a',f1,f2,f3,f4⟩:=hfirst _ _ _ hh3 hp2;refine⟨r',t',by rw[<-hxl];exact f1,?_⟩;obtain⟨l1,q1⟩:=bN.1 f2;obtain⟨l2,q2⟩:=bN.1 e2;have hbh:=ov.1 hB _ _ l1 l2 hm2.1;rw[q1,q2]at hbh;have p1:=hpos a'<|fQ f2
    unfold uH at hbh;rw[e3,e4,f3,f4];omega
   ·dsimp only;rw[g9,aG hui,eL,hout];simp only[fq,List.length_nil];rw[eA hml,fO,eY,List.map_nil,e1]
 ·rintro⟨done,out,ii⟩e⟨_,_,hout⟩;dsimp only at e hout ⊢;subst e;rw[nz,aQ];refine Tu ?_;dsimp only;rw[hout,mz (by rw[hlen];omega)]
 intro o ho;exact Tv ho (λs hs=>SR hs)<|λr hr=>hr.elim
end
section
variable {α β:Type}
theorem LW{N:Nat}{l:List α}{s:β}{φ:α->β->Option Int}(c:α->Int)(hφ:∀x,φ x s=some (c x))(hs:∀(i j:Nat)(x y:α),i<j->l[i]? =some x->l[j]? =some y->0<=c x->0<c y)
  (hl:l.length<=1048576) (hN:4194304<=N):∃r,Ls N l s φ=some r/\r.2=l.any (λx=>c x==0)/\(r.2=true->r.1=Jr l (λx=>c x==0)):=by
 show Ok (Ls N l s φ) (λr=>r.2=l.any (λx=>c x==0)/\(r.2=true->r.1=Jr l (λx=>c x==0)));unfold Ls
 refine S3 (T4 (Go:=λst:Int×Int=>∃a:Nat,st.1=((a:Nat):Int)/\a<=l.length/\(∀j x,j<a->l[j]? =some x->c x<0)/\(∀j x,a<=j->l[j]? =some x->0<=c x)) (Rt:=λ_=>True)
  (λst=>∃a b:Nat,st=(((a:Nat):Int),((b:Nat):Int))/\a<=b/\b<=l.length/\(∀j x,j<a->l[j]? =some x->c x<0)/\(∀j x,b<=j->l[j]? =some x->0<=c x))
  (λst=>(st.2 - st.1).toNat) ?_ ⟨0,l.length,rfl,by omega,cH _,λj x hj=>by omega,λj x hj hx=>by grind⟩ (by omega)) ?_
 ·rintro st⟨a,b,rfl,hab,hb,h1,h2⟩;dsimp only
  by_cases hlt:a<b
  ·have hm:(a+b) / 2<l.length:=by omega
   have hx:l[(a+b) / 2]? =some l[(a+b) / 2]:=aP hm;rw[show decide (((a:Nat):Int)<((b:Nat):Int))=true by grind,aM,Ke hlt (by omega)];refine Tc hx<|IT (hφ _) ?_
   by_cases hc:c l[(a+b) / 2]<0
   ·rw[bO hc,aM,aB];refine Tk ⟨⟨(a+b) / 2+1,b,?_,by omega,hb,λj x hj hx'=>?_,h2⟩,?_⟩
    ·rw[bI (by omega)]
    ·by_cases e:j=(a+b) / 2
     ·subst e;rw[hx]at hx';injection hx' with hx';rw[<-hx'];exact hc
     ·by_cases h0:c x<0
      ·exact h0
      ·have:=hs j _ x _ (by omega) hx' hx (by omega);omega
    ·rw[bI (by omega)];simp only;omega
   ·rw[bQ hc,aQ,aB];refine Tk ⟨⟨a,(a+b) / 2,rfl,by omega,by omega,h1,λj x hj hx'=>?_⟩,by simp only;omega⟩
    by_cases e:j=(a+b) / 2
    ·subst e;rw[hx]at hx';injection hx' with hx';rw[<-hx'];omega
    ·have:=hs _ j _ x (by omega) hx hx' (by omega);omega
  ·rw[show decide (((a:Nat):Int)<((b:Nat):Int))=false by rw[decide_eq_false_iff_not];omega,aQ];exact Tu ⟨a,rfl,by omega,h1,λj x hj hx=>h2 j x (by omega) hx⟩
 intro o ho;refine Tv ho ?_<|λr hr=>r.elim
 rintro⟨st1,st2⟩⟨a,ha,hle,h1,h2⟩;dsimp only at ha ⊢;subst ha
 by_cases hlt:a<l.length
 ·have hx:l[a]? =some l[a]:=aP hlt;rw[show decide (((a:Nat):Int)<((l.length:Nat):Int))=true by rw[cP];omega,aM,cC hx,aB,hφ,aB,aB];refine SR ?_
  by_cases he:c l[a]=0
  ·have hb:(c l[a]==0)=true:=by rw[beq_iff_eq];exact he
   rw[hb];refine⟨(kI.2 ⟨_,cL hlt,hb⟩).symm,λ_=>?_⟩;rw[He hx hb (λj y hj hy=>by have:=h1 j y hj hy;rw[beq_eq_false_iff_ne];omega)]
  ·have hb:(c l[a]==0)=false:=by rw[beq_eq_false_iff_ne];exact he
   rw[hb];refine⟨?_,λh=>by cases h⟩;symm;rw[List.any_eq_false];intro x hx';obtain⟨j,hj⟩:=dW hx';rw[l5,beq_eq_false_iff_ne]
   by_cases hja:j<a
   ·have:=h1 j x hja hj;omega
   ·by_cases e:j=a
    ·subst e;rw[hx]at hj;injection hj with hj;rw[<-hj];exact he
    ·have h3:=h2 a _ (cH _) hx;have:=hs a j _ x (by omega) hx hj h3;omega
 ·rw[show decide (((a:Nat):Int)<((l.length:Nat):Int))=false by rw[decide_eq_false_iff_not];omega,aQ,aB];refine SR ⟨?_,λh=>by cases h⟩;symm;rw[List.any_eq_false];intro x hx';obtain⟨j,hj⟩:=dW hx';have:=(bN.1 hj).1;have:=h1 j x (by omega) hj;rw[l5,beq_eq_false_iff_ne];omega
end
def xR(p q:dQ):Prop:=eJ.lt p.Part q.Part\/(p.Part=q.Part/\eJ.lt p.dQ q.dQ)
theorem JN{p q:dQ}(h1:p.Part=q.Part)(h2:p.dQ=q.dQ):p=q:=by cases p;simp_all
theorem xR.irrefl(p:dQ):¬xR p p:=λh=>by
 rcases h with h|⟨_,h⟩
 ·exact eJ.lt_irrefl _ h
 ·exact eJ.lt_irrefl _ h
theorem xR.trans{p q r:dQ}(h1:xR p q)(h2:xR q r):xR p r:=by
 rcases h1 with h1|⟨e1,h1⟩ <;> rcases h2 with h2|⟨e2,h2⟩
 ·exact .inl<|eJ.lt_trans h1 h2
 ·exact .inl (by grind)
 ·exact .inl (by grind)
 ·exact .inr ⟨e1.trans e2,eJ.lt_trans h1 h2⟩
theorem xR.total(p q:dQ):xR p q\/p=q\/xR q p:=by
 rcases eJ.Hc p.Part q.Part with h|h|h
 ·exact .inl<|.inl h
 ·rcases eJ.Hc p.dQ q.dQ with h'|h'|h'
  ·exact .inl<|.inr ⟨h,h'⟩
  ·grind [JN]
  ·exact .inr<|.inr<|.inr ⟨h.symm,h'⟩
 ·exact .inr<|.inr<|.inl h
theorem xR.asymm{p q:dQ}(h:xR p q):¬xR q p:=λh'=>xR.irrefl p<|h.trans h'
theorem xR.ne{p q:dQ}(h:xR p q):p≠q:=by grind [xR.irrefl]
theorem BD{a b:eJ}:Lib.compareBytes a.dL b.dL=0↔a=b:=by grind [eJ.ext',C4]
theorem mN{p q:dQ}:gJ p q=0↔p=q:=by
 grind [gJ,Lib.compareBytes,BD,JN]
theorem zz{p q:dQ}:gJ p q<0↔xR p q:=by
 unfold gJ xR
 by_cases h:Lib.compareBytes p.Part.dL q.Part.dL=0
 ·rw[aI (by simpa using h),zg];have e:=BD.1 h;constructor
  ·exact λh'=> .inr ⟨e,h'⟩
  ·rintro(h'|⟨_,h'⟩)
   ·grind [eJ.lt_irrefl]
   ·exact h'
 ·rw[aG h,zg];constructor
  ·exact λh'=> .inl h'
  ·rintro(h'|⟨e,_⟩)
   ·exact h'
   grind [BD]
theorem pP{p q:dQ}:0<gJ p q↔xR q p:=by
 constructor
 ·intro h
  rcases xR.total p q with h'|h'|h'
  ·have:=zz.2 h';omega
  all_goals grind [mN]
 ·intro h
  by_cases h1:gJ p q<0
  ·exact absurd (zz.1 h1) h.asymm
  ·by_cases h2:gJ p q=0
   ·exact absurd (mN.1 h2).symm h.ne
   ·omega
section
variable {N:Nat}
structure IW (a:gQ) (x:cS):Prop where
 name:oY x.Part=true/\isWord x.dQ=true
 QJ:0<=x.dN/\x.dN<((a.aK.length:Nat):Int)
 at_:tD x.At=true
structure vC (a:gQ):Prop where
 xN:a.bJ.length<=1000
 each:∀x∈a.bJ,IW a x
 up:a.bJ.Pairwise (λx y=>xR (kM x)<|kM y)
theorem F5{a:gQ}{k:Nat}{x:cS}(hx:a.bJ[k]? =some x)(h:lu a k=none):IW a x/\∀y,0<k->a.bJ[k - 1]? =some y->xR (kM y) (kM x):=by
 unfold lu at h;rw[hx,Option.bind_some]at h;split at h
 ·rename_i h1;split at h
  ·rename_i h2;split at h
   ·cases h
   ·rename_i h3;rw[cO]at h1 h2;unfold gT at h2;rw[cO,cP,cP]at h2;refine⟨⟨h1,⟨by omega,by omega⟩,h2.2⟩,λy hk hy=>?_⟩
    grind [gJ,pP]
  ·cases h
 ·cases h
theorem DQ{a:gQ}{k:Nat}{e:Int}(h:lu a k=some e):e≠0:=by
 unfold lu at h
 cases hx:a.bJ[k]? with
 |none=>grind
 |some x=>
  rw[hx,Option.bind_some]at h
  repeat' split at h
  all_goals grind
theorem KE{a:gQ}(h:mY a=0):vC a:=by
 unfold mY at h;split at h
 ·omega
 rename_i hl;have hn:nK a.bJ.length (lu a)=none:=by
  cases hf:nK a.bJ.length (lu a)with
  |none=>rfl
  |some e=>
   grind [iG,DQ]
 rw[jA]at hn;have hg:∀(k:Nat)x,a.bJ[k]? =some x->IW a x/\∀y,0<k->a.bJ[k - 1]? =some y->xR (kM y) (kM x):=λk x hx=>F5 hx<|hn k (bN.1 hx).1
 refine⟨by omega,λx hx=>?_,?_⟩
 ·grind [dW]
 ·have hstep:∀(n i:Nat)x y,a.bJ[i]? =some x->a.bJ[i+n+1]? =some y->xR (kM x) (kM y):=by
   intro n
   induction n with
   |zero=>grind
   |succ n ih=>
    intro i x y hx hy;have hz:i+n+1<a.bJ.length:=by grind
    have h1:=ih i x _ hx<|aP hz
    exact h1.trans<|(hg (i+(n+1)+1) y hy).2 _ (by omega) (by grind)
  rw[ov];intro i j hi hj hij;exact hstep (j - i - 1) i _ _ (aP hi) (by rw[show i+(j - i - 1)+1=j by omega];exact aP hj)
theorem vC.inj{a:gQ}(h:vC a){i j:Nat}{x y:cS}(hx:a.bJ[i]? =some x)(hy:a.bJ[j]? =some y)(e:kM x=kM y):i=j:=by
 obtain⟨h1,rfl⟩:=bN.1 hx;obtain⟨h2,rfl⟩:=bN.1 hy;have hp:=ov.1 h.up
 rcases Nat.lt_trichotomy i j with h3|h3|h3
 ·exact absurd e (hp i j h1 h2 h3).ne
 ·exact h3
 ·exact absurd e.symm (hp j i h2 h1 h3).ne
theorem HM{l:List cS}{p:dQ}(hu:l.Pairwise (λx y=>xR (kM x)<|kM y))(hl:l.length<=1048576)(hN:4194304<=N){φ:cS->dQ->Option Int}(hφ:∀x,φ x p=some (gJ (kM x) p)):
  ∃r,Ls N l p φ=some r/\(bif(!r.2)then some (-1)else some r.1)=some (Jr l<|λx=>decide<|kM x=p):=by
 obtain⟨r,h1,h2,h3⟩:=LW (N:=N) (l:=l) (s:=p) (φ:=φ) (λx=>gJ (kM x) p) hφ (λi j x y hij hx hy hc=>by
  obtain⟨g1,rfl⟩:=bN.1 hx;obtain⟨g2,rfl⟩:=bN.1 hy;have hlt:=ov.1 hu i j g1 g2 hij;refine pP.2 ?_
  by_cases h0:gJ (kM l[i]) p=0
  ·rw[<-mN.1 h0];exact hlt
  ·exact(pP.1 (by omega)).trans hlt) hl hN
 have e:(λx=>gJ (kM x) p==0)=(λx=>decide<|kM x=p):=by
  funext x;rw[gS,beq_iff_eq,cP,mN]
 rw[e]at h2 h3;refine⟨r,h1,?_⟩
 cases hr:r.2 with
 |true=>simp only[jF,aQ];rw[h3 hr]
 |false=>
  simp only[jG,aM];rw[hr]at h2;rw[Hd h2.symm]
def jL(a:gQ)(p:dQ):Int:=Jr a.bJ<|λx=>decide<|kM x=p
theorem HN(a:gQ)(p:dQ):(jL a p = -1/\∀x∈a.bJ,kM x≠p)\/∃(k:Nat)(x:cS),jL a p=((k:Nat):Int)/\a.bJ[k]? =some x/\kM x=p:=by
 rcases x8 a.bJ (λx=>decide<|kM x=p)with⟨h1,h2⟩|⟨k,x,h1,h2,h3,_⟩
 ·exact .inl ⟨h1,λx hx=>of_decide_eq_false<|h2 x hx⟩
 ·exact .inr ⟨k,x,h1,h2,of_decide_eq_true h3⟩
end
theorem xS{α β:Type}{l:List α}{f:α->Option β}{k:Nat}{x:α}{c:β}(hx:l[k]? =some x)(hn:∀(j:Nat)y,j<k->l[j]? =some y->f y=none)(hc:f x=some c):l.findSome? f=some c:=by
 obtain⟨hk,rfl⟩:=bN.1 hx;rw[List.findSome?_eq_some_iff];refine⟨l.take k,l[k],l.drop<|k+1,?_,hc,λy hy=>?_⟩
 ·rw[List.getElem_cons_drop,List.take_append_drop]
 grind [dW,bN,dI,List.getElem?_take_of_lt]
theorem Ca{α β:Type}{l:List α}{f:α->Option β}(h:∀(j:Nat)y,j<l.length->l[j]? =some y->f y=none):l.findSome? f=none:=by
 grind [List.findSome?_eq_none_iff,dW,bN]
section
variable {N:Nat}
theorem QN(c:UInt8):(bif(!(((decide (((c.toNat:Nat):Int)>=97)&&decide (((c.toNat:Nat):Int)<=122))||(decide (((c.toNat:Nat):Int)>=65)&&decide (((c.toNat:Nat):Int)<=90)))||(decide (((c.toNat:Nat):Int)>=48)&&decide (((c.toNat:Nat):Int)<=57))))then((iz N (⟨[95,43,45,35]⟩) ((c.toNat:Nat):Int)).bind λx50=>some<|decide<|x50<0)else some false)=some (Ho c):=by
 rw[wg,aB];unfold Ho;generalize decide (Lib.indexByte (⟨[95,43,45,35]⟩:eJ).dL c<0)=p;have e:(!(((decide (((c.toNat:Nat):Int)>=97)&&decide (((c.toNat:Nat):Int)<=122))||(decide (((c.toNat:Nat):Int)>=65)&&decide (((c.toNat:Nat):Int)<=90)))||(decide (((c.toNat:Nat):Int)>=48)&&decide (((c.toNat:Nat):Int)<=57))))=(((decide (((c.toNat:Nat):Int)<65)||decide (((c.toNat:Nat):Int)>90))&&(decide (((c.toNat:Nat):Int)<97)||decide (((c.toNat:Nat):Int)>122)))&&(decide (((c.toNat:Nat):Int)<48)||decide (((c.toNat:Nat):Int)>57))):=by
  grind
 grind
theorem Cb{s:eJ}(h:s.dL.length<=2097152)(hN:4194304<=N):gW N s=some (isWord s):=by
 refine TT ?_;unfold gW isWord;refine S3 (TJ (n:=s.dL.length) (λs=>s) (λk _=>∀(j:Nat)x,j<k->s.dL[j]? =some x->Ho x=false) (Go:=λ_=>s.dL.any Ho=false) (Rt:=λr=>r=false/\s.dL.any Ho=true) ?_ ?_ (cT _) rfl (λj x hj=>by omega) (by omega)) ?_
 ·rintro k i hk e hI;subst e;rw[jK hk,aM];refine IT (Hb s k hk)<|IT (QN _)<|Tx (λhb=>TW ⟨rfl,kI.2 ⟨_,cL hk,hb⟩⟩)<|λhb=>Tk ⟨bI (by omega),λj x hj hx=>?_⟩
  grind
 ·grind [Tu,List.any_eq_false,dW,bN]
 intro o ho;refine Tv ho (λs' hs'=>?_)<|λr hr=>SR (by grind)
 rw[hs'];show Ok ((some _).bind _) _
 grind [SR,jG]
theorem HO{s:eJ}(h:s.dL.length<=2097152)(hN:4194304<=N):kb N s=some (oY s):=by
 refine TT ?_;unfold kb oY;refine IT (Hq 47 h hN) ?_;have hsn:=E0 s 47;refine S3 (TJ (n:=(pN s 47).length) (λs=>s) (λk _=>∀(j:Nat)x,j<k->(pN s 47)[j]? =some x->isWord x=true) (Go:=λ_=>(pN s 47).all isWord=true) (Rt:=λr=>r=false/\(pN s 47).all isWord=false) ?_ ?_ (cT _) rfl (λj x hj=>by omega) (by omega)) ?_
 ·rintro k i hk e hI;subst e;rw[jK hk,aM];have hx:(pN s 47)[k]? =some (pN s 47)[k]:=aP hk;have hl:=EZ<|cL hk
  refine Tc hx<|IT (Cb (by omega) hN)<|Tx (λhb=>TW ⟨rfl,?_⟩)<|λhb=>Tk ⟨bI (by omega),λj x hj hx'=>?_⟩
  ·grind
  grind
 ·grind [Tu,nA,dW,bN]
 intro o ho;refine Tv ho (λs' hs'=>SR ?_)<|λr hr=>SR (by grind)
 grind
theorem ug(n lo hi:Int):eI N n lo hi=some (gT n lo hi):=rfl
theorem px{b:bR}(h:sj b=true):cN N b=some (xJ b):=oq (N:=N) h
theorem BE{b:bR}:iq N b=some (nH b).2:=by
 have e1:(bif(!(gT b.dT 1 10000))then some true else some (!(tD b.At)))=some (!sj b):=by unfold sj;cases gT b.dT 1 10000 <;> rfl
 have e2:∀n,cU N n=some (oj n):=λ_=>rfl;unfold iq nH;rw[ug,aB,B1,aB,e1,aB]
 cases hf:sj b with
 |false=>rfl
 |true=>
  rw[jF,aQ,px hf,aB];simp only[e2,aB];unfold gl
  cases oj (xJ b).X0 <;> cases oj (xJ b).Y0 <;> cases oj (xJ b).X1 <;> cases oj (xJ b).Y1 <;> rfl
theorem OG{x y:cS}:(x.Part.nI y.Part||(x.Part.o6 y.Part&&(x.dQ.nI y.dQ||x.dQ.o6 y.dQ)))=decide (gJ (kM x) (kM y)<=0):=by
 have hle:gJ (kM x) (kM y)<=0↔xR (kM x) (kM y)\/kM x=kM y:=by
  rw[<-zz,<-mN];omega
 rw[gS,cP,hle,gR,cO,gR,Ah,Ah];unfold xR kM;simp only[dQ.mk.injEq];constructor
 ·rintro(h|⟨h1,h2|h2⟩)
  ·exact .inl<|.inl h
  ·exact .inl<|.inr ⟨h1,h2⟩
  grind
 ·rintro((h|⟨h1,h2⟩)|⟨h1,h2⟩)
  ·exact .inl h
  ·exact .inr ⟨h1, .inl h2⟩
  grind
theorem DR{a:gQ}(hc:a.aK.length<=1073741824)(hl:a.bJ.length<=1073741824){k:Nat}{x:cS}(hx:a.bJ[k]? =some x)(hn:x.Part.dL.length<=2097152/\x.dQ.dL.length<=2097152)(hN:4194304<=N):i5 N a ((k:Nat):Int)=some ((lu a k).getD 0):=by
 have hk:=(bN.1 hx).1;have hw:wrap .i64 (((a.aK.length:Nat):Int) - 1)=((a.aK.length:Nat):Int) - 1:=fP (by omega) (by omega);unfold i5 lu;rw[cC hx,aB,HO hn.1 hN,aB,hx,Option.bind_some];have e1:(bif(!(oY x.Part))then some true else((gW N x.dQ).bind λx44=>some<|!x44))=some (!(oY x.Part&&isWord x.dQ)):=by
  grind [Cb,aB,oY]
 rw[e1,aB]
 cases h1:(oY x.Part&&isWord x.dQ)with
 |false=>rfl
 |true=>
  rw[jF,aQ,aG rfl,hw,ug,aB];have e2:(bif(!(gT x.dN 0<|((a.aK.length:Nat):Int) - 1))then some true else((gC N x.At).bind λx57=>some<|!x57))=some (!(gT x.dN 0 (((a.aK.length:Nat):Int) - 1)&&tD x.At)):=by
   grind [B1,aB]
  rw[e2,aB]
  cases h2:(gT x.dN 0 (((a.aK.length:Nat):Int) - 1)&&tD x.At)with
  |false=>rfl
  |true=>
   rw[jF,aQ,aG rfl]
   by_cases h0:0<k
   ·have hy:a.bJ[k - 1]? =some (a.bJ[k - 1]'(by omega)):=aP _;rw[bO (by omega),aM,ja h0 (by omega),cC hy,aB,OG]
    by_cases h3:gJ (kM x) (kM<|a.bJ[k - 1]'(by omega))<=0
    ·rw[bO h3,aM,aG ⟨h0,_,hy,h3⟩];rfl
    grind
   grind
noncomputable def mZ(a:gQ):Int:=if a.aK.length=0 then 9 else if 16<a.aK.length then 2 else match a.aK.findSome? yF with
 |some e=>e
 |none=>if jW a.cJ≠0 then jW a.cJ else if 2000<a.cJ.length+(a.aK.map List.length).sum then 2 else if jy a≠0 then jy a else mY a
theorem HQ(a:gQ):kG a=if mZ a≠0 then mZ a else if sm a then 12 else 0:=by
  unfold kG mZ Kw FY
  by_cases h0 : a.aK.length = 0
  · rw [if_pos h0, if_pos h0, if_pos (by decide)]
  rw [if_neg h0, if_neg h0]
  by_cases h1 : 16 < a.aK.length
  · rw [if_pos h1, if_pos h1, if_pos (by decide)]
  rw [if_neg h1, if_neg h1]
  cases hf : a.aK.findSome? yF with
  | some e =>
    have he : e ≠ 0 := by
      obtain ⟨_, x, _, _, hx, _⟩ := List.findSome?_eq_some_iff.1 hf
      unfold yF at hx
      split at hx
      · rename_i h; injection hx with hx; rw [← hx]; exact h
      · cases hx
    dsimp only
    rw [if_pos he]
  | none =>
    dsimp only
    by_cases h2 : jW a.cJ ≠ 0
    · rw [if_pos h2, if_pos h2, if_pos h2]
    rw [if_neg h2, if_neg h2]
    by_cases h3 : 2000 < a.cJ.length + (a.aK.map List.length).sum
    · rw [if_pos h3, if_pos h3, if_pos (by decide)]
    rw [if_neg h3, if_neg h3]
    by_cases h4 : jy a ≠ 0
    · rw [if_pos h4, if_pos h4, if_pos h4]
    rw [if_neg h4, if_neg h4]
theorem DS{a:gQ}(h:mZ a=0):jy a=0:=by
 unfold mZ at h
 grind [yF,List.findSome?_eq_some_iff,jW,List.length,jy]
theorem Co{a:gQ}(hs:tH a)(hN:4398046511104<=N):iJ N a=some (mZ a):=by
 refine TT ?_;have c1:=hs.cs;have c2:=hs.out;have c3:=hs.bs;have c4:=hs.ls;unfold iJ mZ;refine Tx (λh=>SR ?_)<|λh=>?_
 ·grind
 have h0:¬a.aK.length=0:=by grind
 rw[aI h0];refine Tx (λh=>SR ?_)<|λh=>?_
 ·grind
 have h1:¬16<a.aK.length:=by grind
 rw[aI h1];have sumle:∀k,k<=a.aK.length->((a.aK.take k).map List.length).sum<=k*1048576:=by
  intro k
  induction k with
  |zero=>intro _;simp
  |succ k ih=>
   intro hk;have:=ih (by omega);have h2:=hs.each _<|cL (show k<a.aK.length by omega)
   rw[eA (by omega),fO,List.sum_append]
   grind
 refine S3 (TJ (n:=a.aK.length) (λs=>s.2) (λk s=>s.1=((a.cJ.length+((a.aK.take k).map List.length).sum:Nat):Int)/\∀(j:Nat)r,j<k->a.aK[j]? =some r->yF r=none)
  (Go:=λs=>s.1=((a.cJ.length+(a.aK.map List.length).sum:Nat):Int)/\a.aK.findSome? yF=none) (Rt:=λr=>a.aK.findSome? yF=some r) ?_ ?_ (cT _) rfl ⟨by simp,λj r hj=>by omega⟩ (by omega)) ?_
 ·rintro k⟨m,i⟩hk e⟨hm,hI⟩;dsimp only at e hm ⊢;subst e;subst hm;have hx:a.aK[k]? =some a.aK[k]:=aP hk;have he:=hs.each _<|cL hk
  have hsl:=sumle k (by omega);rw[jK hk,aM];refine Tc hx<|IT (wD (by omega) hN)<|Tx (λhb=>TW ?_)<|λhb=>Tc hx<|Tk ⟨bI (by omega),?_,λj r hj hr=>?_⟩
  ·grind [xS,yF]
  ·dsimp only;rw[wrap_add (by omega),eA hk,fO,List.sum_append]
   grind
  grind [yF]
 ·rintro⟨m,i⟩e⟨hm,hI⟩;dsimp only at e hm ⊢;subst e;rw[nz,aQ];rw[fG]at hm;exact Tu ⟨hm,Ca hI⟩
 intro o ho;refine Tv ho ?_<|λr hr=>SR (by rw[hr])
 rintro⟨m,i⟩⟨hm,hf⟩;dsimp only at hm ⊢;subst hm;rw[hf];dsimp only;refine IT (wD (by omega) hN)<|Tx (λh=>SR ?_)<|λh=>?_
 ·rw[aG (by simpa using h)]
 rw[aI (by simpa using h)];have hmr:Ok (bif decide (((a.cJ.length+(a.aK.map List.length).sum:Nat):Int)>2000)then some true else some (decide<|((a.aN.length:Nat):Int)>500)) (λb=>b=decide (2000<a.cJ.length+(a.aK.map List.length).sum\/500<a.aN.length)):=by
  by_cases h2:2000<a.cJ.length+(a.aK.map List.length).sum
  ·rw[bO (by omega),aM];exact SR (bO<|.inl h2).symm
  ·rw[bQ (by omega),aQ];refine SR ?_;rw[decide_eq_decide];omega
 refine S3 hmr λb hb=>?_;subst hb;refine Tx (λh=>SR ?_)<|λh=>?_
 ·have h:=of_decide_eq_true h
  by_cases h2:2000<a.cJ.length+(a.aK.map List.length).sum
  ·rw[aG h2]
  ·rw[aI h2];have hb:jy a=2:=by unfold jy;rw[aG (by omega)]
   rw[hb,aG (by decide)]
 have h:=of_decide_eq_false h;rw[aI (by omega)];have hbe:jy a=(a.aN.findSome?<|mJ a.aK.length).getD 0:=by unfold jy;rw[aI (by omega)]
 have hw:wrap .i64 (((a.aK.length:Nat):Int) - 1)=((a.aK.length:Nat):Int) - 1:=fP (by omega) (by omega);refine S3 (TJ (n:=a.aN.length) (λs=>s) (λk _=>∀(j:Nat)b,j<k->a.aN[j]? =some b->mJ a.aK.length b=none) (Go:=λ_=>a.aN.findSome? (mJ a.aK.length)=none) (Rt:=λr=>a.aN.findSome? (mJ a.aK.length)=some r/\r≠0) ?_ ?_ (cT _) rfl (λj b hj=>by omega) (by omega)) ?_
 ·rintro k i hk e hI;subst e;rw[jK hk,aM];have hx:a.aN[k]? =some a.aN[k]:=aP hk;refine Tc hx<|IT BE<|Tx (λhb=>TW ?_)<|λhb=>?_
  ·have hb:(nH a.aN[k]).2≠0:=by simpa using hb
   exact⟨xS hx hI (by unfold mJ;rw[aG hb]),hb⟩
  ·have hb:¬(nH a.aN[k]).2≠0:=by simpa using hb
   rw[hw];have e2:((eI N a.aN[k].cR 0<|((a.aK.length:Nat):Int) - 1).bind λx135=>bif(!x135)then some true else((eI N a.aN[k].To a.aN[k].cR<|((a.aK.length:Nat):Int) - 1).bind λx138=>some<|!x138))=some (!(gT a.aN[k].cR 0 (((a.aK.length:Nat):Int) - 1)&&gT a.aN[k].To a.aN[k].cR (((a.aK.length:Nat):Int) - 1))):=by
    rw[ug,aB,ug,aB]
    cases gT a.aN[k].cR 0 (((a.aK.length:Nat):Int) - 1) <;> rfl
   refine IT e2<|Tx (λh3=>TW ⟨xS hx hI ?_,by decide⟩)<|λh3=>Tk ⟨bI (by omega),λj b hj hb'=>?_⟩
   ·unfold mJ;rw[aI hb,aI (by rintro⟨g1,g2⟩;rw[g1,g2]at h3;cases h3)]
   ·by_cases e:j=k
    ·subst e;rw[hx]at hb';injection hb' with hb';rw[<-hb']
     rw[Bool.not_eq_false',cO]at h3;unfold mJ;rw[aI hb,aG h3]
    ·exact hI j b (by omega) hb'
 ·rintro i e hI;subst e;rw[nz,aQ];exact Tu<|Ca hI
 intro o ho;refine Tv ho ?_<|λr hr=>SR ?_
 rotate_left
 ·rw[hbe,hr.1,Option.getD_some,aG hr.2]
 intro _ hbn;rw[hbe,hbn,Option.getD_none,aI (by decide)];unfold mY;refine Tx (λh=>SR ?_)<|λh=>?_
 ·rw[aG (by have:=of_decide_eq_true h;omega)]
 have h5:¬1000<a.bJ.length:=by have:=of_decide_eq_false h;omega
 rw[aI h5];refine S3 (TJ (n:=a.bJ.length) (λs=>s) (λk _=>∀j,j<k->lu a j=none) (Go:=λ_=>nK a.bJ.length (lu a)=none) (Rt:=λr=>nK a.bJ.length (lu a)=some r) ?_ ?_ (cT _) rfl (λj hj=>by omega) (by omega)) ?_
 ·rintro k i hk e hI;subst e;rw[jK hk,aM];have hx:a.bJ[k]? =some a.bJ[k]:=aP hk;refine IT (DR (by omega) (by omega) hx (hs.nm _<|cL hk) (by omega))<|Tx (λhb=>TW ?_)<|λhb=>Tk ⟨bI (by omega),λj hj=>?_⟩
  ·cases hl:lu a k with
   |none=>rw[hl]at hb;cases hb
   |some e=>exact iG.2 ⟨k,hk,hl,hI⟩
  ·by_cases e:j=k
   ·subst e
    cases hl:lu a j with
    |none=>rfl
    |some e=>rw[hl]at hb;exact absurd (by simpa using hb) (DQ hl)
   ·exact hI j (by omega)
 ·rintro i e hI;subst e;rw[nz,aQ];exact Tu<|jA.2 hI
 intro o ho;exact Tv ho (λ_ h=>SR (by rw[h];rfl))<|λr hr=>SR (by rw[hr];rfl)
theorem wq(b:bR)(k:Int):fL N b k=some (mn b k):=rfl
theorem xT{a:gQ}{i:Nat}{r:List aH}{s:List aA}(hb:kV a.aN)(hr:a.aK[i]? =some r)(hrl:r.length<=2000)(hro:∀x∈r,D3 x)(hd:wh r (lk a.aN ((i:Nat):Int)) s)(hN:4398046511104<=N):gM N a ((i:Nat):Int)=some (aU s):=by
 refine TT ?_;have hbl:=hb.len;have hhl:=Bs hb ((i:Nat):Int);have hho:=tE hb ((i:Nat):Int);unfold gM;refine S3 (TJ (n:=a.aN.length) (λs=>s.2) (λk st=>st.1=lk (a.aN.take k) ((i:Nat):Int)) (Go:=λst=>st.1=lk a.aN ((i:Nat):Int)) (Rt:=λ_=>False) ?_ ?_ (cT _) rfl rfl (by omega)) ?_
 ·rintro k⟨out,ii⟩hk e hI;dsimp only at e hI ⊢;subst e;subst hI;have hx:a.aN[k]? =some a.aN[k]:=aP hk;have hts:lk (a.aN.take<|k+1) ((i:Nat):Int)=if mn a.aN[k] ((i:Nat):Int)=true then lk (a.aN.take k) ((i:Nat):Int)++[xJ a.aN[k]]else lk (a.aN.take k) ((i:Nat):Int):=by
   grind [lk,eA]
  have hlen:(lk (a.aN.take k) ((i:Nat):Int)).length<=k:=by
   unfold lk
   grind
  rw[jK hk,aM];refine Tc hx<|IT (wq _ _)<|S3 (P:=λst:List aH=>st=lk (a.aN.take<|k+1) ((i:Nat):Int)) (Tx (λh=>?_)<|λh=>SR ?_)<|λst hst=>Tk ⟨bI (by omega),hst⟩
  ·refine Tc hx<|IT (px (hb.ok _<|cL hk).1)<|TM (by grind)<|SR ?_
   rw[hts,aG h]
  grind
 ·simp[nz,aQ,Tu,fG]
 intro o ho;refine Tv ho ?_<|λr hr=>hr.elim
 rintro⟨hs,ii⟩hI;dsimp only at hI ⊢;subst hI;obtain⟨t,_,ht⟩:=qZ (N:=N) (l:=lk a.aN ((i:Nat):Int)) (by omega) (λx hx=>(hho x hx).1) (by omega);obtain⟨z1,z2,z3⟩:=ht.Hs;have z4:2*(lk a.aN ((i:Nat):Int)).length*(2*(lk a.aN ((i:Nat):Int)).length)<=1000*1000:=Nat.mul_le_mul (by omega) (by omega);refine Tc hr<|IT (wk ht.can ht.cover (by omega) (λx hx=>(hho x hx).1.x) (by omega) hN) ?_
 unfold lr;have hsz:=(yh (A:=5000) hd.can hd.lim (by grind [eL,tA]) (by grind [eL,mU])).2.2
 have hc:ig N r (aU t) 3=some (aU s):=HI hd.can (λx y=>by
  rw[hd.cover,q9 ht.can,ht.cover];rfl) (by omega) (by omega) (λx hx=>(hro x hx).x) (λx hx=>(vA ht.can x hx).1) (by omega) hN
 grind [aB,SR]
theorem BF:∀(dJ:List (List<|List aA))(k:Nat),(bY k dJ).length=(dJ.map List.length).sum
 | [],k=>rfl
 |ps::dJ,k=>by
  show(ps.map _++bY (k+1) dJ).length=_;rw[eL,dU,BF dJ<|k+1,eY,List.sum_cons]
theorem KF{a:gQ}{kp:List (List aA)}{dJ:List (List<|List aA)}(hg:rl a)(hD:xM a.aK a.aN a.aK.length kp dJ){i:Nat}{s:List aA}(hi:i<a.aK.length)(hd:kp[i]? =some s)(hf:(aU s).length<=2000):∃ps u,dJ[i]? =some ps/\r7 a.aK[i] (lk a.aN ((i:Nat):Int)) s u ps:=by
 have hp:dJ[i]? =some (dJ[i]'(by rw[hD.Bt];exact hi)):=aP _;have hdr:=hD.dr i _ _ hi (aP hi) hd;obtain⟨u,hu⟩:=hD.pt i _ _ hi hd hp;have hreg:=rL.1<|hg.Sp _<|cL hi
 exact⟨_,u,hp,λx hx=>((uF.1 hreg.1).2 x hx).1,λx hx=>(tE hg.gb _ x hx).2,(Dz hreg.1).2,λx hx=>(tE hg.gb _ x hx).1,hdr,hu,hf⟩
theorem r7.pieces{r hs:List aH}{s:List aA}{u:Nat->Nat}{ps:List (List aA)}(h:r7 r hs s u ps)(hN:4398046511104<=N):gh N (aU s)=some (ps.map aU):=by
 refine HL h.dr.can h.pt h.xN (λq hq=>?_) (λp hp=>(h.part hp).2.1) hN;obtain⟨h1,h2,h3⟩:=JM h.r1 h.r2 h.dr.can h.dr.lim q hq
 grind [FV]
theorem IX{a b:aH}(ha:a.X0<a.X1/\a.Y0<a.Y1)(hb:b.X0<b.X1/\b.Y0<b.Y1):gD N a b=some (Hz a b):=by
 unfold gD
 grind [yj,yk,decide,Min.min,Max.max,Hy,Hz]
theorem sq_pos{b:bR}(h:sj b=true):(xJ b).X0<(xJ b).X1/\(xJ b).Y0<(xJ b).Y1:=by
 obtain⟨h1,_,_⟩:=t9 h;simp only[xJ];omega
inductive Checked (N:Nat) (a:gQ):Prop
 |err (e:Int) (he:e≠0) (h1:iA N a=some (none,e)) (h2:dA N a=some e)
 |ok {kp:List (List aA)} {dJ:List (List (List aA))} {r:Nat->Nat} {gs:List cF} {ofP ofB kC:List Int} {kq:List dK} (b:kN a kp dJ r gs ofP ofB kC kq)
  (h1:iA N a=some (some (a.aK,a.cJ,a.aN,a.bJ,kp,bY 0 dJ,cK a.aN<|bY 0 dJ,gs,ofP,ofB,kC,kq),0)) (h2:dA N a=some 0)
theorem JO{a:gQ}(hb:kV a.aN)(hN:4398046511104<=N){f:Int->Option Int}{Q:Int->Prop}(hc:sm a->Q 12)(hn:¬sm a->∀s,Ok (f s) Q):
  Ok ((jg (λ(s35:Int)=>(bif decide (s35<(a.aN.length:Int))then((jg (λ(s622:Int)=>(bif decide (s622<s35)then(((idx a.aN s35).bind λx869=>(idx a.aN s622).bind λx873=>(i6 N x869 x873).bind λx876=>bif x876 then((idx a.aN s35).bind λx879=>(cN N x879).bind λx882=>(idx a.aN s622).bind λx885=>(cN N x885).bind λx888=>(gD N x882 x888).bind λx890=>some x890)else some false).bind λs867=>bif s867 then some (.rt 12)else some (.nx<|wrap .i64<|s622+1))else(some<|.br s622):Option (Fl Int Int))) N 0).bind λo911=>o911.cs (λ(s622:Int)=>some<|.nx<|wrap .i64<|s35+1)<|λr=>some<|.rt r)else(some<|.br s35):Option (Fl Int Int))) N 0).bind λo933=>o933.cs f<|λr=>some r) Q:=by
 have hbl:=hb.len;refine S3 (TJ (n:=a.aN.length) (λs=>s) (λk _=>∀(i j:Nat)(x y:bR),i<k->j<i->a.aN[i]? =some x->a.aN[j]? =some y->¬tG x y=true) (Go:=λ_=>¬sm a) (Rt:=λr=>r=12/\sm a) ?_ ?_ (cT _) rfl (λi j x y hi=>by omega) (by omega)) ?_
 ·rintro k s hk e hI;subst e;rw[jK hk,aM];have hx:a.aN[k]? =some a.aN[k]:=aP hk;have fx:=(hb.ok _<|cL hk).1;refine S3 (TJ (n:=k) (λs=>s) (λt _=>∀(j:Nat)(y:bR),j<t->a.aN[j]? =some y->¬tG a.aN[k] y=true) (Go:=λ_=>∀(j:Nat)(y:bR),j<k->a.aN[j]? =some y->¬tG a.aN[k] y=true) (Rt:=λr=>r=12/\sm a) ?_ ?_ (cT _) rfl (λj y hj=>by omega) (by omega)) ?_
  ·rintro t s ht e hI2;subst e;rw[jK ht,aM];have hy:a.aN[t]? =some (a.aN[t]'(by omega)):=aP _;have fy:=(hb.ok _<|cL (show t<a.aN.length by omega)).1;have hcond:((idx a.aN ((k:Nat):Int)).bind λx869=>(idx a.aN ((t:Nat):Int)).bind λx873=>(i6 N x869 x873).bind λx876=>bif x876 then((idx a.aN ((k:Nat):Int)).bind λx879=>(cN N x879).bind λx882=>(idx a.aN ((t:Nat):Int)).bind λx885=>(cN N x885).bind λx888=>(gD N x882 x888).bind λx890=>some x890)else some false)=some (tG a.aN[k]<|a.aN[t]'(by omega)):=by
    rw[cC hx,aB,cC hy,aB];unfold i6 tG;rw[aB]
    cases(decide (a.aN[k].cR<=(a.aN[t]'(by omega)).To)&&decide ((a.aN[t]'(by omega)).cR<=a.aN[k].To))with
    |false=>rfl
    |true=>grind [aB,px,IX,sq_pos]
   refine IT hcond<|Tx (λh=>TW ⟨rfl,k,t,_,_,ht,hx,hy,h⟩)<|λh=>Tk ⟨bI (by omega),λj y hj hjy=>?_⟩
   grind
  ·grind [Tu]
  intro o ho;refine Tv ho (λs hs=>Tk ⟨bI (by omega),λi j x y hi hj hix hjy=>?_⟩)<|λr hr=>TW hr
  grind
 ·rintro s e hI;subst e;rw[nz,aQ];refine Tu ?_;rintro⟨i,j,x,y,hij,hx,hy,hc⟩;exact hI i j x y (bN.1 hx).1 hij hx hy hc
 intro o ho;exact Tv ho (λs hs=>hn hs s)<|λr hr=>SR (by rw[hr.1];exact hc hr.2)
theorem checked{a:gQ}(hs:tH a)(hN:4398046511104<=N):Checked N a:=by
 obtain⟨x,hx,hI⟩:=Bz (N:=N) hs hN;have hbe:=HQ a;have hcp:=Co (N:=N) hs hN
 rcases hI with⟨he,rfl⟩|⟨h0,hg,hcl,kp,dJ,D,hI⟩
 ·refine .err _ he hx<|TT ?_
  unfold dA;refine IT hcp ?_
  by_cases h:mZ a≠0
  ·rw[aG h]at hbe;rw[show(mZ a != 0)=true by simpa using h,aM,hbe];exact SR rfl
  ·rw[aI h]at hbe;have hp0:mZ a=0:=by simpa using h
   have hc:sm a:=by
    by_cases hc:sm a
    ·exact hc
    ·rw[aI hc]at hbe;exact absurd hbe he
   rw[aG hc]at hbe;rw[hp0,show((0:Int) != 0)=false by rfl,aQ];have hbo:=DS hp0;refine JO ⟨(ng hbo).1,λb hb=>⟨((ng hbo).2 b hb).1,((ng hbo).2 b hb).2.1⟩⟩ hN (λ_=>hbe.symm)<|λh=>absurd hc h
 ·have hp0:mZ a=0:=by
   by_cases h:mZ a≠0
   ·rw[aG h]at hbe;rw[hbe]at h0;exact h0
   ·simpa using h
  have key:dA N a=some (if OW kp dJ then 0 else 2):=by
   refine TT ?_;unfold dA;refine IT hcp ?_;rw[hp0,show((0:Int) != 0)=false by rfl,aQ];refine JO hg.gb hN (λh=>absurd h hcl)<|λ_ _=>?_
   have hc16:=hg.xN.2
   refine S3 (TJ (n:=a.aK.length) (λs=>s.2) (λk st=>st.1=((((dJ.take k).map List.length).sum:Nat):Int)/\((dJ.take k).map List.length).sum<=k*2000/\∀(j:Nat)s,j<k->kp[j]? =some s->(aU s).length<=2000)
    (Go:=λst=>st.1=(((dJ.map List.length).sum:Nat):Int)/\∀s∈kp,(aU s).length<=2000) (Rt:=λr=>r=2/\¬OW kp dJ) ?_ ?_ (cT _) rfl ⟨by simp,by simp,λj s hj=>by omega⟩ (by omega)) ?_
   ·rintro k⟨m,i⟩hk e⟨hm,hml,hI2⟩;dsimp only at e hm ⊢;subst e;subst hm;rw[jK hk,aM];have hcx:a.aK[k]? =some a.aK[k]:=aP hk;have hd:kp[k]? =some (kp[k]'(by rw[D.len];exact hk)):=aP _;have hcs:=hg.cs _<|cL hk
    refine IT (xT hg.gb hcx hcs.1 hcs.2 (D.dr k _ _ hk hcx hd) hN)<|Tx (λh=>TW ⟨rfl,λhf=>?_⟩)<|λh=>?_
    ·have:=hf.1 _<|fQ hd
     have:=of_decide_eq_true h;omega
    ·have hf:(aU<|kp[k]'(by rw[D.len];exact hk)).length<=2000:=by have:=of_decide_eq_false h;omega
     obtain⟨ps,u,hp,L⟩:=KF hg D hk hd hf;have hpl:=L.pt.xN;have hkp:k<dJ.length:=by rw[D.Bt];exact hk
     have hpe:dJ[k]=ps:=by rw[aP hkp]at hp;injection hp
     refine IT (L.pieces hN)<|Tk ⟨bI (by omega),?_,?_,λj s hj hjs=>?_⟩
     ·dsimp only;rw[dU,wrap_add (by omega),eA hkp,fO,List.sum_append,hpe];simp
     ·rw[eA hkp,fO,List.sum_append,hpe];simp only[eY,List.map_nil,List.sum_cons,List.sum_nil];rw[Nat.add_mul];omega
     ·by_cases e:j=k
      ·subst e;rw[hd]at hjs;injection hjs with hjs;rw[<-hjs];exact hf
      ·exact hI2 j s (by omega) hjs
   ·rintro⟨m,i⟩e⟨hm,hml,hI2⟩;dsimp only at e hm ⊢;subst e;rw[nz,aQ];rw[mz (by rw[D.Bt];exact cH _)]at hm;refine Tu ⟨hm,λs hs'=>?_⟩;obtain⟨j,hj⟩:=dW hs';exact hI2 j s (by have:=(bN.1 hj).1;rw[D.len]at this;exact this) hj
   intro o ho;refine Tv ho ?_<|λr hr=>SR (by rw[hr.1,aI hr.2])
   rintro⟨m,i⟩⟨hm,hf⟩;dsimp only at hm ⊢;subst hm;have hpl:=BF dJ 0;refine Tx (λh=>SR ?_)<|λh=>SR ?_
   ·rw[aI];rintro⟨_,h2⟩;have:=of_decide_eq_true h;omega
   ·rw[aG];exact⟨hf,by have:=of_decide_eq_false h;omega⟩
  rcases hI with⟨hf,rfl⟩|⟨hf,r,gs,ofP,ofB,kC,kq,hC,rfl⟩
  ·rw[aI hf]at key;exact .err 2 (by decide) hx key
  ·rw[aG hf]at key;exact .ok ⟨hg,hcl,D,hf,hC⟩ hx key
end
theorem CD:∀{l m:List Int},j7 l->j7 m->(∀x,x∈l↔x∈m)->l=m
 | [],[],_,_,_=>rfl
 | [],b::m,_,_,h=>absurd ((h b).2 (by simp)) (by simp)
 |a::l,[],_,_,h=>absurd ((h a).1 (by simp)) (by simp)
 |a::l,b::m,hl,hm,h=>by
  have h1:a=b:=by
   have ha:=(h a).1 (by simp);have hb:=(h b).2 (by simp)
   rcases eF.1 ha with e|ha
   ·exact e
   ·rcases eF.1 hb with e|hb
    ·exact e.symm
    ·have:=hl.head b hb;have:=hm.head a ha;omega
  subst h1;rw[CD hl.tail hm.tail λx=>?_];have hx:=h x;rw[eF,eF]at hx;constructor
  ·intro hxl
   rcases hx.1 (.inr hxl)with e|h'
   ·have:=hl.head x hxl;omega
   ·exact h'
  ·intro hxm
   rcases hx.2 (.inr hxm)with e|h'
   ·have:=hm.head x hxm;omega
   ·exact h'
theorem HR{l:List Nat}(h:l.Pairwise (· < ·)):j7 (ints l):=by
 unfold j7 ints
 grind
section
variable {N:Nat}
theorem DT{l:List Int}{c:Int}(h:j7 l)(hl:l.length<=1000000000)(hN:4398046511104<=N):i9 N l c=some (sP l c):=by
 refine TT ?_;unfold i9
 refine S3 (T4 (Go:=λs=>∃a:Nat,s=((a:Nat):Int)/\a<=l.length/\(∀(j:Nat)x,a<=j->l[j]? =some x->c<x)/\(∀x,0<a->l[a - 1]? =some x->¬c<x)) (Rt:=λ_=>False)
  (λs=>∃a:Nat,s=((a:Nat):Int)/\a<=l.length/\∀(j:Nat)x,a<=j->l[j]? =some x->c<x) (λs=>s.toNat) ?_ ⟨l.length,rfl,cH _,λj x hj hx=>by grind⟩ (by omega)) ?_
 ·rintro s⟨a,rfl,ha,hI⟩
  by_cases h0:0<a
  ·have hx:l[a - 1]? =some (l[a - 1]'(by omega)):=aP _;rw[bO (by omega),aM,ja h0 (by omega),cC hx,aB,aB]
   grind [Tk,cI,of_decide_eq_false,Tu]
  grind [bQ,aB,Tu]
 intro o ho;refine Tv ho ?_<|λr hr=>hr.elim
 rintro s⟨a,rfl,ha,hI,hE⟩;have hlow:∀(j:Nat)x,j<a->l[j]? =some x->x<=c:=λj x hj hx=>by
  have hy:l[a - 1]? =some (l[a - 1]'(by omega)):=aP _;have h1:=hE _ (by omega) hy
  by_cases e:j=a - 1
  ·grind
  ·have:=h.lt (i:=j) (j:=a - 1) (by omega) hx hy;omega
 have hout:c∉l->sP l c=l.take a++c::l.drop a:=λhc=>by
  grind [sP,sO,decide,bO,fQ,bQ]
 have hrest:c∉l->Ok ((uj l 0 ((a:Nat):Int)).bind λx61=>(app 8 ([]:List Int) x61).bind λx63=>(app 8 x63 ([c]:List Int)).bind λx66=>(uj l ((a:Nat):Int) ((l.length:Nat):Int)).bind λx68=>(app 8 x66 x68).bind λx70=>some x70) (λr=>r=sP l c):=λhc=>by
  have htk:(l.take a).length=a:=by rw[dI];omega
  refine IT (tj l a ha)<|TM (by simp only[List.length_nil];omega)<|TM (by rw[List.nil_append];simp only[fq,List.length_nil];omega)<|IT (rB l a ha)<|TM ?_<|SR ?_
  ·rw[List.nil_append,eL,l3];simp only[fq,List.length_nil];omega
  ·rw[hout hc];simp
 by_cases h0:0<a
 ·have hx:l[a - 1]? =some (l[a - 1]'(by omega)):=aP _;rw[bO (by omega),aM,ja h0 (by omega),cC hx,aB,aB];refine Tx (λhb=>SR ?_)<|λhb=>hrest ?_
  ·rw[beq_iff_eq]at hb;unfold sP;rw[aG (by rw[<-hb];exact fQ hx)]
  ·rw[beq_eq_false_iff_ne]at hb;intro hc;obtain⟨j,hj⟩:=dW hc
   by_cases h1:a<=j
   ·have:=hI j c h1 hj;omega
   ·by_cases e:j=a - 1
    ·subst e;rw[hx]at hj;injection hj with hj;exact hb hj
    ·have:=h.lt (i:=j) (j:=a - 1) (by omega) hj hx;have:=hlow (a - 1) _ (by omega) hx;omega
 ·rw[bQ (by omega),aQ,aB,aQ];refine hrest λhc=>?_;obtain⟨j,hj⟩:=dW hc;have:=hI j c (by omega) hj;omega
theorem wt{l:List Int}{c:Int}(hl:l.length<=1099511627776)(hN:4398046511104<=N):cX N l c=some (decide<|c∈l):=by
 refine TT ?_;unfold cX;refine S3 (TJ (n:=l.length) (λs=>s) (λk _=>∀(j:Nat)x,j<k->l[j]? =some x->x≠c) (Go:=λ_=>c∉l) (Rt:=λr=>r=true/\c∈l) ?_ ?_ (cT _) rfl (λj x hj=>by omega) (by omega)) ?_
 ·rintro k s hk e hI;subst e;rw[jK hk,aM];have hx:l[k]? =some l[k]:=aP hk
  grind [Tc,TW,Tk,bI,cL]
 ·grind [Tu,dW,bN]
 intro o ho;exact Tv ho (λs hs=>SR (bQ hs).symm)<|λr hr=>SR (by grind)
theorem LX{p q:aH}(hp:p.X0<p.X1/\p.Y0<p.Y1)(hq:q.X0<q.X1/\q.Y0<q.Y1):sM p q=decide ((0<min p.X1 q.X1 - max p.X0 q.X0/\min p.Y1 q.Y1 - max p.Y0 q.Y0=0)\/(min p.X1 q.X1 - max p.X0 q.X0=0/\0<min p.Y1 q.Y1 - max p.Y0 q.Y0)):=by
 unfold sM
 grind
theorem MZ{l:List aH}{q:aH}(hl:l.length<=1000000000)(ho:∀r∈l,D3 r)(hq:D3 q)(hN:4398046511104<=N):jR N l q=some (l.any<|λr=>sM r q):=by
 refine TT ?_;unfold jR;refine S3 (TJ (n:=l.length) (λs=>s) (λk _=>∀(j:Nat)x,j<k->l[j]? =some x->sM x q=false) (Go:=λ_=>l.any (λr=>sM r q)=false) (Rt:=λr=>r=true/\l.any (λr=>sM r q)=true) ?_ ?_ (cT _) rfl (λj x hj=>by omega) (by omega)) ?_
 ·rintro k s hk e hI;subst e;rw[jK hk,aM];have hx:l[k]? =some l[k]:=aP hk;have hr:=ho _<|cL hk
  have hb:=LX (p:=l[k]) (q:=q) ⟨hr.x,hr.y⟩ ⟨hq.x,hq.y⟩;have a1:=hr.s1;have a2:=hr.s2;have a3:=hr.s3;have a4:=hr.s4;have b1:=hq.s1;have b2:=hq.s2;have b3:=hq.s3;have b4:=hq.s4;unfold small at a1 a2 a3 a4 b1 b2 b3 b4;refine Tc hx<|Tc hx<|Tc hx<|Tc hx ?_
  rw[yj,yj,yk,yk,fP (x:=min l[k].X1 q.X1 - max l[k].X0 q.X0) (by omega) (by omega),fP (x:=min l[k].Y1 q.Y1 - max l[k].Y0 q.Y0) (by omega) (by omega)];have e:((decide (min l[k].X1 q.X1 - max l[k].X0 q.X0>0)&&(min l[k].Y1 q.Y1 - max l[k].Y0 q.Y0==0))||((min l[k].X1 q.X1 - max l[k].X0 q.X0==0)&&decide (min l[k].Y1 q.Y1 - max l[k].Y0 q.Y0>0)))=sM l[k] q:=by
   grind
  grind [TW,kI,cL,Tk,bI]
 ·grind [Tu,List.any_eq_false,dW,bN]
 intro o ho;exact Tv ho (λs hs=>SR hs.symm)<|λr hr=>SR (by grind)
theorem BG(r:List aH)(p:jX):B2 r p=uE r p.X p.Y:=by
 grind [B2,uE,ge_iff_le]
theorem Cc{r:List aH}{p:jX}(hl:r.length<=134217728)(hr:∀x∈r,x.X0<x.X1)(hN:4398046511104<=N):fw N r p=some (B2 r p):=by
 refine TT ?_;unfold fw
 grind [S3,FZ,vz,dU,IT,BA,SR,yl,BG]
def LY(bs:List bR)(pcs:List aF)(l:cS):Option dK:=match pcs.findIdx? (lT l)with
 |some k=>some ⟨false,((k:Nat):Int)⟩
 |none=>(bs.findIdx? (mK l)).map λk=>⟨true,((k:Nat):Int)⟩
theorem JP{bs:List bR}{pcs:List aF}{l:cS}(hd:∀b∈bs,∀p∈pcs,mK l b=true->lT l p=true->False):LY bs pcs l=ql bs pcs l:=by
 unfold LY ql
 grind
theorem DU{α:Type}{l:List α}{p:α->Bool}{k:Nat}{x:α}(hx:l[k]? =some x)(hp:p x=true)(hn:∀(j:Nat)y,j<k->l[j]? =some y->p y=false):l.findIdx? p=some k:=by
 grind [bN,List.findIdx?_eq_some_iff_getElem,aP]
theorem DV{α:Type}{l:List α}{p:α->Bool}(hn:∀(j:Nat)y,j<l.length->l[j]? =some y->p y=false):l.findIdx? p=none:=by
 grind [List.findIdx?_eq_none_iff,dW,bN]
theorem Fa{bs:List bR}{pcs:List aF}(hb:kV bs)(hp:pcs.length<=1000000)(hr:∀p∈pcs,p.gU.length<=1000000/\∀x∈p.gU,x.X0<x.X1)(l:cS)(hN:4398046511104<=N):
  fY N bs (pcs.map aF.dN) (pcs.map aF.gU) l=some ((LY bs pcs l).getD ⟨false,0⟩,(LY bs pcs l).isSome):=by
 refine TT ?_;have hbl:=hb.len;unfold fY LY;rw[dU];refine S3 (TJ (n:=pcs.length) (λs=>s) (λk _=>∀(j:Nat)x,j<k->pcs[j]? =some x->lT l x=false) (Go:=λ_=>pcs.findIdx? (lT l)=none) (Rt:=λr=>∃k:Nat,pcs.findIdx? (lT l)=some k/\r=(⟨false,((k:Nat):Int)⟩,true)) ?_ ?_ (cT _) rfl (λj x hj=>by omega) (by omega)) ?_
 ·rintro k s hk e hI;subst e;rw[jK hk,aM];have hx:pcs[k]? =some pcs[k]:=aP hk;have hlx:(pcs.map aF.dN)[k]? =some pcs[k].dN:=by grind
  have hrx:(pcs.map aF.gU)[k]? =some pcs[k].gU:=by grind
  have hrl:=hr _<|cL hk
  have hcond:((idx (pcs.map aF.dN) ((k:Nat):Int)).bind λx88=>bif x88==l.dN then((idx (pcs.map aF.gU) ((k:Nat):Int)).bind λx91=>(fw N x91 l.At).bind λx95=>some x95)else some false)=some (lT l pcs[k]):=by
   grind [cC,aB,Cc,lT]
  grind [IT,TW,DU,Tk,bI]
 ·grind [Tu,DV]
 intro o ho;refine Tv ho ?_ (λr hr=>by grind [SR]);intro _ hno;rw[hno];dsimp only;refine S3 (TJ (n:=bs.length) (λs=>s) (λk _=>∀(j:Nat)x,j<k->bs[j]? =some x->mK l x=false) (Go:=λ_=>bs.findIdx? (mK l)=none) (Rt:=λr=>∃k:Nat,bs.findIdx? (mK l)=some k/\r=(⟨true,((k:Nat):Int)⟩,true)) ?_ ?_ (cT _) rfl (λj x hj=>by omega) (by omega)) ?_
 ·rintro k s hk e hI;subst e;rw[jK hk,aM];have hx:bs[k]? =some bs[k]:=aP hk;have hg:=hb.ok _<|cL hk
  have hcond:((idx bs ((k:Nat):Int)).bind λx301=>bif x301.eN then((idx bs ((k:Nat):Int)).bind λx305=>(fL N x305 l.dN).bind λx308=>bif x308 then((idx bs ((k:Nat):Int)).bind λx310=>(cN N x310).bind λx313=>(fw N ([x313]:List aH) l.At).bind λx317=>some x317)else some false)else some false)=some (mK l bs[k]):=by
   rw[cC hx,aB,aB,wq,aB,aB,px hg.1,aB,Cc (by simp) (λx hx=>by simp_all[sq_pos]) hN,aB]
   grind [mK]
  grind [IT,TW,DU,Tk,bI]
 ·grind [Tu,DV]
 intro o ho;exact Tv ho (λ_ h=>SR (by rw[h];rfl)) (λr hr=>by grind [SR])
end
section
variable {N:Nat}{a:gQ}{kp:List (List aA)}{dJ:List (List (List aA))}{r:Nat->Nat}{gs:List cF}{ofP ofB kC:List Int}{kq:List dK}
theorem AO(b:kN a kp dJ r gs ofP ofB kC kq){p:aF}(hp:p∈bY 0 dJ):p.gU.length<=2000/\(∀q∈p.gU,gl q=true/\q.X0<q.X1/\q.Y0<q.Y1)/\∃i:Nat,p.dN=((i:Nat):Int)/\∀x y,uE p.gU x y=true->uE (lk a.aN ((i:Nat):Int)) x y=false:=by
 obtain⟨i,ps,q,h1,h2,rfl⟩:=Bx hp;have hil:i<a.aK.length:=by have:=(bN.1 h1).1;rw[b.dr.Bt]at this;exact this
 obtain⟨s,ps',u,g1,g2,L⟩:=B9 b hil;rw[h1]at g2;injection g2 with g2;subst g2
 obtain⟨k1,k2,k3⟩:=L.part h2;refine⟨k2,k3,i,by simp,λx y h=>?_⟩;have h3:uE (ps.flatMap aU) x y=true:=B8.2 ⟨q,h2,h⟩;rw[L.cover,L.dr.cover,cO,Bool.not_eq_true']at h3;exact h3.2
theorem JQ(b:kN a kp dJ r gs ofP ofB kC kq)(l:cS):∀x∈a.aN,∀p∈bY 0 dJ,mK l x=true->lT l p=true->False:=λx hx p hp h1 h2=>by
 obtain⟨_,_,i,e,hc⟩:=AO b hp;unfold mK at h1;unfold lT at h2;rw[cO,cO,BG]at h1;rw[cO,BG,beq_iff_eq]at h2;have h3:=hc _ _ h2.2;rw[<-e,h2.1]at h3;obtain⟨q,hq,hxy⟩:=kL.1 h1.2.2;simp at hq;subst hq;have h4:uE (lk a.aN l.dN) l.At.X l.At.Y=true:=kL.2 ⟨xJ x,dV.2 ⟨x,my.2 ⟨hx,h1.2.1⟩,rfl⟩,hxy⟩;rw[h3]at h4;cases h4
end
structure PS (n:Nat) (r:Nat->Nat) (h:Nat) (q:List Nat) (seen:List Bool) (pieces todo:List Int):Prop where
 sl:seen.length=n
 sn:∀p,p<n->seen[p]? =some (decide<|r p<h\/p∈q)
 qn:q.Nodup
 qi:∀p∈q,p<n/\r p=h
 q0:h∈q
 td:todo=ints q
 pi:j7 pieces
 pm:∀x,x∈pieces↔∃p∈q,x=((p:Nat):Int)
structure QS (n m:Nat) (tch:List (List Int)) (r:Nat->Nat) (h:Nat) (q qb:List Nat) (AH:List Int) (used:List Bool):Prop where
 ul:used.length=m
 un:∀k,k<m->used[k]? =some (decide<|k∈qb)
 bi:j7 AH
 bm:∀x,x∈AH↔∃k∈qb,x=((k:Nat):Int)
 bk:∀k∈qb,k<m/\r (n+k)=h/\∀l,tch[k]? =some l->∀p:Nat,((p:Nat):Int)∈l->p∈q
theorem PS.xN{n:Nat}{r:Nat->Nat}{h:Nat}{q:List Nat}{seen:List Bool}{pieces todo:List Int}(H:PS n r h q seen pieces todo):q.length<=n/\pieces.length<=n:=by
 have h1:=gu H.qn (m:=List.range n) (λk hk=>by rw[re];exact(H.qi k hk).1);rw[List.length_range]at h1;have h2:=gu H.pi.nodup (m:=ints q)<|λx hx=>rN.2<|(H.pm x).1 hx
 grind [mo]
theorem QS.xN{n m:Nat}{tch:List (List Int)}{r:Nat->Nat}{h:Nat}{q qb:List Nat}{AH:List Int}{used:List Bool}(H:QS n m tch r h q qb AH used):AH.length<=m:=by
 have h2:=gu H.bi.nodup (m:=ints (List.range m)) (λx hx=>by
  obtain⟨k,hk,e⟩:=(H.bm x).1 hx
  exact rN.2 ⟨k,re.2 (H.bk k hk).1,e⟩)
 grind [mo,List.length_range]
theorem OH(n t:Nat)(r:Nat->Nat)(h:Nat):j7 (ints<|gP n<|cls t r h):=HR<|List.Pairwise.sublist (List.filter_sublist.trans List.filter_sublist)<|List.pairwise_lt_range (n:=t)
theorem LZ(bs:List bR)(n t:Nat)(r:Nat->Nat)(h:Nat):j7 (ints<|gB bs n<|cls t r h):=by
 refine HR ?_;unfold gB;rw[List.pairwise_map];have hp:(List.filter (λi=> !decide (i<n)&&tF bs (i - n))<|cls t r h).Pairwise (· < ·):=List.Pairwise.sublist (List.filter_sublist.trans List.filter_sublist)<|List.pairwise_lt_range (n:=t)
 grind
theorem F6{n t:Nat}{r:Nat->Nat}{h p:Nat}:p∈gP n (cls t r h)↔p<n/\p<t/\r p=h:=by
 unfold gP
 grind [rk]
theorem BH{bs:List bR}{n t:Nat}{r:Nat->Nat}{h k:Nat}:k∈gB bs n (cls t r h)↔n+k<t/\r (n+k)=h/\tF bs k=true:=by
 unfold gB;rw[dV];constructor
 ·grind [rk,Bool.not_eq_true',decide_eq_false_iff_not]
 ·rintro⟨h1,h2,h3⟩;refine⟨n+k,?_,by omega⟩
  grind [rk,Bool.not_eq_true',decide_eq_false_iff_not,Nat.add_sub_cancel_left]
section
variable {N:Nat}
theorem HS{bs:List bR}{n m:Nat}{tch:List (List Int)}{r:Nat->Nat}(hC:Cn n m tch r)(hm:tch.length=m)(ht:∀l∈tch,l.length<=1073741824/\∀x∈l,∃i:Nat,i<n/\x=((i:Nat):Int))(hn:n<=1000000)(hm2:m<=1000000)
  (hpl:∀(k:Nat)l,tch[k]? =some l->l≠[]->tF bs k=true) {h:Nat} (hh:h<n) (hr:r h=h) {seen:List Bool} (hsl:seen.length=n) (hsn:∀p,p<n->seen[p]? =some (decide<|r p<h)) (hN:4398046511104<=N):
  Ok (gY N tch ((h:Nat):Int) seen) (λx=>x.1.1=ints (gP n<|cls (n+m) r h)/\x.1.2.1=ints (gB bs n<|cls (n+m) r h)/\x.1.2.2= []/\x.2.length=n/\∀p,p<n->x.2[p]? =some (decide<|r p<h+1)):=by
 unfold gY;refine Tc (hsn h hh)<|IT (pD false (by omega)) ?_
 refine S3 (T4 (Go:=λst=>st.2.1=ints (gP n (cls (n+m) r h))/\st.2.2.1=ints (gB bs n (cls (n+m) r h))/\st.1.length=n/\∀p,p<n->st.1[p]? =some (decide (r p<h+1))) (Rt:=λ_=>False)
  (λst=>∃(q qb:List Nat)(t:Nat),st.2.2.2.2.2=((t:Nat):Int)/\t<=q.length/\PS n r h q st.1 st.2.1 st.2.2.2.2.1/\QS n m tch r h q qb st.2.2.1 st.2.2.2.1/\∀(j p k:Nat)l,j<t->q[j]? =some p->tch[k]? =some l->((p:Nat):Int)∈l->k∈qb)
  (λst=>n+1 - st.2.2.2.2.2.toNat) ?_ ⟨[h],[],0,rfl,by simp,?_,?_,λj p k l hj=>by omega⟩ (by simp;omega)) ?_
 ·rintro⟨sn,pi,bo,us,td,t'⟩⟨q,qb,t,e,htq,hP,hQ,hcl⟩;dsimp only at e hP hQ ⊢;subst e;have htl:td.length=q.length:=by rw[hP.td,mo]
  have hqf:=hP.xN
  by_cases hlt:t<q.length
  ·rw[jK (by omega),aM];have hqt:q[t]? =some q[t]:=aP hlt;have hqi:=hP.qi _<|cL hlt
   refine S3 (TJ (n:=tch.length) (λst=>st.2.2.2.2.2) (λi st=>∃q' qb',q <+:q'/\(∀k∈qb,k∈qb')/\PS n r h q' st.1 st.2.1 st.2.2.2.2.1/\QS n m tch r h q' qb' st.2.2.1 st.2.2.2.1/\∀k l,k<i->tch[k]? =some l->((q[t]:Nat):Int)∈l->k∈qb')
    (Go:=λst=>∃q' qb',q <+:q'/\(∀k∈qb,k∈qb')/\PS n r h q' st.1 st.2.1 st.2.2.2.2.1/\QS n m tch r h q' qb' st.2.2.1 st.2.2.2.1/\∀k l,tch[k]? =some l->((q[t]:Nat):Int)∈l->k∈qb') (Rt:=λ_=>False) ?_ ?_ (cT _) rfl
    ⟨q,qb,List.prefix_refl _,λk hk=>hk,hP,hQ,λk l hk=>by omega⟩ (by omega)) ?_
   ·rintro k⟨sn1,pi1,bo1,us1,td1,i'⟩hk e⟨q1,qb1,hpre,hsub,hP1,hQ1,hc1⟩;dsimp only at e hP1 hQ1 ⊢;subst e;rw[jK hk,aM];have hkm:k<m:=by omega
    have htk:tch[k]? =some tch[k]:=aP hk;have htk2:=ht _<|cL hk
    have hq1t:td1[t]? =some ((q[t]:Nat):Int):=by
     rw[hP1.td];unfold ints;rw[jD,BC hpre hqt];rfl
    have hcond:((idx us1 ((k:Nat):Int)).bind λx948=>bif x948 then some true else((idx tch ((k:Nat):Int)).bind λx950=>(idx td1 ((t:Nat):Int)).bind λx953=>(cX N x950 x953).bind λx954=>some<|!x954))=some (decide (k∈qb1)|| !decide (((q[t]:Nat):Int)∈tch[k])):=by
     rw[cC<|hQ1.un k hkm,aB,cC htk,aB,cC hq1t,aB,wt (l:=tch[k]) (c:=((q[t]:Nat):Int)) (by have:=htk2.1;omega) hN,aB]
     cases decide (k∈qb1) <;> rfl
    refine IT hcond<|Tx (λhb=>Tk ⟨bI (by omega),q1,qb1,hpre,hsub,hP1,hQ1,λk' l hk' hl hm'=>?_⟩)<|λhb=>?_
    ·by_cases e:k'=k
     ·subst e;rw[htk]at hl;injection hl with hl
      rw[hl,bO hm',jF,Bool.or_false,cP]at hb;exact hb
     ·exact hc1 k' l (by omega) hl hm'
    ·rw[Bool.or_eq_false_iff,decide_eq_false_iff_not,Bool.not_eq_false',cP]at hb;obtain⟨hkn,hqm⟩:=hb;have hrk:r (n+k)=h:=by rw[<-hC.co q[t] (n+k) ⟨k,_,htk,hqm,rfl⟩];exact hqi.2
     have hbf:=hQ1.xN;refine Tc (hQ1.un k hkm)<|IT (DT hQ1.bi (by omega) hN) ?_
     refine S3 (TJ (n:=tch[k].length) (λst=>st.2.2.2) (λi st=>∃q2,q1 <+:q2/\PS n r h q2 st.1 st.2.1 st.2.2.1/\∀(j p:Nat),j<i->tch[k][j]? =some ((p:Nat):Int)->p∈q2)
      (Go:=λst=>∃q2,q1 <+:q2/\PS n r h q2 st.1 st.2.1 st.2.2.1/\∀(p:Nat),((p:Nat):Int)∈tch[k]->p∈q2) (Rt:=λ_=>False) ?_ ?_ (cT _) rfl ⟨q1,List.prefix_refl _,hP1,λj p hj=>by omega⟩ (by omega)) ?_
     ·rintro j⟨sn2,pi2,td2,jj⟩hj e⟨q2,hpre2,hP2,hc2⟩;dsimp only at e hP2 ⊢;subst e;have hlj:tch[k][j]? =some tch[k][j]:=aP hj;obtain⟨p,hpn,hpe⟩:=htk2.2 _<|cL hj
      rw[hpe]at hlj;have hpf:=hP2.xN;have hrp:r p=h:=by rw[hC.co p (n+k) ⟨k,_,htk,fQ hlj,rfl⟩];exact hrk
      refine Tc htk ?_;rw[jK hj,aM];refine Tc htk<|Tc hlj<|Tc (hP2.sn p hpn) ?_
      refine S3 (P:=λst:List Bool×List Int×List Int=>∃q2,q1 <+:q2/\PS n r h q2 st.1 st.2.1 st.2.2/\∀(j' p:Nat),j'<j+1->tch[k][j']? =some ((p:Nat):Int)->p∈q2) (Tx (λhb=>?_)<|λhb=>SR ⟨q2,hpre2,hP2,λj' p' hj' hp'=>?_⟩)<|λst hst=>Tk ⟨bI (by omega),hst⟩
      ·have hpq:p∉q2:=by
        rw[Bool.not_eq_true',decide_eq_false_iff_not]at hb;exact λh=>hb<|.inr h
       refine Tc (hP2.sn p hpn)<|IT (DT hP2.pi (by omega) hN)<|TM (by rw[hP2.td,mo];simp only[fq,List.length_nil];omega)<|SR ⟨q2++[p],hpre2.trans<|List.prefix_append _ _,⟨?_,?_,?_,?_,?_,?_,?_,?_⟩,?_⟩
       ·rw[iO];exact hP2.sl
       ·intro p' hp';rw[cI,ln]
        by_cases e:p=p'
        ·subst e;rw[aG rfl,aG (by rw[hP2.sl];exact hpn)];congr 1;exact(bO<|.inr (by simp)).symm
        ·rw[aI e,hP2.sn p' hp'];congr 1;rw[decide_eq_decide,dD];simp only[l4];constructor
         ·exact λh=>h.elim .inl<|λh=> .inr<|.inl h
         ·exact λh=>h.elim .inl<|λh=>h.elim .inr<|λh=>absurd h.symm e
       ·rw[List.nodup_append];exact⟨hP2.qn,by simp,λa ha b hb=>by simp at hb;subst hb;exact λe=>hpq<|e▸ha⟩
       ·intro p' hp'
        rcases dD.1 hp' with hp'|hp'
        ·exact hP2.qi p' hp'
        ·simp at hp';subst hp';exact⟨hpn,hrp⟩
       ·exact List.mem_append_left _ hP2.q0
       ·dsimp only;rw[hP2.td,rM];rfl
       ·exact vv hP2.pi
       ·intro x;rw[DF,hP2.pm];constructor
        ·rintro(⟨p',h1,h2⟩|h1)
         ·exact⟨p',List.mem_append_left _ h1,h2⟩
         ·exact⟨p,by simp,h1⟩
        ·rintro⟨p',h1,h2⟩
         rcases dD.1 h1 with h1|h1
         ·exact .inl ⟨p',h1,h2⟩
         ·simp at h1;subst h1;exact .inr h2
       ·intro j' p' hj' hp'
        by_cases e:j'=j
        ·subst e;rw[hlj]at hp';injection hp' with hp'
         have:p'=p:=by omega
         subst this;simp
        ·exact List.mem_append_left _<|hc2 j' p' (by omega) hp'
      ·by_cases e:j'=j
       ·subst e;rw[hlj]at hp';injection hp' with hp'
        have:p'=p:=by omega
        subst this;rw[Bool.not_eq_false',cP]at hb
        rcases hb with hb|hb
        ·omega
        ·exact hb
       ·exact hc2 j' p' (by omega) hp'
     ·rintro⟨sn2,pi2,td2,jj⟩e⟨q2,hpre2,hP2,hc2⟩;dsimp only at e hP2 ⊢;subst e;refine Tc htk ?_;rw[nz,aQ];refine Tu ⟨q2,hpre2,hP2,λp hp=>?_⟩;obtain⟨j,hj⟩:=dW hp;exact hc2 j p (bN.1 hj).1 hj
     intro o ho;refine Tv ho ?_<|λr hr=>hr.elim
     rintro⟨sn2,pi2,td2,jj⟩⟨q2,hpre2,hP2,hc2⟩;dsimp only at hP2 ⊢;refine Tk ⟨bI (by omega),q2,qb1++[k],hpre.trans hpre2,λk' hk'=>List.mem_append_left _<|hsub k' hk',hP2,⟨?_,?_,?_,?_,?_⟩,λk' l hk' hl hm'=>?_⟩
     ·rw[iO];exact hQ1.ul
     ·intro k' hk';rw[cI,ln]
      by_cases e:k=k'
      ·subst e;rw[aG rfl,aG (by rw[hQ1.ul];exact hkm)];congr 1;exact(bO (by simp)).symm
      ·rw[aI e,hQ1.un k' hk'];congr 1;rw[decide_eq_decide,dD];simp only[l4];exact⟨.inl,λh=>h.elim id<|λh=>absurd h.symm e⟩
     ·exact vv hQ1.bi
     ·intro x;rw[DF,hQ1.bm];constructor
      ·rintro(⟨p',h1,h2⟩|h1)
       ·exact⟨p',List.mem_append_left _ h1,h2⟩
       ·exact⟨k,by simp,h1⟩
      ·rintro⟨p',h1,h2⟩
       rcases dD.1 h1 with h1|h1
       ·exact .inl ⟨p',h1,h2⟩
       ·simp at h1;subst h1;exact .inr h2
     ·intro k' hk'
      rcases dD.1 hk' with hk'|hk'
      ·obtain⟨h1,h2,h3⟩:=hQ1.bk k' hk';exact⟨h1,h2,λl hl p hp=>hpre2.subset<|h3 l hl p hp⟩
      ·simp at hk';subst hk';refine⟨hkm,hrk,λl hl p hp=>?_⟩;rw[htk]at hl;injection hl with hl
       exact hc2 p (by rw[hl];exact hp)
     ·by_cases e:k'=k
      ·subst e;simp
      ·exact List.mem_append_left _<|hc1 k' l (by omega) hl hm'
   ·rintro⟨sn1,pi1,bo1,us1,td1,i'⟩e⟨q1,qb1,hpre,hsub,hP1,hQ1,hc1⟩;dsimp only at e hP1 hQ1 ⊢;subst e;rw[nz,aQ];exact Tu ⟨q1,qb1,hpre,hsub,hP1,hQ1,λk l hl=>hc1 k l (bN.1 hl).1 hl⟩
   intro o ho;refine Tv ho ?_<|λr hr=>hr.elim
   rintro⟨sn1,pi1,bo1,us1,td1,i'⟩⟨q1,qb1,hpre,hsub,hP1,hQ1,hc1⟩;dsimp only at hP1 hQ1 ⊢;refine Tk ⟨⟨q1,qb1,t+1,bI (by omega),by have:=hpre.length_le;omega,hP1,hQ1,λj p k l hj hjp hl hm'=>?_⟩,?_⟩
   ·by_cases e:j=t
    ·subst e;rw[BC hpre hqt]at hjp;injection hjp with hjp;subst hjp
     exact hc1 k l hl hm'
    ·have hjq:q[j]? =some (q[j]'(by omega)):=aP _;rw[BC hpre hjq]at hjp;injection hjp with hjp;subst hjp
     exact hsub k<|hcl j _ k l (by omega) hjq hl hm'
   ·rw[bI (by omega)];simp only[cI];omega
  ·rw[AK (by omega:td.length<=t),aQ];have htq':t=q.length:=by omega
   have hclosed:∀i j,Lk n tch i j->(((i<n/\i∈q)\/∃k,k∈qb/\i=n+k)↔((j<n/\j∈q)\/∃k,k∈qb/\j=n+k)):=by
    rintro i j⟨k,l,hl,hil,rfl⟩;obtain⟨i',hi',ei⟩:=(ht l<|fQ hl).2 _ hil;have:i'=i:=by omega
    subst this;constructor
    ·rintro(⟨_,h1⟩|⟨k',_,h1⟩)
     ·obtain⟨p,hp⟩:=dW h1;exact .inr ⟨k,hcl p i' k l (by rw[htq'];exact(bN.1 hp).1) hp hl hil,rfl⟩
     ·omega
    ·rintro(⟨h1,_⟩|⟨k',h1,h2⟩)
     ·omega
     ·have:k'=k:=by omega
      subst this;exact .inl ⟨hi',(hQ.bk k' h1).2.2 l hl i' hil⟩
   have hall:∀x,x<n+m->r x=h->(x<n/\x∈q)\/∃k,k∈qb/\x=n+k:=λx hx hrx=>hC.fi _ hclosed h x (by omega) hx (by rw[hr,hrx])<|.inl ⟨hh,hP.q0⟩
   refine Tu ⟨?_,?_,hP.sl,λp hp=>?_⟩
   ·refine CD hP.pi (OH _ _ _ _) λx=>?_;rw[hP.pm,rN];constructor
    ·rintro⟨p,h1,h2⟩;exact⟨p,F6.2 ⟨(hP.qi p h1).1,by have:=(hP.qi p h1).1;omega,(hP.qi p h1).2⟩,h2⟩
    ·rintro⟨p,h1,h2⟩;obtain⟨g1,g2,g3⟩:=F6.1 h1
     rcases hall p g2 g3 with⟨_,g4⟩|⟨k,_,g4⟩
     ·exact⟨p,g4,h2⟩
     ·omega
   ·refine CD hQ.bi (LZ _ _ _ _ _) λx=>?_;rw[hQ.bm,rN];constructor
    ·rintro⟨k,h1,h2⟩;obtain⟨g1,g2,g3⟩:=hQ.bk k h1;refine⟨k,BH.2 ⟨by omega,g2,?_⟩,h2⟩;have hk:tch[k]? =some (tch[k]'(by omega)):=aP _;refine hpl k _ hk λhemp=>?_;have tV:∀i j,Lk n tch i j->((i=n+k)↔(j=n+k)):=by
      rintro i j⟨k',l,hl,hil,rfl⟩;obtain⟨i',hi',ei⟩:=(ht l<|fQ hl).2 _ hil;constructor
      ·intro;omega
      ·intro e;have:k'=k:=by omega
       subst this;rw[hk]at hl;injection hl with hl
       rw[<-hl,hemp]at hil;cases hil
     have:=hC.fi (λx=>x=n+k) tV (n+k) h (by omega) (by omega) (by rw[g2,hr]) rfl;omega
    ·rintro⟨k,h1,h2⟩;obtain⟨g1,g2,_⟩:=BH.1 h1
     rcases hall (n+k) g1 g2 with⟨g4,_⟩|⟨k',g3,g4⟩
     ·omega
     ·have:k'=k:=by omega
      subst this;exact⟨k',g3,h2⟩
   ·rw[hP.sn p hp];congr 1;rw[decide_eq_decide];constructor
    ·rintro(h1|h1)
     ·omega
     ·have:=(hP.qi p h1).2;omega
    ·intro h1
     by_cases e:r p=h
     ·rcases hall p (by omega) e with⟨_,g4⟩|⟨k,_,g4⟩
      ·exact .inr g4
      ·omega
     ·exact .inl (by omega)
 ·refine⟨by rw[iO];exact hsl,λp hp=>?_,by simp,λp hp=>by simp at hp;subst hp;exact⟨hh,hr⟩,by simp,rfl,List.pairwise_singleton _ _,λx=>by simp⟩;rw[cI,ln]
  by_cases e:h=p
  ·subst e;rw[aG rfl,aG (by rw[hsl];exact hh)];congr 1;exact(bO<|.inr (by simp)).symm
  ·rw[aI e,hsn p hp];congr 1;rw[decide_eq_decide];simp only[l4];omega
 ·exact⟨by rw[List.length_replicate];exact hm,λk hk=>by simp[hm,hk],kH,λx=>by simp,λk hk=>by cases hk⟩
 intro o ho;refine Tv ho ?_<|λr hr=>hr.elim
 rintro⟨sn,pi,bo,us,td,t'⟩⟨h1,h2,h3,h4⟩;exact SR ⟨h1,h2,rfl,h3,h4⟩
end
theorem Fb(bs:List bR)(n t:Nat)(r:Nat->Nat)(hs:List Nat)(h:Nat):mu bs n t r (hs++[h])=if Hv bs n (cls t r h)=true then mu bs n t r hs++[NS bs n<|cls t r h]else mu bs n t r hs:=by
 grind [mu,E2]
def M1(bs:List bR)(n m:Nat)(r:Nat->Nat)(h:dK):Nat:=gi bs n (n+m) r<|r<|eC n h
structure OI (G G':List cF):Prop where
 len:G'.length=G.length
 each:∀(g:Nat)x,G[g]? =some x->∃y,G'[g]? =some y/\y.kX=x.kX/\y.aN=x.aN
theorem Ep(G:List cF)(lg:cS->Option Nat)(ls:List cS):OI G (gK G lg ls):=
 ⟨AF _ _ _,λg x hx=>⟨{x with gL:=(ls.filter<|λl=>decide<|lg l=some g).map kM},by grind [mL],rfl,rfl⟩⟩
section
variable {N:Nat}
theorem DW{bs:List bR}{n m:Nat}{r:Nat->Nat}(hbm:bs.length=m)(hn:n<=1000000)(hm:m<=1000000)(hle:∀i,i<n+m->r i<=i)(hrr:∀i,i<n+m->r (r i)=r i){G:List cF}(hG:OI (mu bs n (n+m) r<|bV (n+m) r) G){h:dK}(hh:E3 bs n m h)(hN:4398046511104<=N):
  eG N G h=some ((M1 bs n m r h:Nat):Int)/\M1 bs n m r h<G.length:=by
 obtain⟨k,hk,hkb,hkp⟩:=hh.num;have hx:eC n h<n+m:=by
  grind [eC]
 have hhead:r (eC n h)∈bV (n+m) r:=jV.2 ⟨by grind,hrr _ hx⟩;have hne:Hv bs n (cls (n+m) r<|r<|eC n h)=true:=by
  unfold eC at hx ⊢
  by_cases hb:h.bR=true
  all_goals grind [cI,JI,JH]
 obtain⟨g1,g2⟩:=JG (bs:=bs) (n:=n) hhead hne;have hlen:G.length=(live bs n (n+m) r<|bV (n+m) r).length:=by rw[hG.len,vt]
 have hlive:(live bs n (n+m) r<|bV (n+m) r).Nodup:=List.Nodup.sublist List.filter_sublist<|oh _ _
 have hll:(live bs n (n+m) r<|bV (n+m) r).length<=n+m:=by
  grind [sN,bV,mm]
 have hval:∀(g:Nat)y,G[g]? =some y->Ok (bif h.bR then((idx G ((g:Nat):Int)).bind λx241=>(cX N x241.aN h.Number).bind λx250=>bif x250 then some true else(bif(!h.bR)then((idx G ((g:Nat):Int)).bind λx253=>(cX N x253.kX h.Number).bind λx262=>some x262)else some false))else(bif(!h.bR)then((idx G ((g:Nat):Int)).bind λx264=>(cX N x264.kX h.Number).bind λx273=>some x273)else some false))
   (λb=>b=true↔(live bs n (n+m) r<|bV (n+m) r)[g]? =some (r<|eC n h)):=λg y hy=>by
  have hgl:g<(live bs n (n+m) r<|bV (n+m) r).length:=by have:=(bN.1 hy).1;omega
  have hlx:(live bs n (n+m) r<|bV (n+m) r)[g]? =some (live bs n (n+m) r<|bV (n+m) r)[g]:=aP hgl;have hgx:(mu bs n (n+m) r<|bV (n+m) r)[g]? =some (NS bs n<|cls (n+m) r (live bs n (n+m) r<|bV (n+m) r)[g]):=by unfold mu;rw[jD,hlx];rfl
  obtain⟨y',hy',e1,e2⟩:=hG.each g _ hgx;rw[hy]at hy';injection hy' with hy';subst hy'
  generalize hhd:(live bs n (n+m) r<|bV (n+m) r)[g]=hd at *;have hpl:y.kX.length<=n+m/\y.aN.length<=n+m:=by
   have:=IH n<|cls (n+m) r hd
   have:=II bs n<|cls (n+m) r hd
   have:=CC (n+m) r hd;rw[e1,e2];unfold NS;simp only[mo];omega
  rw[hlx]
  cases hb:h.bR with
  |true=>
   rw[aM,cC hy,aB,wt (by omega) hN,aB];have hix:eC n h=n+k:=by unfold eC;rw[aG hb,hk,cI]
   have hiff:(h.Number∈y.aN)↔hd=r (eC n h):=by
    rw[e2,hix];unfold NS;dsimp only;rw[rN,hk];constructor
    ·rintro⟨i,hi,e⟩;have:i=k:=by omega
     subst this;exact(BH.1 hi).2.1.symm
    ·intro e;exact⟨k,BH.2 ⟨by omega,e.symm,(hkb hb).2⟩,rfl⟩
   by_cases hin:h.Number∈y.aN
   ·rw[bO hin,aM];exact SR ⟨λ_=>by rw[hiff.1 hin],λ_=>rfl⟩
   ·rw[bQ hin,aQ,jF,aQ];refine SR ⟨λh=>(by cases h),λh=>?_⟩;injection h with h
    exact absurd (hiff.2 h) hin
  |false=>
   rw[aQ,jG,aM,cC hy,aB,wt (by omega) hN,aB];have hix:eC n h=k:=by unfold eC;rw[aI (by grind),hk,cI]
   have hiff:(h.Number∈y.kX)↔hd=r (eC n h):=by
    rw[e1,hix];unfold NS;dsimp only;rw[rN,hk];constructor
    ·rintro⟨i,hi,e⟩;have:i=k:=by omega
     subst this;exact(F6.1 hi).2.2.symm
    ·intro e;exact⟨k,F6.2 ⟨hkp hb,by omega,e.symm⟩,rfl⟩
   refine SR ?_;rw[cP,hiff];exact⟨λh=>by rw[h],λh=>by injection h⟩
 refine⟨TT ?_,by grind [M1]⟩;unfold eG M1;refine S3 (TJ (n:=G.length) (λs=>s) (λk _=>∀g,g<k->(live bs n (n+m) r<|bV (n+m) r)[g]? ≠some (r<|eC n h)) (Go:=λ_=>False) (Rt:=λs=>s=((gi bs n (n+m) r (r<|eC n h):Nat):Int)) ?_ ?_ (cT _) rfl (λg hg=>by omega) (by omega)) ?_
 ·rintro g s hg e hI;subst e;rw[jK hg,aM];refine S3 (hval g _<|aP hg) λb hb=>?_
  grind [TW,Bv,Tk,bI]
 ·grind
 intro o ho;exact Tv ho (λ_ h=>h.elim)<|λr hr=>SR hr
theorem HT{bs:List bR}{pcs:List aF}{r:Nat->Nat}(hb:kV bs)(hp:pcs.length<=1000000)(hpr:∀p∈pcs,p.gU.length<=1000000/\∀x∈p.gU,x.X0<x.X1)(hd:∀l:cS,∀b∈bs,∀p∈pcs,mK l b=true->lT l p=true->False)
  (hle:∀i,i<pcs.length+bs.length->r i<=i) (hrr:∀i,i<pcs.length+bs.length->r (r i)=r i) {G:List cF} (hG:OI (mu bs pcs.length (pcs.length+bs.length) r<|bV (pcs.length+bs.length) r) G) (l:cS) (hN:4398046511104<=N):
  eX N bs (pcs.map aF.dN) (pcs.map aF.gU) G l=some (Eo bs pcs r l)/\∀g,uG bs pcs r l=some g->g<G.length:=by
 have hbl:=hb.len;unfold eX Eo uG;rw[Fa hb hp hpr l hN,aB,JP<|hd l]
 cases hh:ql bs pcs l with
 |none=>simp
 |some h=>
  obtain⟨e1,e2⟩:=DW (N:=N) rfl hp (by omega) hle hrr hG (Bw hh) hN;refine⟨?_,λg hg=>?_⟩
  ·dsimp only[Option.getD_some,Option.isSome_some];rw[jF,aQ,e1,aB];rfl
  ·rw[Option.map_some]at hg;injection hg with hg
   rw[<-hg];exact e2
theorem L0{bs:List bR}{pcs:List aF}:∀(k:Nat)l,(cK bs pcs)[k]? =some l->l≠[]->tF bs k=true:=λk l hl hne=>by
 unfold cK at hl;rw[jD,tS]at hl;obtain⟨b,hb,rfl⟩:=hl;unfold tF;rw[hb]
 cases hp:b.eN with
 |true=>simpa using hp
 |false=>
  exfalso;refine hne ?_;have:qf (iN b) pcs pcs.length= []:=by
   unfold qf;rw[List.filter_eq_nil_iff];intro j _;rw[l5,Option.any_eq_false];intro p _;unfold iN;rw[hp];rfl
  rw[this];rfl
theorem KG{bs:List bR}{ls:List cS}{pcs:List aF}{r:Nat->Nat}(hb:kV bs)(hp:pcs.length<=2000)(hl:ls.length<=1000000)(hpr:∀p∈pcs,p.gU.length<=1000000/\∀x∈p.gU,x.X0<x.X1)(hd:∀l:cS,∀b∈bs,∀p∈pcs,mK l b=true->lT l p=true->False)
  (hC:Cn pcs.length bs.length (cK bs pcs) r) (hN:4398046511104<=N):
  fJ N bs ls (pcs.map aF.dN) (pcs.map aF.gU) (cK bs pcs)=some (gK (mu bs pcs.length (pcs.length+bs.length) r<|bV (pcs.length+bs.length) r) (uG bs pcs r) ls):=by
 refine TT ?_;have hbl:=hb.len;have htl:(cK bs pcs).length=bs.length:=by simp[cK,dU]
 have hto:=xO (bs:=bs) (pcs:=pcs) (by omega);have hgl:∀hs:List Nat,(mu bs pcs.length (pcs.length+bs.length) r hs).length<=hs.length:=λhs=>by simp[vt,sN]
 unfold fJ;rw[dU];refine IT (pD false (by omega)) ?_
 refine S3 (TJ (n:=pcs.length) (λst=>st.2.2) (λi st=>st.1=mu bs pcs.length (pcs.length+bs.length) r (bV i r)/\st.2.1.length=pcs.length/\∀p,p<pcs.length->st.2.1[p]? =some (decide (r p<i)))
  (Go:=λst=>st.1=mu bs pcs.length (pcs.length+bs.length) r (bV pcs.length r)) (Rt:=λ_=>False) ?_ ?_ (cT _) rfl ⟨by rfl,by simp,λp hp=>by simp[hp]⟩ (by omega)) ?_
 ·rintro i⟨G,sn,ii⟩hi e⟨hG,hsl,hsn⟩;dsimp only at e hG hsl hsn ⊢;subst e;subst hG;rw[jK hi,aM];refine Tc (hsn i hi) ?_;refine S3 (P:=λst:List cF×List Bool=>st.1=mu bs pcs.length (pcs.length+bs.length) r (bV (i+1) r)/\st.2.length=pcs.length/\∀p,p<pcs.length->st.2[p]? =some (decide<|r p<i+1)) (Tx (λhb=>?_)<|λhb=>SR ⟨?_,hsl,λp hp=>?_⟩)<|λst hst=>Tk ⟨bI (by omega),hst⟩
  ·rw[Bool.not_eq_true',decide_eq_false_iff_not]at hb;have hri:r i=i:=by have:=hC.le i (by omega);omega
   refine S3 (HS (bs:=bs) hC htl hto (by omega) (by omega) L0 hi hri hsl hsn hN) λx hx=>?_;obtain⟨x1,x2,x3,x4,x5⟩:=hx;have h1:=hgl<|bV i r
   have h2:=mm i r;refine TM (by grind)<|SR ⟨?_,x4,x5⟩
   dsimp only;have hne:Hv bs pcs.length (cls (pcs.length+bs.length) r i)=true:=by
    grind [JH]
   rw[g9,aG hri,Fb,aG hne,x1,x2,x3];rfl
  ·grind [Bool.not_eq_false',g9]
  ·rw[Bool.not_eq_false',cP]at hb;rw[hsn p hp];congr 1;rw[decide_eq_decide];have hne:r p≠i:=λe=>by have:=hC.rr p (by omega);rw[e]at this;omega
   omega
 ·rintro⟨G,sn,ii⟩e⟨hG,_,_⟩;dsimp only at e hG ⊢;subst e;rw[nz,aQ];exact Tu hG
 intro o ho;refine Tv ho ?_<|λr hr=>hr.elim
 rintro⟨G,sn,ii⟩hG;dsimp only at hG ⊢;subst hG;rw[htl];have halone:∀k,k<bs.length->(cK bs pcs)[k]? =some []->∀x,x<pcs.length+bs.length->(r x=r (pcs.length+k)↔x=pcs.length+k):=λk hk hemp x hx=>by
  constructor
  ·intro e;refine hC.fi (λy=>y=pcs.length+k) ?_ (pcs.length+k) x (by omega) hx e.symm rfl;rintro i j⟨k',l,hl,hil,rfl⟩;obtain⟨i',hi',ei⟩:=(hto l<|fQ hl).2 _ hil;constructor
   ·intro;omega
   ·intro e;have:k'=k:=by omega
    subst this;rw[hemp]at hl;injection hl with hl
    rw[<-hl]at hil;cases hil
  ·intro e;rw[e]
 refine S3 (TJ (n:=bs.length) (λst=>st.2) (λi st=>st.1=mu bs pcs.length (pcs.length+bs.length) r (bV (pcs.length+i) r))
  (Go:=λst=>st.1=mu bs pcs.length (pcs.length+bs.length) r (bV (pcs.length+bs.length) r)) (Rt:=λ_=>False) ?_ ?_ (cT _) rfl rfl (by omega)) ?_
 ·rintro i⟨G,ii⟩hi e hG;dsimp only at e hG ⊢;subst e;subst hG;rw[jK hi,aM];have hx:bs[i]? =some bs[i]:=aP hi;have htx:(cK bs pcs)[i]? =some ((cK bs pcs)[i]'(by omega)):=aP _;have hpi:tF bs i=bs[i].eN:=by unfold tF;rw[hx];rfl
  have hlen:=hgl<|bV (pcs.length+i) r
  have hhl:=mm (pcs.length+i) r;have hcond:((idx bs ((i:Nat):Int)).bind λx210=>bif x210.eN then((idx (cK bs pcs) ((i:Nat):Int)).bind λx214=>some<|(x214.length:Int)==0)else some false)=some (tF bs i&&decide ((cK bs pcs)[i]'(by omega)= [])):=by
   rw[cC hx,aB,cC htx,aB,hpi]
   cases bs[i].eN with
   |false=>rfl
   |true=>
    rw[aM,Bool.true_and];congr 1;rw[gS,cP,beq_iff_eq];constructor
    ·intro h;exact List.eq_nil_of_length_eq_zero (by omega)
    ·intro h;rw[h];rfl
  refine IT hcond ?_;have hstep:mu bs pcs.length (pcs.length+bs.length) r (bV (pcs.length+(i+1)) r)=if(tF bs i&&decide ((cK bs pcs)[i]'(by omega)= []))=true then mu bs pcs.length (pcs.length+bs.length) r (bV (pcs.length+i) r)++[⟨[],[((i:Nat):Int)],[]⟩]else mu bs pcs.length (pcs.length+bs.length) r (bV (pcs.length+i) r):=by
   rw[<-Nat.add_assoc,g9]
   by_cases hemp:(cK bs pcs)[i]'(by omega)= []
   ·rw[hemp]at htx;have tV:=halone i hi htx;have hri:r (pcs.length+i)=pcs.length+i:=by
     have h1:=hC.le (pcs.length+i) (by omega);exact(tV _ (by omega)).1<|hC.rr _ (by omega)
    rw[aG hri,Fb];have hcl:∀x,x∈cls (pcs.length+bs.length) r (pcs.length+i)↔x=pcs.length+i:=λx=>by
     rw[rk];constructor
     ·rintro⟨h1,h2⟩;exact(tV x h1).1 (by rw[h2,hri])
     ·intro h;subst h;exact⟨by omega,hri⟩
    have hgp:gP pcs.length (cls (pcs.length+bs.length) r<|pcs.length+i)= []:=by
     unfold gP;rw[List.filter_eq_nil_iff];intro x hx;rw[(hcl x).1 hx];simp
    by_cases hpl:tF bs i=true
    ·have hne:Hv bs pcs.length (cls (pcs.length+bs.length) r<|pcs.length+i)=true:=by
      have:=JI (bs:=bs) (n:=pcs.length) (r:=r) hpl (show pcs.length+i<pcs.length+bs.length by omega);rwa[hri]at this
     rw[aG hne,aG (by rw[hpl,bO hemp];rfl)];congr 2;unfold NS;rw[hgp];have hgb:ints (gB bs pcs.length<|cls (pcs.length+bs.length) r<|pcs.length+i)= [((i:Nat):Int)]:=by
      refine CD (LZ _ _ _ _ _) (List.pairwise_singleton _ _) λx=>?_;rw[rN];simp only[l4];constructor
      ·rintro⟨k,h1,h2⟩;obtain⟨g1,g2,_⟩:=BH.1 h1;have:=(tV _ g1).1 (by rw[g2,hri]);omega
      ·intro h;exact⟨i,BH.2 ⟨by omega,hri,hpl⟩,h⟩
     rw[hgb];rfl
    ·have hne:¬Hv bs pcs.length (cls (pcs.length+bs.length) r<|pcs.length+i)=true:=by
      unfold Hv;have hgb:gB bs pcs.length (cls (pcs.length+bs.length) r<|pcs.length+i)= []:=by
       unfold gB;rw[List.map_eq_nil_iff,List.filter_eq_nil_iff];intro x hx;rw[(hcl x).1 hx,Nat.add_sub_cancel_left];simp[hpl]
      rw[hgp,hgb];simp
     rw[aI hne,aI (by rw[l5]at hpl ⊢;rw[hpl];rfl)]
   ·have hri:¬r (pcs.length+i)=pcs.length+i:=λe=>by
     obtain⟨x,hxm⟩:=List.exists_mem_of_ne_nil _ hemp;obtain⟨p,hp1,hp2⟩:=(hto _<|cL (show i<(cK bs pcs).length by omega)).2 x hxm;have h1:=hC.co p (pcs.length+i) ⟨i,_,htx,by rw[<-hp2];exact hxm,rfl⟩;have h2:=hC.le p (by omega);omega
    rw[aI hri,aI (by rw[bQ hemp,Bool.and_false];exact su)]
  refine S3 (P:=λst:List cF=>st=mu bs pcs.length (pcs.length+bs.length) r (bV (pcs.length+(i+1)) r)) (Tx (λhb=>?_)<|λhb=>SR ?_)<|λst hst=>Tk ⟨bI (by omega),hst⟩
  ·refine TM (by simp only[fq,List.length_nil];omega)<|SR ?_
   rw[hstep,aG hb]
  ·rw[hstep,aI (by rw[l5];exact hb)]
 ·rintro⟨G,ii⟩e hG;dsimp only at e hG ⊢;subst e;rw[nz,aQ];exact Tu hG
 intro o ho;refine Tv ho ?_<|λr hr=>hr.elim
 rintro⟨G,ii⟩hG;dsimp only at hG ⊢;subst hG;have hGl:=hgl<|bV (pcs.length+bs.length) r
 have hhl:=mm (pcs.length+bs.length) r;generalize hGG:mu bs pcs.length (pcs.length+bs.length) r (bV (pcs.length+bs.length) r)=G at *;refine S3 (TJ (n:=ls.length) (λst=>st.2) (λi st=>st.1=gK G (uG bs pcs r) (ls.take i)) (Go:=λst=>st.1=gK G (uG bs pcs r) ls) (Rt:=λ_=>False) ?_ ?_ (cT _) rfl ?_ (by omega)) ?_
 ·rintro i⟨W,ii⟩hi e hW;dsimp only at e hW ⊢;subst e;subst hW;rw[jK hi,aM];have hx:ls[i]? =some ls[i]:=aP hi;have hts:ls.take (i+1)=ls.take i++[ls[i]]:=eA hi;obtain⟨e1,e2⟩:=HT (N:=N) (r:=r) hb (by omega) hpr hd hC.le hC.rr (G:=gK G (uG bs pcs r)<|ls.take i) (by rw[hGG];exact Ep _ _ _) ls[i] hN;refine Tc hx<|IT e1 ?_
  refine S3 (P:=λst:List cF=>st=gK G (uG bs pcs r) (ls.take<|i+1)) ?_<|λst hst=>Tk ⟨bI (by omega),hst⟩
  unfold Eo
  cases hg:uG bs pcs r ls[i]with
  |none=>
   dsimp only;rw[show decide ((-1:Int)>=0)=false by decide,aQ];refine SR ?_;rw[hts,yQ hg]
  |some g=>
   have hgW:=e2 g hg;have hWg:(gK G (uG bs pcs r)<|ls.take i)[g]? =some (gK G (uG bs pcs r)<|ls.take i)[g]:=aP hgW;dsimp only;rw[bO (by omega),aM];have hpl:(gK G (uG bs pcs r)<|ls.take i)[g].gL.length<=ls.length:=by
    have:=hWg;rw[mL,tS]at this;obtain⟨y,_,hy⟩:=this;rw[<-hy];dsimp only;rw[dU];have:=rf (λl=>decide<|uG bs pcs r l=some g)<|ls.take i
    rw[dI]at this;omega
   refine Tc hWg<|TM (by simp only[fq,List.length_nil];omega)<|Tc hWg<|SR ?_
   rw[cI,hts];exact AG hg hWg
 ·rintro⟨W,ii⟩e hW;dsimp only at e hW ⊢;subst e;rw[nz,aQ];exact Tu (by rw[fG]at hW;exact hW)
 ·apply List.ext_getElem?;intro g;rw[mL]
  cases hGg:G[g]? with
  |none=>rfl
  |some x=>
   have hx0:x.gL= []:=by
    rw[<-hGG]at hGg;unfold mu at hGg;rw[jD,tS]at hGg;obtain⟨hd',_,rfl⟩:=hGg;rfl
   simp only[Option.map_some,List.take_zero,List.filter_nil,List.map_nil,Option.some.injEq];rw[<-hx0]
 intro o ho;exact Tv ho (λst hst=>SR hst)<|λr hr=>hr.elim
end
section
variable {N:Nat}{a:gQ}{kp:List (List aA)}{dJ:List (List (List aA))}{r:Nat->Nat}{gs:List cF}{ofP ofB kC:List Int}{kq:List dK}
theorem kN.vu(b:kN a kp dJ r gs ofP ofB kC kq):vC a:=KE b.yG.vu
theorem Cd(b:kN a kp dJ r gs ofP ofB kC kq)(hN:4398046511104<=N):
  iF N a=some (a.aK,a.cJ,a.aN,a.bJ,(bY 0 dJ).map aF.dN,(bY 0 dJ).map aF.gU,gs,cK a.aN<|bY 0 dJ):=by
 refine TT ?_;have hc16:=b.yG.xN.2;have hfew:=b.xN.2;have hbl:=b.yG.gb.len;have hll:=b.vu.xN;unfold iF;have hpl:∀k,(bY 0<|dJ.take k).length<=2000:=λk=>by
  grind [BF,List.length,List.take_append_drop]
 refine S3 (TJ (n:=a.aK.length) (λst=>st.2.2) (λi st=>st.1=(bY 0<|dJ.take i).map aF.dN/\st.2.1=(bY 0<|dJ.take i).map aF.gU) (Go:=λst=>st.1=(bY 0 dJ).map aF.dN/\st.2.1=(bY 0 dJ).map aF.gU) (Rt:=λ_=>False) ?_ ?_ (cT _) rfl ⟨rfl,rfl⟩ (by omega)) ?_
 ·rintro i⟨La,Re,ii⟩hi e⟨h1,h2⟩;dsimp only at e h1 h2 ⊢;subst e;subst h1;subst h2;rw[jK hi,aM];obtain⟨s,ps,u,hd,hp,L⟩:=B9 b hi;have hcx:a.aK[i]? =some a.aK[i]:=aP hi;have hcs:=b.yG.cs _<|cL hi
  have hip:=(bN.1 hp).1;have hts:bY 0 (dJ.take<|i+1)=bY 0 (dJ.take i)++ps.map (λp=>⟨((i:Nat):Int),p,aU p⟩):=by
   grind [eA,bN,wi,dI,Min.min]
  have hl1:=hpl i;have hl2:=hpl<|i+1
  rw[hts,eL,dU]at hl2;refine IT (xT b.yG.gb hcx hcs.1 hcs.2 L.dr hN)<|IT (L.pieces hN) ?_
  rw[dU]
  refine S3 (TJ (n:=ps.length) (λst=>st.2.2) (λj st=>st.1=(bY 0 (dJ.take i)).map aF.dN++(ps.take j).map (λ_=>((i:Nat):Int))/\st.2.1=(bY 0 (dJ.take i)).map aF.gU++(ps.take j).map aU)
   (Go:=λst=>st.1=(bY 0 (dJ.take (i+1))).map aF.dN/\st.2.1=(bY 0 (dJ.take (i+1))).map aF.gU) (Rt:=λ_=>False) ?_ ?_ (cT _) rfl ⟨by simp,by simp⟩ (by omega)) ?_
  ·rintro j⟨La,Re,jj⟩hj e⟨h1,h2⟩;dsimp only at e h1 h2 ⊢;subst e;subst h1;subst h2;rw[jK hj,aM];have hx:(ps.map aU)[j]? =some (aU ps[j]):=by grind
   refine TM ?_<|Tc hx<|TM ?_<|Tk ⟨bI (by omega),?_,?_⟩
   ·grind
   ·grind
   all_goals grind [eA,py]
  ·rintro⟨La,Re,jj⟩e⟨h1,h2⟩;dsimp only at e h1 h2 ⊢;subst e;subst h1;subst h2;rw[nz,aQ];refine Tu ⟨?_,?_⟩
   ·dsimp only;rw[hts,fO,List.map_map,fG];rfl
   ·dsimp only;rw[hts,fO,List.map_map,fG];rfl
  intro o ho;exact Tv ho (λst hst=>Tk ⟨bI (by omega),hst⟩)<|λr hr=>hr.elim
 ·rintro⟨La,Re,ii⟩e⟨h1,h2⟩;dsimp only at e h1 h2 ⊢;subst e;rw[nz,aQ];rw[mz (by rw[b.dr.Bt];exact cH _)]at h1 h2;exact Tu ⟨h1,h2⟩
 intro o ho;refine Tv ho ?_<|λr hr=>hr.elim
 rintro⟨La,Re,ii⟩⟨h1,h2⟩;dsimp only at h1 h2 ⊢;subst h1;subst h2;rw[dU];have hpf:=λp hp=>AO b (p:=p) hp;generalize hpcs:bY 0 dJ=pcs at *;refine S3 (TJ (n:=a.aN.length) (λst=>st.2) (λi st=>st.1=cK (a.aN.take i) pcs) (Go:=λst=>st.1=cK a.aN pcs) (Rt:=λ_=>False) ?_ ?_ (cT _) rfl rfl (by omega)) ?_
 ·rintro i⟨T,ii⟩hi e hT;dsimp only at e hT ⊢;subst e;subst hT;rw[jK hi,aM];have hx:a.aN[i]? =some a.aN[i]:=aP hi;have hg:=b.yG.gb.ok _<|cL hi
  have hsq:=NR hg.1 hg.2;have hplain:¬a.aN[i].eN=true->qf (iN a.aN[i]) pcs pcs.length= []:=λhp=>by
   unfold qf;rw[List.filter_eq_nil_iff];intro j _;rw[l5,Option.any_eq_false];intro p _;unfold iN;rw[l5]at hp;rw[hp];rfl
  refine S3 (T4 (Go:=λst=>st.1=ints (qf (iN a.aN[i]) pcs pcs.length)) (Rt:=λ_=>False) (λst=>∃j:Nat,st.2=((j:Nat):Int)/\j<=pcs.length/\st.1=ints (qf (iN a.aN[i]) pcs j)) (λst=>pcs.length - st.2.toNat) ?_ ⟨0,rfl,cT _,rfl⟩ (by simp;omega)) ?_
  ·rintro⟨ow,jj⟩⟨j,e,hj,ho⟩;dsimp only at e ho ⊢;subst e;subst ho
   by_cases hlt:j<pcs.length
   ·rw[jK hlt,aM,cC hx,aB,aB];refine Tx (λhpl=>?_)<|λhpl=>Tu ?_
    ·have hpx:pcs[j]? =some pcs[j]:=aP hlt;have hlx:(pcs.map aF.dN)[j]? =some pcs[j].dN:=by rw[jD,hpx];rfl
     have hrx:(pcs.map aF.gU)[j]? =some pcs[j].gU:=by rw[jD,hpx];rfl
     obtain⟨f1,f2,_⟩:=hpf _<|cL hlt
     have hil:=Bu (iN a.aN[i]) pcs j;have hcond:((some a.aN[i]).bind λx932=>(idx (pcs.map aF.dN) ((j:Nat):Int)).bind λx935=>(fL N x932 x935).bind λx936=>bif x936 then((idx (pcs.map aF.gU) ((j:Nat):Int)).bind λx938=>(some a.aN[i]).bind λx941=>(cN N x941).bind λx944=>(jR N x938 x944).bind λx946=>some x946)else some false)=some (iN a.aN[i] pcs[j]):=by
      rw[aB,cC hlx,aB,wq,aB,cC hrx,aB,aB,px hg.1,aB,MZ (by omega) (λq hq=>FV (f2 q hq).1 (f2 q hq).2.1 (f2 q hq).2.2) hsq hN,aB];unfold iN;rw[hpl,Bool.true_and]
      cases mn a.aN[i] pcs[j].dN <;> rfl
     refine IT hcond ?_;refine S3 (P:=λst:List Int=>st=ints (qf (iN a.aN[i]) pcs<|j+1)) (Tx (λhb=>?_)<|λhb=>SR ?_)<|λst hst=>Tk ⟨⟨j+1,bI (by omega),hlt,hst⟩,?_⟩
     ·refine TM (by rw[mo];simp only[fq,List.length_nil];omega)<|SR ?_
      rw[zx hpx,aG hb,rM];rfl
     ·rw[zx hpx,aI (by rw[l5];exact hb)]
     ·dsimp only;rw[bI (by omega)];simp only[cI];omega
    ·have hn:=hplain (by rw[hpl];exact su);have hj0:qf (iN a.aN[i]) pcs j= []:=by
      unfold qf;rw[List.filter_eq_nil_iff];intro j' hj';rw[l5,Option.any_eq_false];intro p _;unfold iN;rw[hpl];rfl
     dsimp only;rw[hn,hj0]
   ·have:j=pcs.length:=by omega
    subst this;rw[nz,aQ,aB,aQ];exact Tu rfl
  intro o ho;refine Tv ho ?_<|λr hr=>hr.elim
  rintro⟨ow,jj⟩ho2;dsimp only at ho2 ⊢;subst ho2;refine TM ?_<|Tk ⟨bI (by omega),?_⟩
  ·unfold cK;rw[dU,dI];simp only[fq,List.length_nil];omega
  ·dsimp only;unfold cK;rw[eA hi,fO];rfl
 ·rintro⟨T,ii⟩e hT;dsimp only at e hT ⊢;subst e;rw[nz,aQ];exact Tu (by rw[fG]at hT;exact hT)
 intro o ho;refine Tv ho ?_<|λr hr=>hr.elim
 rintro⟨T,ii⟩hT;dsimp only at hT ⊢;subst hT;have hcon:=b.NU;rw[hpcs]at hcon;have hnb:=λl=>JQ b l;rw[hpcs]at hnb;refine IT (KG (r:=r) b.yG.gb (by omega) (by omega) (λp hp=>⟨by have:=(hpf p hp).1;omega,λx hx=>((hpf p hp).2.1 x hx).2.1⟩) hnb hcon.conn hN)<|SR ?_
 rw[<-hcon.gs]
end
section
variable {N:Nat}{a:gQ}{kp:List (List aA)}{dJ:List (List (List aA))}{r:Nat->Nat}{gs:List cF}{ofP ofB kC:List Int}{kq:List dK}
end
section
variable {N:Nat}
end
section
variable {bs:List bR}{ls:List cS}{pcs:List aF}{r:Nat->Nat}{gs:List cF}{ofP ofB kC:List Int}{kq:List dK}
end
section
variable {N:Nat}{a:gQ}{kp:List (List aA)}{dJ:List (List (List aA))}{r:Nat->Nat}{gs:List cF}{ofP ofB kC:List Int}{kq:List dK}
end
section
variable {N:Nat}
end
section
variable {N:Nat}{a:gQ}{kp:List (List aA)}{dJ:List (List (List aA))}{r:Nat->Nat}{gs:List cF}{ofP ofB kC:List Int}{kq:List dK}
theorem JR(x:cS)(p:dQ):kM x=p↔x.Part=p.Part/\x.dQ=p.dQ:=by
 cases p;unfold kM;rw[dQ.mk.injEq]
theorem vD(g:vC a)(p:dQ)(hN:4398046511104<=N):fD N a p=some (jL a p):=by
 obtain⟨r,h1,h2⟩:=HM (N:=N) (p:=p) g.up (by have:=g.xN;omega) (by omega) (φ:=jN N) (λx=>by unfold jN;rw[Bq,aB,mX,aB]);unfold fD;have e:gH N a.bJ p (jN N)=Ls N a.bJ p (jN N):=rfl;rw[e,h1,aB];exact h2
end
section
variable {N:Nat}
end
theorem Cn.uniq{n m:Nat}{tch:List (List Int)}{r1 r2:Nat->Nat}(h1:Cn n m tch r1)(h2:Cn n m tch r2){i j:Nat}(hi:i<n+m)(hj:j<n+m):r1 i=r1 j↔r2 i=r2 j:=by
 have key:∀{r1 r2:Nat->Nat},Cn n m tch r1->Cn n m tch r2->r1 i=r1 j->r2 i=r2 j:=λ{r1 r2}h1 h2 e=>
  (h1.fi (λx=>r2 i=r2 x) (λa b hab=>by rw[h2.co a b hab]) i j hi hj e) rfl
 grind
section
variable {N:Nat}{a:gQ}{kp:List (List aA)}{dJ:List (List (List aA))}{r:Nat->Nat}{gs:List cF}{ofP ofB kC:List Int}{kq:List dK}
theorem OJ(x y:Int)(u:List Int):jP N x y [] u=fC N u x y:=by
 show(((fC N u x y).bind λx38=>some x38).bind λs36=>some s36)=_;simp
theorem F7{bs:List bR}{pcs:List aF}{l:cS}{h:dK}(hh:ql bs pcs l=some h)(hn:pcs.length+bs.length<=1000000000):
  iX N h ((pcs.length:Nat):Int)=some ((eC pcs.length h:Nat):Int)/\eC pcs.length h<pcs.length+bs.length:=by
 obtain⟨k,e,h1,h2⟩:=(Bw hh).num
 grind [iX,eC,cI,wrap_add]
structure M3 (bs:List bR) (pcs:List aF) (ls:List cS) (r2:Nat->Nat) (j:Nat) (up:List Int) (fm:List (Int×Int)) (out:List Int):Prop where
 uf:UF (pcs.length+bs.length) up r2
 len:out.length=ls.length
 no:∀i l,i<j->ls[i]? =some l->ql bs pcs l=none->out[i]? =some (-1)
 yes:∀i l h,i<j->ls[i]? =some l->ql bs pcs l=some h->lV fm ((r2 (eC pcs.length h):Nat):Int)=true/\out[i]? =some (fB fm ((r2 (eC pcs.length h):Nat):Int) 0)
 low:∀x,lV fm x=true->∃v:Nat,fB fm x 0=((v:Nat):Int)/\v<j
 inj:∀x y,lV fm x=true->lV fm y=true->fB fm x 0=fB fm y 0->x=y
theorem IY{bs:List bR}{pcs:List aF}{ls:List cS}(hn:pcs.length+bs.length<=1000000000)(hp:pcs.length<=1073741824)(hbl:bs.length<=1073741824)(hl:ls.length<=1073741824)(hof:kC=ls.map (Eo bs pcs r))(hat:kq=ls.map (λl=>(ql bs pcs l).getD ⟨false,0⟩))(hN:4398046511104<=N):
  ∃r2 c up fm,eU N bs ls pcs (cK bs pcs) kC kq []=some c/\Cn pcs.length bs.length (cK bs pcs) r2/\M3 bs pcs ls r2 ls.length up fm c:=by
 suffices h:Ok (eU N bs ls pcs (cK bs pcs) kC kq []) (λc=>∃r2 up fm,Cn pcs.length bs.length (cK bs pcs) r2/\M3 bs pcs ls r2 ls.length up fm c)by
  obtain⟨c,h1,r2,up,fm,h2,h3⟩:=h
  grind
 unfold eU;refine IT (x:=[]) rfl ?_;rw[wrap_add (by omega)];obtain⟨up0,u1,u2⟩:=xG (N:=N) (n:=pcs.length+bs.length) (by omega);refine IT u1 ?_;simp only[OJ];refine S3 (E1 (n:=pcs.length) (m:=bs.length) (by simp[cK]) (xO (by omega)) (by omega) (by omega) u2 hN) ?_;rintro up1⟨r2,v1,v2⟩;refine IT (x:=up1) rfl<|IT (pD 0 (by omega)) ?_
 have tV:kq.length=ls.length:=by rw[hat,dU]
 refine S3 (T0 (λj(st:List Int×List (Int×Int)×List Int)=>M3 bs pcs ls r2 j st.1 st.2.1 st.2.2) (by omega) ⟨v1,by simp,λi l h=>by omega,λi l h h1=>by omega,λx hx=>(by cases hx),λx y hx=>(by cases hx)⟩ ?_)<|λst I=>SR ⟨r2,st.1,st.2.1,v2,by grind⟩
 rintro j⟨up,fm,out⟩hj I;rw[tV]at hj;dsimp only at I ⊢;have hx:ls[j]? =some ls[j]:=aP hj;have h1:kq[j]? =some ((ql bs pcs ls[j]).getD ⟨false,0⟩):=by grind
 have h2:kC[j]? =some (Eo bs pcs r ls[j]):=by grind
 have h3:out[j]? =some (out[j]'(by rw[I.len];exact hj)):=aP _;have hjo:j<out.length:=by grind
 refine Tc h1 ?_
 cases hh:ql bs pcs ls[j]with
 |none=>
  have e1:Eo bs pcs r ls[j] = -1:=by grind [Eo,uG]
  refine IT (x:=0) rfl<|IT (x:=true) (by grind [cC,aB]) ?_
  refine Tc h3<|SR ?_
  dsimp only;rw[cI];refine⟨I.uf,by rw[iO];exact I.len,λi l hi hil hn=>?_,λi l h hi hil hs=>?_,λx hx=>?_,I.inj⟩
  ·by_cases e:i=j
   ·grind
   ·rw[List.getElem?_set_ne<|Ne.symm e];exact I.no i l (by omega) hil hn
  ·by_cases e:i=j
   ·grind
   ·rw[List.getElem?_set_ne<|Ne.symm e];exact I.yes i l h (by omega) hil hs
  ·obtain⟨v,q1,q2⟩:=I.low x hx;grind
 |some h=>
  obtain⟨c1,c2⟩:=F7 (N:=N) hh hn;have e1:∃g:Nat,Eo bs pcs r ls[j]=((g:Nat):Int):=by grind [Eo,uG]
  obtain⟨g,e1⟩:=e1;refine IT c1<|IT (x:=false) (by rw[cC h2,aB,e1,bQ (show ¬((g:Nat):Int)<0 by omega),aQ];rfl) ?_
  rw[aQ];obtain⟨up2,t1,t2⟩:=r6 (N:=N) I.uf c2 (by omega);refine IT t1 ?_;dsimp only;have fin:∀(up3:List Int)(fm2:List (Int×Int)),UF (pcs.length+bs.length) up3 r2->(∀x,lV fm x=true->lV fm2 x=true/\fB fm2 x 0=fB fm x 0)->lV fm2 ((r2 (eC pcs.length h):Nat):Int)=true->(∀x,lV fm2 x=true->∃v:Nat,fB fm2 x 0=((v:Nat):Int)/\v<j+1)->(∀x y,lV fm2 x=true->lV fm2 y=true->fB fm2 x 0=fB fm2 y 0->x=y)->
    M3 bs pcs ls r2 (j+1) up3 fm2 (out.set j<|fB fm2 ((r2 (eC pcs.length h):Nat):Int) 0):=λup3 fm2 g1 g2 g3 g4 g5=>by
   refine⟨g1,by rw[iO];exact I.len,λi l hi hil hn=>?_,λi l h' hi hil hs=>?_,g4,g5⟩
   ·by_cases e:i=j
    ·subst e;rw[hx]at hil;injection hil with hil;subst hil;rw[hh]at hn;cases hn
    ·rw[List.getElem?_set_ne<|Ne.symm e];exact I.no i l (by omega) hil hn
   ·by_cases e:i=j
    ·subst e;rw[hx]at hil;injection hil with hil;subst hil;rw[hh]at hs;injection hs with hs;subst hs
     exact⟨g3,by grind⟩
    ·obtain⟨q1,q2⟩:=I.yes i l h' (by omega) hil hs;rw[List.getElem?_set_ne<|Ne.symm e,q2,(g2 _ q1).2];exact⟨(g2 _ q1).1,rfl⟩
  cases hm:lV fm ((r2 (eC pcs.length h):Nat):Int)with
  |true=>
   rw[jF,aQ];obtain⟨up3,t3,t4⟩:=r6 (N:=N) t2 c2 (by omega);refine IT (x:=(up2,fm)) rfl<|IT t3<|Tc h3<|SR ?_
   dsimp only;rw[cI];exact fin up3 fm t4 (λx hx=>⟨hx,rfl⟩) hm (λx hx=>by obtain⟨v,q1,q2⟩:=I.low x hx;exact⟨v,q1,by omega⟩) I.inj
  |false=>
   rw[jG,aM];obtain⟨up3,t3,t4⟩:=r6 (N:=N) t2 c2 (by omega);obtain⟨up4,t5,t6⟩:=r6 (N:=N) t4 c2 (by omega);refine IT (x:=(up3,rp fm ((r2 (eC pcs.length h):Nat):Int) ((j:Nat):Int))) (by rw[t3,aB])<|IT t5<|Tc h3<|SR ?_
   dsimp only;rw[cI];refine fin up4 _ t6 (λx hx=>?_) (by rw[oN];simp) (λx hx=>?_)<|λx y hx hy e=>?_
   ·have hne:x≠((r2 (eC pcs.length h):Nat):Int):=λe=>by rw[e,hm]at hx;cases hx
    rw[oN,lI,aI hne,hx];exact⟨by simp,rfl⟩
   ·rw[lI]
    by_cases e:x=((r2 (eC pcs.length h):Nat):Int)
    ·rw[aG e];exact⟨j,rfl,by omega⟩
    ·rw[aI e];rw[oN,bQ e,Bool.false_or]at hx;obtain⟨v,q1,q2⟩:=I.low x hx;exact⟨v,q1,by omega⟩
   ·rw[lI,lI]at e;rw[oN]at hx hy
    by_cases ex:x=((r2 (eC pcs.length h):Nat):Int)
    ·by_cases ey:y=((r2 (eC pcs.length h):Nat):Int)
     ·rw[ex,ey]
     ·rw[aG ex,aI ey]at e;rw[bQ ey,Bool.false_or]at hy;obtain⟨v,q1,q2⟩:=I.low y hy;omega
    ·rw[bQ ex,Bool.false_or]at hx
     by_cases ey:y=((r2 (eC pcs.length h):Nat):Int)
     ·rw[aI ex,aG ey]at e;obtain⟨v,q1,q2⟩:=I.low x hx;omega
     ·rw[aI ex,aI ey]at e;rw[bQ ey,Bool.false_or]at hy;exact I.inj x y hx hy e
theorem M4(b:kN a kp dJ r gs ofP ofB kC kq){x y:cS}{h h':dK}(hx:ql a.aN (bY 0 dJ) x=some h)(hy:ql a.aN (bY 0 dJ) y=some h'):(uG a.aN (bY 0 dJ) r x=uG a.aN (bY 0 dJ) r y)↔r (eC (bY 0 dJ).length h)=r (eC (bY 0 dJ).length h'):=by
 have gp:∀{z:cS}{h:dK},ql a.aN (bY 0 dJ) z=some h->(live a.aN (bY 0 dJ).length ((bY 0 dJ).length+a.aN.length) r<|bV ((bY 0 dJ).length+a.aN.length) r)[gi a.aN (bY 0 dJ).length ((bY 0 dJ).length+a.aN.length) r<|r<|eC (bY 0 dJ).length h]? =some (r<|eC (bY 0 dJ).length h):=by
  intro z h hz;obtain⟨k,e,g1,g2⟩:=(Bw hz).num;have hle:=b.NU.conn.le;have hrr:=b.NU.conn.rr;have hd:∀i,i<(bY 0 dJ).length+a.aN.length->r i∈bV ((bY 0 dJ).length+a.aN.length) r:=λi hi=>my.2 ⟨re.2 (by grind),by grind⟩;unfold eC
  cases hB:h.bR with
  |true=>
   grind [cI,JG,JI]
  |false=>
   have k1:=g2 hB;rw[aI su,e,cI]
   grind [JG,JH]
 unfold uG
 grind
theorem F8(b:kN a kp dJ r gs ofP ofB kC kq)(h1:iA N a=some (some (a.aK,a.cJ,a.aN,a.bJ,kp,bY 0 dJ,cK a.aN<|bY 0 dJ,gs,ofP,ofB,kC,kq),0)){p q:dQ}{i k:Nat}{x y:cS}(ep:jL a p=((i:Nat):Int))(hx:a.bJ[i]? =some x)(eq:jL a q=((k:Nat):Int))(hy:a.bJ[k]? =some y)(hN:4398046511104<=N):
  kA N a [] p q=some ((uG a.aN (bY 0 dJ) r x).isSome&&decide (uG a.aN (bY 0 dJ) r x=uG a.aN (bY 0 dJ) r y),0):=by
 have hf:=b.xN.2;have hbl:=b.yG.gb.len;have hlf:=b.vu.xN;obtain⟨r2,c,up,fm,c1,c2,c3⟩:=IY (N:=N) (r:=r) (kC:=kC) (kq:=kq) (bs:=a.aN) (pcs:=bY 0 dJ) (ls:=a.bJ) (by omega) (by omega) (by omega) (by omega) b.NU.kC b.NU.kq hN;have hil:=(bN.1 hx).1;have hkl:=(bN.1 hy).1;unfold kA;rw[h1,aB,vD b.vu p hN,vD b.vu q hN];simp only[I9,bne_self_eq_false,aQ,aB];have hz:∀(p0:List (List aH))(p1:List aH)(p2:List bR)(p3:List cS)(p4:List (List aA))(p5:List aF)(p6:List (List Int))(p7:List cF)(p8 p9 p10:List Int)(p11:List dK),jO N p0 p1 p2 p3 p4 p5 p6 p7 p8 p9 p10 p11 []=some 0:=λ_ _ _ _ _ _ _ _ _ _ _ _=>rfl;rw[hz,aB,bne_self_eq_false,aQ,ep,eq,bQ (show ¬((i:Nat):Int)<0 by omega),bQ (show ¬((k:Nat):Int)<0 by omega),Bool.or_false,aQ,c1,aB]
 cases hhx:ql a.aN (bY 0 dJ) x with
 |none=>
  have e1:uG a.aN (bY 0 dJ) r x=none:=by grind [uG]
  rw[cC<|c3.no i x hil hx hhx,aB,e1];rfl
 |some h=>
  obtain⟨q1,q2⟩:=c3.yes i x h hil hx hhx;obtain⟨v,v1,_⟩:=c3.low _ q1;have e1:(uG a.aN (bY 0 dJ) r x).isSome=true:=by grind [uG]
  rw[cC q2,aB,v1,bO (show((v:Nat):Int)>=0 by omega),aM,aB,e1,Bool.true_and]
  cases hhy:ql a.aN (bY 0 dJ) y with
  |none=>
   have e2:uG a.aN (bY 0 dJ) r y=none:=by grind [uG]
   rw[cC<|c3.no k y hkl hy hhy,aB,aB,bQ (λe=>by grind),show(((v:Nat):Int)== -1)=false from by rfl]
  |some h'=>
   obtain⟨s1,s2⟩:=c3.yes k y h' hkl hy hhy;obtain⟨w,w1,_⟩:=c3.low _ s1;rw[cC s2,aB,w1,aB];have t1:=(F7 (N:=N) hhx (by omega)).2;have t2:=(F7 (N:=N) hhy (by omega)).2;have key:(((v:Nat):Int)=((w:Nat):Int))↔uG a.aN (bY 0 dJ) r x=uG a.aN (bY 0 dJ) r y:=by
    rw[M4 b hhx hhy,Cn.uniq b.NU.conn c2 t1 t2];constructor
    ·intro e;have:=c3.inj _ _ q1 s1 (by omega);omega
    grind
   grind
end
def zA:gQ:=⟨[[⟨0,0,1,1⟩]],[],[],[⟨⟨[97]⟩,⟨[49]⟩,0,⟨0,0⟩⟩]⟩
def OK:dQ:=⟨⟨[97]⟩,⟨[49]⟩⟩
def wE:aA:=⟨0,1,[0,1]⟩
theorem M5:tB [⟨0,0,1,1⟩] [wE]where
 can:=⟨λb hb=>by
  grind [cG,wE,decide,j7],List.pairwise_singleton _ _⟩
 cover:=λx y=>by
  show qJ (if(0:Int)<=y/\y<1 then [0,1]else []) x=((decide ((0:Int)<=x)&&decide (x<1))&&(decide ((0:Int)<=y)&&decide (y<1))||false)
  by_cases h:(0:Int)<=y/\y<1
  ·rw[aG h,bO h.1,bO h.2];unfold qJ;rw[pq,pq,FL]
   by_cases h0:(0:Int)<=x
   ·by_cases h1:(1:Int)<=x
    ·rw[aG h0,aG h1,bQ (show ¬x<1 by omega)];simp
    ·rw[aG h0,aI h1,bO h0,bO (show x<1 by omega)];rfl
   ·rw[aI h0,aI (show ¬(1:Int)<=x by omega),bQ h0];rfl
  ·rw[aI h];have:(decide ((0:Int)<=y)&&decide (y<1))=false:=by
    rw[Bool.eq_false_iff];intro h';rw[cO,cP,cP]at h';exact h h'
   rw[this,Bool.and_false];rfl
 lim:=λb hb=>by
  have e:b=cG wE:=by simpa using hb
  subst e;exact⟨by decide,by decide,by decide⟩
theorem Sq:tB [] []:=⟨fF.nil,λ_ _=>rfl,λb hb=>by cases hb⟩
theorem Sr:jW [⟨0,0,1,1⟩]=0:=rL.2 ⟨by decide,λk a b h1 h2=>(by grind),⟨_,M5,rfl⟩⟩
theorem Ss:jW []=0:=rL.2 ⟨by decide,λk a b h1 h2=>(by simp at h2),⟨_,Sq,rfl⟩⟩
theorem OL:tH zA:=⟨by decide,by decide,by decide,by decide,by decide,by
 intro x hx
 grind [zA,decide]⟩
theorem OM:kG zA=0:=by
 have e1:zA.aK.findSome? yF=none:=by
  show [[(⟨0,0,1,1⟩:aH)]].findSome? yF=none;simp[yF,Sr]
 have e2:jy zA=0:=by decide
 have e3:mY zA=0:=by
  rfl
 grind [sm,zA,kG,decide,Kw,jW,FY,Ss]
theorem QO{kp:List (List aA)}{dJ:List (List<|List aA)}(D:xM zA.aK zA.aN zA.aK.length kp dJ):kp= [[wE]]/\dJ= [[[wE]]]:=by
 obtain⟨s,rfl⟩:=List.length_eq_one_iff.1 D.len;obtain⟨ps,rfl⟩:=List.length_eq_one_iff.1 D.Bt;have hd:=D.dr 0 [⟨0,0,1,1⟩] s (by decide) rfl rfl;have hs:s= [wE]:=Hr hd.can M5.can λx y=>by
  rw[hd.cover,M5.cover];show(_&& !uE [] x y)=_;simp[uE]
 subst hs;obtain⟨u,hu⟩:=D.pt 0 [wE] ps (by decide) rfl rfl;have u0:u 0=0:=Nat.le_zero.1<|hu.join.le 0 (by decide)
 have hh:bV (aU [wE]).length u= [0]:=by
  show(List.range 1).filter (λk=>decide<|u k=k)= [0]
  grind
 obtain⟨p,rfl⟩:=List.length_eq_one_iff.1 (show ps.length=1 by rw[hu.len,hh];rfl);have hp:=hu.each 0 0 p (by rw[hh];rfl) rfl;have hc:oX (aU [wE]) (aU [wE]).length u 0= [⟨0,0,1,1⟩]:=by
  show((List.range 1).filter<|λi=>decide<|u i=0).filterMap (λi=>(aU [wE])[i]?)=_;simp[List.range_succ,u0];rfl
 rw[hc]at hp;exact⟨rfl,by rw[hp.unique M5]⟩
section
variable {N:Nat}
theorem M6(hN:4398046511104<=N):ke N=some true:=by
 have key:kA N zA [] OK OK=some (true,0):=by
  obtain⟨x,hx,hI⟩:=Bz (N:=N) OL hN
  rcases hI with⟨he,_⟩|⟨_,hg,hcl,kp,dJ,D,⟨hf,_⟩|⟨hf,r,gs,ofP,ofB,kC,kq,hC,rfl⟩⟩
  ·grind [OM]
  ·obtain⟨rfl,rfl⟩:=QO D;exact absurd ⟨by decide,by decide⟩ hf
  ·have b:kN zA kp dJ r gs ofP ofB kC kq:=⟨hg,hcl,D,hf,hC⟩;have e:jL zA OK=((0:Nat):Int):=by
    rfl
   have hl:zA.bJ[0]? =some ⟨⟨[97]⟩,⟨[49]⟩,0,⟨0,0⟩⟩:=rfl;rw[F8 b hx e hl e hl hN];obtain⟨rfl,rfl⟩:=QO D;have hh:ql zA.aN (bY 0 [[[wE]]]) ⟨⟨[97]⟩,⟨[49]⟩,0,⟨0,0⟩⟩=some ⟨false,0⟩:=by decide
   grind [uG]
 unfold ke;have e:kA N (⟨([([(⟨0,0,1,1⟩:aH)]:List aH)]:List (List aH)),([]:List aH),([]:List bR),([(⟨⟨[97]⟩,⟨[49]⟩,0,⟨0,0⟩⟩:cS)]:List cS)⟩:gQ) ([]:List dX) (⟨⟨[97]⟩,⟨[49]⟩⟩:dQ) (⟨⟨[97]⟩,⟨[49]⟩⟩:dQ)=some (true,0):=key
 grind
end
def lU(n:Nat)(fl:List dX)(v:Nat):Prop:=∃x∈fl,x.Open=true/\eC n x.dK=v
structure ON (bs:List bR) (n m:Nat) (fl:List dX):Prop where
 op:∀x∈fl,x.Open=true->E3 bs n m x.dK
 br:∀x∈fl,x.Open=false->∃i k:Nat,x.A=((i:Nat):Int)/\x.B=((k:Nat):Int)/\i<k/\k<n
def Gh(n:Nat)(tch:List (List Int))(fl:List dX)(i j:Nat):Prop:=Lk n tch i j\/∃x∈fl,x.Open=false/\x.A=((i:Nat):Int)/\x.B=((j:Nat):Int)
def M7(n:Nat)(tch:List (List Int))(fl:List dX)(i j:Nat):Prop:=Gh n tch fl i j/\¬lU n fl i/\¬lU n fl j
structure yT (t:Nat) (L:Nat->Nat->Prop) (r:Nat->Nat):Prop where
 le:∀i,i<t->r i<=i
 rr:∀i,i<t->r (r i)=r i
 co:∀i j,L i j->r i=r j
 fi:∀S:Nat->Prop,(∀i j,L i j->(S i↔S j))->∀i j,i<t->j<t->r i=r j->S i->S j
theorem yT.uniq{t:Nat}{L:Nat->Nat->Prop}{r1 r2:Nat->Nat}(h1:yT t L r1)(h2:yT t L r2){i j:Nat}(hi:i<t)(hj:j<t):r1 i=r1 j↔r2 i=r2 j:=by
 have key:∀{r1 r2:Nat->Nat},yT t L r1->yT t L r2->r1 i=r1 j->r2 i=r2 j:=λ{r1 r2}h1 h2 e=>
  (h1.fi (λx=>r2 i=r2 x) (λa b hab=>by rw[h2.co a b hab]) i j hi hj e) rfl
 grind
noncomputable def ll(bs:List bR)(pcs:List aF)(fl:List dX)(l:cS):Option Nat:=(ql bs pcs l).bind λh=>if lU pcs.length fl (eC pcs.length h)then none else some (eC pcs.length h)
section
variable {N:Nat}{r:Nat->Nat}{kC:List Int}{kq:List dK}
theorem OO{bs:List bR}{n m:Nat}{h:dK}(hh:E3 bs n m h)(hn:n+m<=1000000000):iX N h ((n:Nat):Int)=some ((eC n h:Nat):Int)/\eC n h<n+m:=by
 obtain⟨k,e,h1,h2⟩:=hh.num
 grind [iX,eC,cI,wrap_add]
def Mg(t:Nat)(L:Nat->Nat->Prop)(op:Nat->Prop)(done:Nat->Nat->Prop)(u:List Int):Prop:=
 ∃r E,UF t u r/\ny r E/\wU t r E/\(∀p∈E,L p.1 p.2/\¬op p.1/\¬op p.2)/\∀i j,done i j->¬op i->¬op j->(i,j)∈E
theorem Mg.mono{t:Nat}{L:Nat->Nat->Prop}{op:Nat->Prop}{d d':Nat->Nat->Prop}{u:List Int}(h:Mg t L op d u)(hd:∀i j,d' i j->d i j):Mg t L op d' u:=by
 obtain⟨r,E,h1,h2,h3,h4,h5⟩:=h;exact⟨r,E,h1,h2,h3,h4,λi j hij=>h5 i j<|hd i j hij⟩
theorem L1{t:Nat}{L:Nat->Nat->Prop}{op:Nat->Prop}{done:Nat->Nat->Prop}{u:List Int}{om:List (Int×Bool)}(hom:∀v:Nat,fB om ((v:Nat):Int) false=true↔op v)(hI:Mg t L op done u){i k:Nat}(hi:i<t)(hk:k<t)(ht:t<N)(hL:L i k):
  Ok (jP N ((i:Nat):Int) ((k:Nat):Int) om u) (Mg t L op<|λa b=>done a b\/(a=i/\b=k)):=by
 obtain⟨r,E,h1,h2,h3,h4,h5⟩:=hI
 have skip:op i\/op k->Mg t L op (λa b=>done a b\/(a=i/\b=k)) u:=λho=>⟨r,E,h1,h2,h3,h4,λa b hab ha hb=>by
  grind⟩
 unfold jP
 by_cases ho:op i
 ·grind [IT,SR]
 ·have e1:fB om ((i:Nat):Int) false=false:=by grind
  by_cases hp:op k
  ·grind [IT,SR]
  ·have e2:fB om ((k:Nat):Int) false=false:=by grind
   refine IT (x:=true) (by grind) ?_;obtain⟨u2,a1,a2⟩:=JA (N:=N) h1 hi hk ht;rw[aM,a1];refine SR ⟨_,_,a2,h2.join i k<|h1.rr i hi,h3.join hi hk,λp hp'=>?_,λa b hab ha hb=>?_⟩
   ·grind
   grind
structure Er (bs:List bR) (pcs:List aF) (fl:List dX) (ls:List cS) (r2:Nat->Nat) (j:Nat) (up:List Int) (fm:List (Int×Int)) (out:List Int):Prop where
 uf:UF (pcs.length+bs.length) up r2
 len:out.length=ls.length
 no:∀i l,i<j->ls[i]? =some l->ll bs pcs fl l=none->out[i]? =some (-1)
 yes:∀i l v,i<j->ls[i]? =some l->ll bs pcs fl l=some v->lV fm ((r2 v:Nat):Int)=true/\out[i]? =some (fB fm ((r2 v:Nat):Int) 0)
 low:∀x,lV fm x=true->∃(v:Nat)(l:cS)(u:Nat),fB fm x 0=((v:Nat):Int)/\v<j/\ls[v]? =some l/\ll bs pcs fl l=some u/\((r2 u:Nat):Int)=x
 inj:∀x y,lV fm x=true->lV fm y=true->fB fm x 0=fB fm y 0->x=y
 le:∀(i v:Nat),out[i]? =some ((v:Nat):Int)->v<=i
theorem HU{bs:List bR}{pcs:List aF}{ls:List cS}{fl:List dX}(hfl:ON bs pcs.length bs.length fl)(hfn:fl.length<=1073741824)(hn:pcs.length+bs.length<=1000000000)(hp:pcs.length<=1073741824)(hbl:bs.length<=1073741824)(hl:ls.length<=1073741824)(hof:kC=ls.map (Eo bs pcs r))(hat:kq=ls.map (λl=>(ql bs pcs l).getD ⟨false,0⟩))(hN:4398046511104<=N):
  ∃r2 c up fm,eU N bs ls pcs (cK bs pcs) kC kq fl=some c/\yT (pcs.length+bs.length) (M7 pcs.length (cK bs pcs) fl) r2/\Er bs pcs fl ls r2 ls.length up fm c:=by
 suffices h:Ok (eU N bs ls pcs (cK bs pcs) kC kq fl) (λc=>∃r2 up fm,yT (pcs.length+bs.length) (M7 pcs.length (cK bs pcs) fl) r2/\Er bs pcs fl ls r2 ls.length up fm c)by
  obtain⟨c,h1,r2,up,fm,h2,h3⟩:=h
  grind
 unfold eU;refine S3 (T0 (λq om=>∀v:Nat,fB om ((v:Nat):Int) false=true↔lU pcs.length (fl.take q) v) (by omega) (λv=>⟨λh=>(by cases h),λ⟨x,hx,_⟩=>(by simp at hx)⟩)<|λq om hq hI=>?_) ?_
 ·have hx:fl[q]? =some fl[q]:=aP hq;have hts:=eA hq;refine Tc hx ?_
  cases ho:fl[q].Open with
  |true=>
   obtain⟨c1,_⟩:=OO (N:=N) (hfl.op _ (cL hq) ho) hn;refine IT (x:=rp om ((eC pcs.length fl[q].dK:Nat):Int) true) (by grind)<|SR λv=>?_
   rw[lI,hts]
   by_cases e:((v:Nat):Int)=((eC pcs.length fl[q].dK:Nat):Int)
   ·rw[aG e];exact⟨λ_=>⟨fl[q],List.mem_append_right _<|l4.2 rfl,ho,by omega⟩,λ_=>rfl⟩
   ·rw[aI e,hI v];constructor
    ·rintro⟨x,hx,h1,h2⟩;exact⟨x,List.mem_append_left _ hx,h1,h2⟩
    ·rintro⟨x,hx,h1,h2⟩
     rcases dD.1 hx with hx|hx
     ·exact⟨x,hx,h1,h2⟩
     ·simp at hx;subst hx;exact absurd (by rw[h2]) e
  |false=>
   refine IT (x:=om) rfl<|SR λv=>?_
   rw[hI v,hts];constructor
   ·rintro⟨x,hx,h1,h2⟩;exact⟨x,List.mem_append_left _ hx,h1,h2⟩
   ·rintro⟨x,hx,h1,h2⟩
    rcases dD.1 hx with hx|hx
    ·exact⟨x,hx,h1,h2⟩
    ·simp at hx;subst hx;rw[ho]at h1;cases h1
 intro om hom;rw[fG]at hom;rw[wrap_add (by omega)];obtain⟨up0,u1,u2⟩:=xG (N:=N) (n:=pcs.length+bs.length) (by omega);refine IT u1 ?_;have htl:(cK bs pcs).length=bs.length:=by unfold cK;simp
 have hto:=xO (bs:=bs) (pcs:=pcs) (by omega)
 refine S3 (T0 (λq u=>Mg (pcs.length+bs.length) (Gh pcs.length (cK bs pcs) fl) (lU pcs.length fl) (λa b=>∃k l,k<q/\(cK bs pcs)[k]? =some l/\((a:Nat):Int)∈l/\b=pcs.length+k) u) (by omega)
  ⟨_,_,u2,ny.id,wU.id _,λp hp=>(by cases hp),λi j⟨k,l,hk,_⟩=>by omega⟩ (λq u hq hI=>?_)) ?_
 ·have hqx:(cK bs pcs)[q]? =some (cK bs pcs)[q]:=aP hq;obtain⟨hl1,hl2⟩:=hto _<|cL hq
  refine Tc hqx ?_;rw[wrap_add (by omega)]
  refine S3 (T0 (λt u=>Mg (pcs.length+bs.length) (Gh pcs.length (cK bs pcs) fl) (lU pcs.length fl) (λa b=>(∃k l,k<q/\(cK bs pcs)[k]? =some l/\((a:Nat):Int)∈l/\b=pcs.length+k)\/(((a:Nat):Int)∈(cK bs pcs)[q].take t/\b=pcs.length+q)) u) (by omega)
   (hI.mono λi j h=>by rcases h with h|⟨h,_⟩;exact h;simp at h) (λt u ht hJ=>?_)) (λu hJ=>SR (hJ.mono λi j⟨k,l,hk,h1,h2,h3⟩=>?_))
  ·have htx:(cK bs pcs)[q][t]? =some (cK bs pcs)[q][t]:=aP ht;obtain⟨i,hi,e⟩:=hl2 _<|cL ht
   refine Tc htx ?_;rw[e];refine S3 (L1 hom hJ (i:=i) (k:=pcs.length+q) (by omega) (by omega) (by omega)<|.inl ⟨q,_,hqx,by rw[<-e];exact cL ht,rfl⟩)<|λu2 hu2=>SR<|hu2.mono λa b h=>?_
   rw[eA ht]at h
   rcases h with h|⟨h,hb⟩
   ·exact .inl<|.inl h
   ·rcases dD.1 h with h|h
    ·exact .inl<|.inr ⟨h,hb⟩
    ·rw[l4,e]at h;exact .inr ⟨by omega,hb⟩
  ·by_cases hkq:k<q
   ·exact .inl ⟨k,l,hkq,h1,h2,h3⟩
   ·have:k=q:=by omega
    subst this;rw[hqx]at h1;injection h1 with h1;subst h1
    exact .inr ⟨by rw[fG];exact h2,h3⟩
 intro u3 h3
 refine S3 (T0 (λq u=>Mg (pcs.length+bs.length) (Gh pcs.length (cK bs pcs) fl) (lU pcs.length fl) (λa b=>Lk pcs.length (cK bs pcs) a b\/∃x∈fl.take q,x.Open=false/\x.A=((a:Nat):Int)/\x.B=((b:Nat):Int)) u) (by omega)
  (h3.mono λi j h=>by
   rcases h with⟨k,l,h1,h2,h3⟩|⟨x,hx,_⟩
   ·exact⟨k,l,(bN.1 h1).1,h1,h2,h3⟩
   ·simp at hx) (λq u hq hI=>?_)) ?_
 ·have hx:fl[q]? =some fl[q]:=aP hq;have hts:=eA hq;refine Tc hx ?_
  cases ho:fl[q].Open with
  |true=>
   refine IT (x:=u) rfl<|SR<|hI.mono λa b h=>?_
   rw[hts]at h
   rcases h with h|⟨x,hx,h1,h2⟩
   ·exact .inl h
   ·rcases dD.1 hx with hx|hx
    ·exact .inr ⟨x,hx,h1,h2⟩
    ·simp at hx;subst hx;rw[ho]at h1;cases h1
  |false=>
   obtain⟨i,k,e1,e2,e3,e4⟩:=hfl.br _ (cL hq) ho;rw[jG,aM,e1,e2];refine S3 (P:=Mg (pcs.length+bs.length) (Gh pcs.length (cK bs pcs) fl) (lU pcs.length fl)<|λa b=>(Lk pcs.length (cK bs pcs) a b\/∃x∈fl.take q,x.Open=false/\x.A=((a:Nat):Int)/\x.B=((b:Nat):Int))\/(a=i/\b=k)) (S3 (L1 hom hI (i:=i) (k:=k) (by omega) (by omega) (by omega)<|.inr ⟨fl[q],cL hq,ho,e1,e2⟩)<|λu2 hu2=>SR hu2)<|λu2 hu2=>SR<|hu2.mono λa b h=>?_
   rw[hts]at h
   rcases h with h|⟨x,hx,h1,h2,h3⟩
   ·exact .inl<|.inl h
   ·rcases dD.1 hx with hx|hx
    ·exact .inl<|.inr ⟨x,hx,h1,h2,h3⟩
    ·simp at hx;subst hx;rw[e1]at h2;rw[e2]at h3;exact .inr ⟨by omega,by omega⟩
 rintro up1⟨r2,E,v1,v2,v3,v4,v5⟩;rw[fG]at v5;have hC:yT (pcs.length+bs.length) (M7 pcs.length (cK bs pcs) fl) r2:=
  ⟨v1.le,v1.rr,λi j h=>v2 (i,j)<|v5 i j h.1 h.2.1 h.2.2,λS hS i j hi hj=>v3 S (λp hp=>hS p.1 p.2<|v4 p hp) i j hi hj⟩
 refine IT (pD 0 (by omega)) ?_;have tV:kq.length=ls.length:=by rw[hat,dU]
 refine S3 (T0 (λj(st:List Int×List (Int×Int)×List Int)=>Er bs pcs fl ls r2 j st.1 st.2.1 st.2.2) (by omega) ⟨v1,by simp,λi l h=>by omega,λi l h h1=>by omega,λx hx=>(by cases hx),λx y hx=>(by cases hx),λi v hv=>by rw[List.getElem?_replicate]at hv;split at hv;injection hv with hv;omega;cases hv⟩ ?_)<|λst I=>SR ⟨r2,st.1,st.2.1,hC,by rw[<-tV];exact I⟩
 rintro j⟨up,fm,out⟩hj I;rw[tV]at hj;dsimp only at I ⊢;have hx:ls[j]? =some ls[j]:=aP hj;have h1:kq[j]? =some ((ql bs pcs ls[j]).getD ⟨false,0⟩):=by rw[hat,jD,hx];rfl
 have h2:kC[j]? =some (Eo bs pcs r ls[j]):=by rw[hof,jD,hx];rfl
 have h3:out[j]? =some (out[j]'(by rw[I.len];exact hj)):=aP _;have hjo:j<out.length:=by rw[I.len];exact hj
 have hx0:=hx;have dead:ll bs pcs fl ls[j]=none->Er bs pcs fl ls r2 (j+1) up fm (out.set j<|-1):=λhnd=>by
  refine⟨I.uf,by rw[iO];exact I.len,λi l hi hil hn=>?_,λi l v hi hil hs=>?_,λx hx=>?_,I.inj,λi v hv=>?_⟩
  ·by_cases e:i=j
   ·subst e;rw[List.getElem?_set_self hjo]
   ·rw[List.getElem?_set_ne<|Ne.symm e];exact I.no i l (by omega) hil hn
  ·by_cases e:i=j
   ·subst e;rw[hx]at hil;injection hil with hil;subst hil;rw[hnd]at hs;cases hs
   ·rw[List.getElem?_set_ne<|Ne.symm e];exact I.yes i l v (by omega) hil hs
  ·obtain⟨v,l,u,q1,q2,q3⟩:=I.low x hx;exact⟨v,l,u,q1,by omega,q3⟩
  ·by_cases e:i=j
   ·subst e;rw[List.getElem?_set_self hjo]at hv;injection hv with hv;omega
   ·rw[List.getElem?_set_ne<|Ne.symm e]at hv;exact I.le i v hv
 refine Tc h1 ?_
 cases hh:ql bs pcs ls[j]with
 |none=>
  have e1:Eo bs pcs r ls[j] = -1:=by unfold Eo uG;rw[hh];rfl
  refine IT (x:=0) rfl<|IT (x:=true) (by rw[cC h2,aB,e1];rfl) ?_
  refine Tc h3<|SR ?_
  dsimp only;rw[cI];exact dead (by unfold ll;rw[hh];rfl)
 |some h=>
  obtain⟨c1,c2⟩:=F7 (N:=N) hh hn;have e1:∃g:Nat,Eo bs pcs r ls[j]=((g:Nat):Int):=by unfold Eo uG;rw[hh];exact⟨_,rfl⟩
  obtain⟨g,e1⟩:=e1;refine IT c1 ?_
  by_cases hop:lU pcs.length fl (eC pcs.length h)
  ·refine IT (x:=true) (by rw[cC h2,aB,e1,bQ (show ¬((g:Nat):Int)<0 by omega),aQ,(hom _).2 hop]) ?_;refine Tc h3<|SR ?_
   dsimp only;rw[cI];exact dead (by unfold ll;rw[hh,Option.bind_some,aG hop])
  have hnd:ll bs pcs fl ls[j]=some (eC pcs.length h):=by unfold ll;rw[hh,Option.bind_some,aI hop]
  refine IT (x:=false) (by rw[cC h2,aB,e1,bQ (show ¬((g:Nat):Int)<0 by omega),aQ];rw[Bool.eq_false_iff.2 λh=>hop<|(hom _).1 h]) ?_;rw[aQ];obtain⟨up2,t1,t2⟩:=r6 (N:=N) I.uf c2 (by omega);refine IT t1 ?_;dsimp only;have fin:∀(up3:List Int)(fm2:List (Int×Int)),UF (pcs.length+bs.length) up3 r2->(∀x,lV fm x=true->lV fm2 x=true/\fB fm2 x 0=fB fm x 0)->lV fm2 ((r2 (eC pcs.length h):Nat):Int)=true->(∀x,lV fm2 x=true->∃(v:Nat)(l:cS)(u:Nat),fB fm2 x 0=((v:Nat):Int)/\v<j+1/\ls[v]? =some l/\ll bs pcs fl l=some u/\((r2 u:Nat):Int)=x)->(∀x y,lV fm2 x=true->lV fm2 y=true->fB fm2 x 0=fB fm2 y 0->x=y)->
    Er bs pcs fl ls r2 (j+1) up3 fm2 (out.set j<|fB fm2 ((r2 (eC pcs.length h):Nat):Int) 0):=λup3 fm2 g1 g2 g3 g4 g5=>by
   refine⟨g1,by rw[iO];exact I.len,λi l hi hil hn=>?_,λi l h' hi hil hs=>?_,g4,g5,λi v hv=>?_⟩
   ·by_cases e:i=j
    ·subst e;rw[hx]at hil;injection hil with hil;subst hil;rw[hnd]at hn;cases hn
    ·rw[List.getElem?_set_ne<|Ne.symm e];exact I.no i l (by omega) hil hn
   ·by_cases e:i=j
    ·subst e;rw[hx]at hil;injection hil with hil;subst hil;rw[hnd]at hs;injection hs with hs;subst hs
     exact⟨g3,by rw[List.getElem?_set_self hjo]⟩
    ·obtain⟨q1,q2⟩:=I.yes i l h' (by omega) hil hs;rw[List.getElem?_set_ne<|Ne.symm e,q2,(g2 _ q1).2];exact⟨(g2 _ q1).1,rfl⟩
   ·by_cases e:i=j
    ·subst e;rw[List.getElem?_set_self hjo]at hv;injection hv with hv
     obtain⟨v',_,_,q1,q2,_⟩:=g4 _ g3;rw[q1]at hv;omega
    ·rw[List.getElem?_set_ne<|Ne.symm e]at hv;exact I.le i v hv
  cases hm:lV fm ((r2 (eC pcs.length h):Nat):Int)with
  |true=>
   rw[jF,aQ];obtain⟨up3,t3,t4⟩:=r6 (N:=N) t2 c2 (by omega);refine IT (x:=(up2,fm)) rfl<|IT t3<|Tc h3<|SR ?_
   dsimp only;rw[cI];exact fin up3 fm t4 (λx hx=>⟨hx,rfl⟩) hm (λx hx=>by obtain⟨v,l,u,q1,q2,q3⟩:=I.low x hx;exact⟨v,l,u,q1,by omega,q3⟩) I.inj
  |false=>
   rw[jG,aM];obtain⟨up3,t3,t4⟩:=r6 (N:=N) t2 c2 (by omega);obtain⟨up4,t5,t6⟩:=r6 (N:=N) t4 c2 (by omega);refine IT (x:=(up3,rp fm ((r2 (eC pcs.length h):Nat):Int) ((j:Nat):Int))) (by rw[t3,aB])<|IT t5<|Tc h3<|SR ?_
   dsimp only;rw[cI];refine fin up4 _ t6 (λx hx=>?_) (by rw[oN];simp) (λx hx=>?_)<|λx y hx hy e=>?_
   ·have hne:x≠((r2 (eC pcs.length h):Nat):Int):=λe=>by rw[e,hm]at hx;cases hx
    rw[oN,lI,aI hne,hx];exact⟨by simp,rfl⟩
   ·rw[lI]
    by_cases e:x=((r2 (eC pcs.length h):Nat):Int)
    ·rw[aG e];exact⟨j,ls[j],_,rfl,by omega,hx0,hnd,e.symm⟩
    ·rw[aI e];rw[oN,bQ e,Bool.false_or]at hx;obtain⟨v,l,u,q1,q2,q3⟩:=I.low x hx;exact⟨v,l,u,q1,by omega,q3⟩
   ·rw[lI,lI]at e;rw[oN]at hx hy
    by_cases ex:x=((r2 (eC pcs.length h):Nat):Int)
    ·by_cases ey:y=((r2 (eC pcs.length h):Nat):Int)
     ·rw[ex,ey]
     ·rw[aG ex,aI ey]at e;rw[bQ ey,Bool.false_or]at hy;obtain⟨v,_,_,q1,q2,_⟩:=I.low y hy;omega
    ·rw[bQ ex,Bool.false_or]at hx
     by_cases ey:y=((r2 (eC pcs.length h):Nat):Int)
     ·rw[aI ex,aG ey]at e;obtain⟨v,_,_,q1,q2,_⟩:=I.low x hx;omega
     ·rw[aI ex,aI ey]at e;rw[bQ ey,Bool.false_or]at hy;exact I.inj x y hx hy e
def Es(n:Nat)(k:Int):Bool:=decide (k>=0)&&decide (k<=((n:Nat):Int) - 1)
def uI(bs:List bR)(n:Nat)(x:dX):Bool:=bif x.Open then(bif x.dK.bR then Es bs.length x.dK.Number&&tF bs x.dK.Number.toNat else Es n x.dK.Number)else Es n x.A&&Es n x.B
def AP(x:dX):Bool:=bif x.Open then x.A != 0||x.B != 0 else !decide (x.dK= ⟨false,0⟩)
def vE(bs:List bR)(n:Nat)(fl:List dX)(k:Nat):Option Int:=(fl[k]?).bind λx=>
 if AP x=true then some 3 else if uI bs n x=false then some 9 else if(!x.Open&&decide (x.B<=x.A))=true then some 8 else if x∈fl.take k then some 7 else none
def mq(bs:List bR)(n:Nat)(fl:List dX):Int:=if 20<fl.length then 2 else(nK fl.length<|vE bs n fl).getD 0
theorem Et{l:List dX}{x:dX}(hl:l.length<=1048576):ka N l x=some (decide<|x∈l):=by
 have e:ka N l x=Bb l x:=rfl
 grind [FI]
theorem yU{a1:List (List aH)}{a2:List aH}{bs:List bR}{a4:List cS}{a5:List (List aA)}{pcs:List aF}{a7:List (List Int)}{a8:List cF}{a9 a10 a11:List Int}{a12:List dK}{fl:List dX}(hp:pcs.length<=1073741824)(hb:bs.length<=1073741824)(hf:fl.length<=1048576):
  jO N a1 a2 bs a4 a5 pcs a7 a8 a9 a10 a11 a12 fl=some (mq bs pcs.length fl):=by
 unfold jO mq
 by_cases h20:20<fl.length
 ·grind
 rw[bQ (show ¬((fl.length:Nat):Int)>20 by omega),aQ,aI h20];have w:∀(n:Nat)(k:Int),n<=1073741824->qt N k 0 (wrap .i64<|((n:Nat):Int) - 1)=some (Es n k):=λn k hn=>by
  rw[fP (by omega) (by omega)];rfl
 have w1:∀k:Int,iv N k pcs=some (Es pcs.length k):=λk=>by
  grind [iv]
 have assoc:∀{β:Type}(a:Option Bool)(b c:Bool->Option Bool)(g:Bool->Option β),(a.bind λs=>(b s).bind λt=>(c t).bind g)=(a.bind λs=>(b s).bind c).bind g:=λa b c g=>by
  grind
 rw[o9 (vE bs pcs.length fl) (by omega) (λk hk _=>by
  have hx:fl[k]? =some fl[k]:=aP hk;have hs:uj fl 0 ((k:Nat):Int)=some (fl.take k):=by
   grind [uj]
  rw[cC hx,aB];unfold vE;rw[hx,Option.bind_some];have e1:(bif fl[k].Open&&((fl[k].A != 0)||(fl[k].B != 0))then some true else(bif(!fl[k].Open)then some (!(decide<|fl[k].dK=(⟨false,0⟩:dK)))else some false))=some (AP fl[k]):=by
   grind [AP]
  rw[e1,aB]
  cases hfm:AP fl[k]with
  |true=>rfl
  |false=>
   rw[aQ,aI su,w1,w1,w1,w _ _ hb];have e2:(((some<|Es pcs.length fl[k].A).bind λx117=>bif x117 then((some<|Es pcs.length fl[k].B).bind λx119=>some x119)else some false).bind λs116=>(bif fl[k].Open then((some<|Es pcs.length fl[k].dK.Number).bind λx122=>some x122)else some s116).bind λs121=>(bif fl[k].Open&&fl[k].dK.bR then(((some<|Es bs.length fl[k].dK.Number).bind λx143=>bif x143 then((idx bs fl[k].dK.Number).bind λx145=>some x145.eN)else some false).bind λs142=>some s142)else some s121):Option Bool)=some (uI bs pcs.length fl[k]):=by
    unfold uI;simp only[aB]
    cases fl[k].Open with
    |false=>
     grind
    |true=>
     simp only[aM,Bool.true_and]
     cases hA:Es pcs.length fl[k].A <;> simp only[aM,aQ,aB]
     all_goals
      cases fl[k].dK.bR with
      |false=>rfl
      |true=>
       simp only[aM]
       cases hB:Es bs.length fl[k].dK.Number with
       |false=>rfl
       |true=>
        unfold Es at hB;rw[cO,cP,cP]at hB;have hlt:fl[k].dK.Number.toNat<bs.length:=by omega
        have hbx:bs[fl[k].dK.Number.toNat]? =some bs[fl[k].dK.Number.toNat]:=aP hlt;have hi:=cC hbx;rw[Int.toNat_of_nonneg hB.1]at hi;rw[aM,hi,aB,aB,Bool.true_and];unfold tF;rw[hbx];rfl
   refine(assoc _ _ _ _).trans<|(congrArg (λo=>Option.bind o _) e2).trans ?_
   rw[aB]
   cases uI bs pcs.length fl[k]with
   |false=>rfl
   |true=>
    rw[jF,aQ,aI (by decide)]
    cases(!fl[k].Open&&decide (fl[k].B<=fl[k].A))with
    |true=>rfl
    |false=>
     rw[aQ,aI su,hs,aB,Et (by grind),aB]
     by_cases hm:fl[k]∈fl.take k
     ·rw[bO hm,aM,aG hm];rfl
     ·rw[bQ hm,aQ,aI hm];rfl),aB]
 cases nK fl.length (vE bs pcs.length fl) <;> rfl
theorem xU{bs:List bR}{n:Nat}{fl:List dX}(h:mq bs n fl=0):fl.length<=20/\ON bs n bs.length fl:=by
 unfold mq at h;split at h
 ·cases h
 rename_i h20;have hn:∀k,k<fl.length->vE bs n fl k=none:=by
  cases hf:nK fl.length (vE bs n fl)with
  |none=>grind [jA]
  |some e=>
   grind [iG,vE,aP]
 have hx:∀x∈fl,uI bs n x=true/\(x.Open=false->x.A<x.B):=λx hx=>by
  grind [List.mem_iff_getElem,vE,aP,jG]
 have inp:∀{n:Nat}{k:Int},Es n k=true->∃j:Nat,k=((j:Nat):Int)/\j<n:=λ{n k}h=>by
  unfold Es at h;rw[cO,cP,cP]at h;exact⟨k.toNat,by omega,by omega⟩
 refine⟨by omega,λx hm ho=>?_,λx hm ho=>?_⟩
 ·obtain⟨h1,_⟩:=hx x hm;unfold uI at h1;rw[ho,aM]at h1
  cases hB:x.dK.bR with
  |true=>
   rw[hB,aM,cO]at h1;obtain⟨j,e,hj⟩:=inp h1.1;refine⟨j,e,λ_=>⟨hj,?_⟩,λh=>(by grind)⟩
   grind
  |false=>
   rw[hB,aQ]at h1;obtain⟨j,e,hj⟩:=inp h1;exact⟨j,e,λh=>(by grind),λ_=>hj⟩
 grind [uI]
end
structure L2 (c:List Int):Prop where
 neg:∀(i:Nat)(x:Int),c[i]? =some x->x<0->x = -1
 own:∀(i v:Nat),c[i]? =some ((v:Nat):Int)->c[v]? =some ((v:Nat):Int)
def wF(c:List Int)(i k:Nat):Bool:=decide (c.getD i (-1)>=0)&&c.getD i (-1)==c.getD k (-1)
section
variable {r:Nat->Nat}
theorem Er.first{bs:List bR}{pcs:List aF}{fl:List dX}{ls:List cS}{r2:Nat->Nat}{up:List Int}{fm:List (Int×Int)}{c:List Int}(h:Er bs pcs fl ls r2 ls.length up fm c):L2 c where
 neg:=λi x hx h0=>by
  have hi:=(bN.1 hx).1;rw[h.len]at hi;have hl:ls[i]? =some ls[i]:=aP hi
  cases hn:ll bs pcs fl ls[i]with
  |none=>have:=h.no i _ hi hl hn;rw[hx]at this;injection this
  |some u=>
   obtain⟨q1,q2⟩:=h.yes i _ u hi hl hn;obtain⟨v,_,_,q3,_⟩:=h.low _ q1;rw[hx,q3]at q2;injection q2 with q2;omega
 own:=λi v hx=>by
  have hi:=(bN.1 hx).1;rw[h.len]at hi;have hl:ls[i]? =some ls[i]:=aP hi
  cases hn:ll bs pcs fl ls[i]with
  |none=>have:=h.no i _ hi hl hn;rw[hx]at this;injection this with this;omega
  |some u=>
   obtain⟨q1,q2⟩:=h.yes i _ u hi hl hn;obtain⟨v',l',u',q3,q4,q5,q6,q7⟩:=h.low _ q1;have e:v=v':=by rw[hx,q3]at q2;injection q2 with q2;omega
   subst e;obtain⟨s1,s2⟩:=h.yes v l' u' q4 q5 q6;rw[q7,q3]at s2;exact s2
theorem Er.conn{bs:List bR}{pcs:List aF}{fl:List dX}{ls:List cS}{r2:Nat->Nat}{up:List Int}{fm:List (Int×Int)}{c:List Int}(h:Er bs pcs fl ls r2 ls.length up fm c){i k:Nat}{x y:cS}(hx:ls[i]? =some x)(hy:ls[k]? =some y):
  wF c i k=true↔∃u v,ll bs pcs fl x=some u/\ll bs pcs fl y=some v/\r2 u=r2 v:=by
 have hi:=(bN.1 hx).1;have hk:=(bN.1 hy).1;unfold wF;rw[cO,cP,beq_iff_eq,List.getD_eq_getElem?_getD,List.getD_eq_getElem?_getD]
 cases hn:ll bs pcs fl x with
 |none=>
  rw[h.no i x hi hx hn,Option.getD_some];exact⟨λh=>absurd h.1 (by decide),λ⟨u,v,e,_⟩=>(by cases e)⟩
 |some u=>
  obtain⟨q1,q2⟩:=h.yes i x u hi hx hn;obtain⟨a,_,_,q3,_⟩:=h.low _ q1;rw[q2,Option.getD_some,q3]
  cases hm:ll bs pcs fl y with
  |none=>
   rw[h.no k y hk hy hm,Option.getD_some];exact⟨λh=>absurd h.2 (by omega),λ⟨u,v,_,e,_⟩=>(by cases e)⟩
  |some v=>
   obtain⟨s1,s2⟩:=h.yes k y v hk hy hm;obtain⟨b,_,_,s3,_⟩:=h.low _ s1;rw[s2,Option.getD_some,s3];constructor
   ·rintro⟨_,e⟩;have:=h.inj _ _ q1 s1 (by rw[q3,s3];exact e);exact⟨u,v,rfl,rfl,by omega⟩
   ·rintro⟨u',v',e1,e2,e3⟩;injection e1 with e1;injection e2 with e2
    subst e1;subst e2;rw[e3,s3]at q3;exact⟨by omega,q3.symm⟩
end
section
variable {N:Nat}{a:gQ}{kp:List (List aA)}{dJ:List (List (List aA))}{r:Nat->Nat}{gs:List cF}{ofP ofB kC:List Int}{kq:List dK}
theorem HV(b:kN a kp dJ r gs ofP ofB kC kq){fl:List dX}(h0:mq a.aN (bY 0 dJ).length fl=0)(hN:4398046511104<=N):
  ∃r2 c up fm,eU N a.aN a.bJ (bY 0 dJ) (cK a.aN<|bY 0 dJ) kC kq fl=some c/\yT ((bY 0 dJ).length+a.aN.length) (M7 (bY 0 dJ).length (cK a.aN<|bY 0 dJ) fl) r2/\Er a.aN (bY 0 dJ) fl a.bJ r2 a.bJ.length up fm c:=by
 have hf:=b.xN.2;have hbl:=b.yG.gb.len;have hlf:=b.vu.xN;obtain⟨h20,hok⟩:=xU h0;exact HU (N:=N) (r:=r) hok (by omega) (by omega) (by omega) (by omega) (by omega) b.NU.kC b.NU.kq hN
end
section
variable {N:Nat}
end
section
variable {N:Nat}{a:gQ}{kp:List (List aA)}{dJ:List (List (List aA))}{r:Nat->Nat}{gs:List cF}{ofP ofB kC:List Int}{kq:List dK}
end
noncomputable def Eu(N:Nat)(a:gQ)(dJ:List (List<|List aA))(kC:List Int)(kq:List dK)(fl:List dX):List Int:=(eU N a.aN a.bJ (bY 0 dJ) (cK a.aN<|bY 0 dJ) kC kq fl).getD []
section
variable {N:Nat}{a:gQ}{kp:List (List aA)}{dJ:List (List (List aA))}{r:Nat->Nat}{gs:List cF}{ofP ofB kC:List Int}{kq:List dK}
theorem OP(b:kN a kp dJ r gs ofP ofB kC kq){fl:List dX}(h0:mq a.aN (bY 0 dJ).length fl=0)(hN:4398046511104<=N):
  eU N a.aN a.bJ (bY 0 dJ) (cK a.aN<|bY 0 dJ) kC kq fl=some (Eu N a dJ kC kq fl)/\(Eu N a dJ kC kq fl).length=a.bJ.length/\L2 (Eu N a dJ kC kq fl):=by
 obtain⟨r2,c,up,fm,c1,c2,c3⟩:=HV b h0 hN;have e:Eu N a dJ kC kq fl=c:=by unfold Eu;rw[c1];rfl
 rw[e];exact⟨c1,c3.len,c3.first⟩
end
section
variable {N:Nat}
end
def ou(t u:Test):Int:=if gJ t.A u.A≠0 then gJ t.A u.A else gJ t.B u.B
def o4(a:gQ)(l:List Test)(k:Nat):Option Int:=(l[k]?).bind λt=>
 if jL a t.A<0\/jL a t.B<0 then some 9 else if gJ t.B t.A<=0 then some 8 else if 0<k/\((l[k - 1]?).elim false λu=>decide<|ou t u<=0)=true then some 8 else none
def oQ(a:gQ)(l:List Test):Int:=if 2000<l.length then 2 else(nK l.length<|o4 a l).getD 0
structure Fc (a:gQ) (t:Test):Prop where
 la:0<=jL a t.A
 lb:0<=jL a t.B
 lt:xR t.A t.B
theorem vF{a:gQ}{p:dQ}(h:0<=jL a p):∃(k:Nat)(x:cS),jL a p=((k:Nat):Int)/\a.bJ[k]? =some x/\kM x=p/\k<a.bJ.length:=by
 rcases HN a p with⟨e,_⟩|⟨k,x,e,hx,hp⟩
 ·rw[e]at h;omega
 ·exact⟨k,x,e,hx,hp,(bN.1 hx).1⟩
theorem F9{a:gQ}{l:List Test}(h:oQ a l=0):l.length<=2000/\(∀t∈l,Fc a t)/\∀(k:Nat)t u,0<k->l[k]? =some t->l[k - 1]? =some u->0<ou t u:=by
 unfold oQ at h;split at h
 ·omega
 rename_i hl;have hn:∀k,k<l.length->o4 a l k=none:=by
  cases hf:nK l.length (o4 a l)with
  |none=>exact jA.1 hf
  |some e=>
   rw[hf]at h;obtain⟨k,hk,he,_⟩:=iG.1 hf;have h:e=0:=h;subst h;unfold o4 at he;rw[aP hk,Option.bind_some]at he
   repeat' split at he
   all_goals (first|(injection he with he;omega)|cases he)
 refine⟨by omega,λt ht=>?_,λk t u hk ht hu=>?_⟩
 ·obtain⟨k,hk,rfl⟩:=List.mem_iff_getElem.1 ht;have:=hn k hk;unfold o4 at this;rw[aP hk,Option.bind_some]at this;split at this
  ·cases this
  rename_i h1;split at this
  ·cases this
  rename_i h2;exact⟨by omega,by omega,pP.1 (by omega)⟩
 ·have hlt:=(bN.1 ht).1;have:=hn k hlt;unfold o4 at this;rw[ht,Option.bind_some]at this;split at this
  ·cases this
  split at this
  ·cases this
  split at this
  ·cases this
  rename_i h3;rw[hu]at h3;simp only[Option.elim_some,cP]at h3;omega
def qg(a:gQ)(c:List Int)(l:List Test):List Bool:=l.map<|λt=>wF c (jL a t.A).toNat (jL a t.B).toNat
section
variable {N:Nat}
theorem OQ(u v:Int):s9 N [u,v]=some (if u≠0 then u else v):=by
 unfold s9
 rw[Ai (l:=[u,v]) (λx=>if x≠0 then some x else none) (by simp) (λk x hx=>by
  rw[cC hx,aB]
  by_cases h:x=0
  ·subst h;rfl
  ·rw[show(x != 0)=true by simpa using h,aM,aG h];rfl),aB]
 by_cases h:u=0
 ·subst h
  by_cases h':v=0
  ·subst h';rfl
  ·simp[h',FF,Fo.cs]
 ·simp[h,FF,Fo.cs]
theorem Cp(t u:Test):iT N t u=some (ou t u):=by
 unfold iT ou;rw[mX,aB,mX,aB,OQ,aB]
theorem L3{a:gQ}{e:Int}(he:e≠0)(h:iA N a=some (none,e))(l:List Test):kz N a l=some (none,e):=by
 unfold kz;rw[h,aB];simp only[I9,show(e != 0)=true by simpa using he,aM]
theorem Fe{a:gQ}{l:List Test}{fl:List dX}{e:Int}(he:e≠0)(h:kz N a l=some (none,e)):gw N a l fl=some ([],e):=by
 unfold gw;rw[h,aB];simp only[I9,show(e != 0)=true by simpa using he,aM]
end
section
variable {N:Nat}{a:gQ}{kp:List (List aA)}{dJ:List (List (List aA))}{r:Nat->Nat}{gs:List cF}{ofP ofB kC:List Int}{kq:List dK}
theorem M8(b:kN a kp dJ r gs ofP ofB kC kq)(h1:iA N a=some (some (a.aK,a.cJ,a.aN,a.bJ,kp,bY 0 dJ,cK a.aN<|bY 0 dJ,gs,ofP,ofB,kC,kq),0)){l:List Test}(hl:l.length<=1048576)(hN:4398046511104<=N):
  (oQ a l≠0/\kz N a l=some (none,oQ a l))\/(oQ a l=0/\kz N a l=some (some (a.aK,a.cJ,a.aN,a.bJ,kp,bY 0 dJ,cK a.aN<|bY 0 dJ,gs,ofP,ofB,kC,kq),0)):=by
 unfold kz;rw[h1,aB];simp only[I9,bne_self_eq_false,aQ]
 by_cases h2:2000<l.length
 ·have e:oQ a l=2:=by unfold oQ;rw[aG h2]
  rw[bO (show((l.length:Nat):Int)>2000 by omega),aM,e];exact .inl ⟨by decide,rfl⟩
 rw[bQ (show ¬((l.length:Nat):Int)>2000 by omega),aQ]
 rw[o9 (λk=>(o4 a l k).map (λc=>(none,c))) (by omega) (λk hk _=>by
  have hx:l[k]? =some l[k]:=aP hk;have e1:((fD N a l[k].A).bind λx149=>bif decide (x149<0)then some true else((fD N a l[k].B).bind λx153=>some<|decide<|x153<0))=some (decide (jL a l[k].A<0)||decide (jL a l[k].B<0)):=by
   rw[vD b.vu _ hN,vD b.vu _ hN,aB,aB]
   cases decide (jL a l[k].A<0) <;> rfl
  have e2:(bif decide ((k:Int)>0)then((idx l<|wrap .i64<|(k:Int) - 1).bind λx208=>(iT N l[k] x208).bind λx211=>some<|decide<|x211<=0)else some false)=some (decide<|0<k/\((l[k - 1]?).elim false λu=>decide<|ou l[k] u<=0)=true):=by
   by_cases h0:0<k
   ·have hp:k - 1<l.length:=by omega
    have hy:l[k - 1]? =some l[k - 1]:=aP hp;rw[bO (show((k:Nat):Int)>0 by omega),aM,ja h0 (by omega),cC hy,aB,Cp,aB,hy];simp only[Option.elim_some,h0,true_and,cP]
   ·rw[bQ (show ¬((k:Nat):Int)>0 by omega),aQ,bQ<|λh=>h0 h.1]
  rw[cC hx,aB,e1,aB];unfold o4;rw[hx,Option.bind_some]
  by_cases hA:jL a l[k].A<0\/jL a l[k].B<0
  ·rw[aG hA,show(decide (jL a l[k].A<0)||decide (jL a l[k].B<0))=true by rw[gR,cP,cP];exact hA];rfl
  rw[aI hA,show(decide (jL a l[k].A<0)||decide (jL a l[k].B<0))=false by rw[Bool.or_eq_false_iff,decide_eq_false_iff_not,decide_eq_false_iff_not];omega,aQ,mX,aB]
  by_cases hB:gJ l[k].B l[k].A<=0
  ·rw[aG hB,bO hB];rfl
  rw[aI hB,bQ hB,aQ,e2,aB]
  by_cases hC:0<k/\((l[k - 1]?).elim false λu=>decide<|ou l[k] u<=0)=true
  ·rw[aG hC,bO hC];rfl
  ·rw[aI hC,bQ hC];rfl),aB,<-Ln]
 have hz:oQ a l=(nK l.length<|o4 a l).getD 0:=by unfold oQ;rw[aI h2]
 cases hf:nK l.length (o4 a l)with
 |none=>
  rw[hf]at hz;exact .inr ⟨hz,rfl⟩
 |some e=>
  rw[hf]at hz;have hz:oQ a l=e:=hz;refine .inl ⟨?_,by rw[hz];rfl⟩;obtain⟨k,hk,he,_⟩:=iG.1 hf;rw[hz];unfold o4 at he;rw[aP hk,Option.bind_some]at he
  repeat' split at he
  all_goals (first|(injection he with he;omega)|cases he)
theorem L4(b:kN a kp dJ r gs ofP ofB kC kq){fl:List dX}{c:List Int}(hc:eU N a.aN a.bJ (bY 0 dJ) (cK a.aN<|bY 0 dJ) kC kq fl=some c)(hcl:c.length=a.bJ.length){l:List Test}(hl:l.length<=1048576)(ht:∀t∈l,Fc a t)(hN:4398046511104<=N):
  ru N a.aK a.cJ a.aN a.bJ (bY 0 dJ) (cK a.aN<|bY 0 dJ) kC kq l fl=some (qg a c l):=by
 have hA:∀p,fD N (⟨a.aK,a.cJ,a.aN,a.bJ⟩:gQ) p=some (jL a p):=λp=>vD b.vu p hN;unfold ru;rw[hc,aB]
 rw[MG (s:=([]:List Bool)) (λk=>qg a c (l.take k)) (by omega) rfl (λk hk=>by
  have hx:l[k]? =some l[k]:=aP hk;obtain⟨t1,t2,_⟩:=ht _<|cL hk
  obtain⟨i,_,e1,_,_,hi⟩:=vF t1;obtain⟨j,_,e2,_,_,hj⟩:=vF t2;have ei:c[i]? =some (c[i]'(by omega)):=aP _;have ej:c[j]? =some (c[j]'(by omega)):=aP _;have hlen:(qg a c<|l.take k).length=k:=by unfold qg;rw[dU,dI];omega
  have hap:∀x:Bool,app 1 (qg a c<|l.take k) [x]=some (qg a c (l.take k)++[x]):=λx=>lf (by rw[hlen];simp;omega);have hs:qg a c (l.take<|k+1)=qg a c (l.take k)++[wF c i j]:=by
   unfold qg;rw[eA hk,fO,eY,List.map_nil,e1,e2,cI,cI]
  rw[cC hx,aB,hA,aB,hA,aB,e1,e2,cC ei,cC ej,aB,hs];unfold wF;rw[List.getD_eq_getElem?_getD,List.getD_eq_getElem?_getD,ei,ej,Option.getD_some,Option.getD_some]
  cases decide (c[i]'(by omega)>=0)with
  |true=>rw[aM,aB,aB,hap,aB,aB,Bool.true_and]
  |false=>rw[aQ,hap,aB,aB,Bool.false_and]),aB,fG]
theorem KH(b:kN a kp dJ r gs ofP ofB kC kq){l:List Test}(h1:kz N a l=some (some (a.aK,a.cJ,a.aN,a.bJ,kp,bY 0 dJ,cK a.aN<|bY 0 dJ,gs,ofP,ofB,kC,kq),0)){fl:List dX}(hl:fl.length<=1048576)(h0:mq a.aN (bY 0 dJ).length fl≠0):
  gw N a l fl=some ([],mq a.aN (bY 0 dJ).length fl):=by
 have hf:=b.xN.2;have hbl:=b.yG.gb.len;have hb:(mq a.aN (bY 0 dJ).length fl != 0)=true:=by simpa using h0
 unfold gw;rw[h1,aB];simp only[I9,bne_self_eq_false,aQ];rw[yU (by omega) (by omega) hl,aB,hb,aM]
theorem L5(b:kN a kp dJ r gs ofP ofB kC kq){l:List Test}(h1:kz N a l=some (some (a.aK,a.cJ,a.aN,a.bJ,kp,bY 0 dJ,cK a.aN<|bY 0 dJ,gs,ofP,ofB,kC,kq),0)){fl:List dX}(h0:mq a.aN (bY 0 dJ).length fl=0)
  {c:List Int} (hc:eU N a.aN a.bJ (bY 0 dJ) (cK a.aN<|bY 0 dJ) kC kq fl=some c) (hcl:c.length=a.bJ.length) (hl:l.length<=1048576) (ht:∀t∈l,Fc a t) (hN:4398046511104<=N):
  gw N a l fl=some (qg a c l,0):=by
 have hf:=b.xN.2;have hbl:=b.yG.gb.len;obtain⟨h20,_⟩:=xU h0;unfold gw;rw[h1,aB];simp only[I9,bne_self_eq_false,aQ];rw[yU (by omega) (by omega) (by omega),h0,aB,bne_self_eq_false,aQ,L4 b hc hcl hl ht hN,aB]
end
inductive St (N:Nat) (a:gQ) (l:List Test) (fl:List dX):Prop
 |err (e:Int) (he:e≠0) (h:gw N a l fl=some ([],e))
 |ok {kp:List (List aA)} {dJ:List (List (List aA))} {r:Nat->Nat} {gs:List cF} {ofP ofB kC:List Int} {kq:List dK} (b:kN a kp dJ r gs ofP ofB kC kq)
  (h1:iA N a=some (some (a.aK,a.cJ,a.aN,a.bJ,kp,bY 0 dJ,cK a.aN<|bY 0 dJ,gs,ofP,ofB,kC,kq),0))
  (ht:oQ a l=0) (hf:mq a.aN (bY 0 dJ).length fl=0) {c:List Int} (hc:eU N a.aN a.bJ (bY 0 dJ) (cK a.aN<|bY 0 dJ) kC kq fl=some c) (hcl:c.length=a.bJ.length) (h:gw N a l fl=some (qg a c l,0))
section
variable {N:Nat}
end
section
variable {N:Nat}
theorem IZ{l m:List Bool}(hl:l.length<=1000000000):lQ N l m=some (decide<|l=m):=by
 unfold lQ
 by_cases hn:l.length=m.length
 rotate_left
 ·rw[show(((l.length:Nat):Int) != ((m.length:Nat):Int))=true by rw[bne_iff_ne];omega,aM,bQ<|λe=>hn (by rw[e])]
 rw[show(((l.length:Nat):Int) != ((m.length:Nat):Int))=false by rw[hn,bne_self_eq_false],aQ]
 rw[o9 (λk=>if l[k]? =m[k]? then none else some false) (by omega) (λk hk _=>by
  have h1:l[k]? =some l[k]:=aP hk;have h2:m[k]? =some (m[k]'(by omega)):=aP _;rw[cC h1,aB,cC h2,aB,h1,h2]
  by_cases h:l[k]=m[k]'(by omega)
  ·rw[aG (by rw[h]),h,bne_self_eq_false];rfl
  ·rw[aI (λe=>h (by injection e)),show(l[k] != m[k]'(by omega))=true by rw[bne_iff_ne];exact h];rfl),aB]
 cases hf:nK l.length (λk=>if l[k]? =m[k]? then none else some false)with
 |none=>
  have e:l=m:=List.ext_getElem? λk=>by
   by_cases hk:k<l.length
   ·have:=jA.1 hf k hk;split at this
    ·assumption
    ·cases this
   ·rw[List.getElem?_eq_none (by omega),List.getElem?_eq_none (by omega)]
  rw[bO e];rfl
 |some e=>
  obtain⟨k,hk,he,_⟩:=iG.1 hf;split at he
  ·cases he
  rename_i hne;injection he with he
  subst he;rw[bQ<|λe=>hne (by rw[e])];rfl
end
noncomputable def Ff(N:Nat)(a:gQ)(dJ:List (List<|List aA))(kC:List Int)(kq:List dK)(l:List Test)(fl:List dX):List Bool:=qg a (Eu N a dJ kC kq fl) l
theorem Fg(a:gQ)(c:List Int)(l:List Test):(qg a c l).length=l.length:=by unfold qg;rw[dU]
theorem KI{N:Nat}{a:gQ}{dJ:List (List<|List aA)}{kC:List Int}{kq:List dK}{l:List Test}{fl:List dX}:(Ff N a dJ kC kq l fl).length=l.length:=Fg _ _ _
section
variable {N:Nat}{a:gQ}{kp:List (List aA)}{dJ:List (List (List aA))}{r:Nat->Nat}{gs:List cF}{ofP ofB kC:List Int}{kq:List dK}
theorem KJ(b:kN a kp dJ r gs ofP ofB kC kq){l:List Test}(h1:kz N a l=some (some (a.aK,a.cJ,a.aN,a.bJ,kp,bY 0 dJ,cK a.aN<|bY 0 dJ,gs,ofP,ofB,kC,kq),0)){fl:List dX}(h0:mq a.aN (bY 0 dJ).length fl=0)
  (hl:l.length<=1048576) (ht:∀t∈l,Fc a t) (hN:4398046511104<=N):gw N a l fl=some (Ff N a dJ kC kq l fl,0):=by
 obtain⟨c1,c2,_⟩:=OP b h0 hN;exact L5 b h1 h0 c1 c2 hl ht hN
end
section
variable {N:Nat}
end
section
variable (T:Nat->Nat->Bool)(n:Nat)
def xV(i k:Nat)(K:List Nat):Nat:=(List.range k).countP (T i)+K.countP (T i)
def M9(K:List Nat)(k:Nat):Bool:=(List.range n).any<|λi=>T i k&&decide (xV T i (k+1) K=1)
def NW:Nat->List Nat->List Nat
 | 0,K=>K
 |k+1,K=>NW k (if M9 T n K k=true then k::K else K)
variable {T n}
theorem zB(i k:Nat)(K:List Nat):xV T i (k+1) K=xV T i k K+if T i k=true then 1 else 0:=by
 unfold xV;rw[List.range_succ,List.countP_append,List.countP_singleton];omega
theorem zC(i k:Nat)(K:List Nat):xV T i k (k::K)=xV T i (k+1) K:=by
 rw[zB];unfold xV;rw[List.countP_cons];omega
structure L6 (T:Nat->Nat->Bool) (n m k:Nat) (K:List Nat):Prop where
 up:K.Pairwise (· < ·)
 lo:∀j∈K,k<=j/\j<m
 all:∀i,i<n->(∃j,j<m/\T i j=true)->0<xV T i k K
 own:∀j∈K,∃i,i<n/\T i j=true/\xV T i k K=1
theorem L6.step{m k:Nat}{K:List Nat}(h:L6 T n m (k+1) K)(hk:k<m):L6 T n m k (if M9 T n K k=true then k::K else K):=by
 by_cases hn:M9 T n K k=true
 ·rw[aG hn];refine⟨pz.2 ⟨λj hj=>by have:=h.lo j hj;omega,h.up⟩,λj hj=>?_,λi hi hj=>?_,λj hj=>?_⟩
  ·rcases eF.1 hj with rfl|hj
   ·exact⟨cH _,hk⟩
   ·have:=h.lo j hj;omega
  ·rw[zC];exact h.all i hi hj
  ·rcases eF.1 hj with rfl|hj
   ·unfold M9 at hn;obtain⟨i,hi,h1⟩:=kI.1 hn;rw[cO,cP]at h1;exact⟨i,re.1 hi,h1.1,by rw[zC];exact h1.2⟩
   ·obtain⟨i,h1,h2,h3⟩:=h.own j hj;exact⟨i,h1,h2,by rw[zC];exact h3⟩
 ·rw[aI hn];have hno:∀i,i<n->T i k=true->xV T i (k+1) K≠1:=λi hi ht e=>hn<|kI.2 ⟨i,re.2 hi,by rw[ht,e];rfl⟩
  refine⟨h.up,λj hj=>by have:=h.lo j hj;omega,λi hi hj=>?_,λj hj=>?_⟩
  ·have h1:=h.all i hi hj;have e:=zB (T:=T) i k K
   by_cases ht:T i k=true
   ·have:=hno i hi ht;rw[aG ht]at e;omega
   ·rw[aI ht]at e;omega
  ·obtain⟨i,h1,h2,h3⟩:=h.own j hj;refine⟨i,h1,h2,?_⟩;have e:=zB (T:=T) i k K;have hp:0<K.countP (T i):=List.countP_pos_iff.2 ⟨j,hj,h2⟩;have:xV T i k K=(List.range k).countP (T i)+K.countP (T i):=rfl;split at e <;> omega
def SA(T:Nat->Nat->Bool)(n m:Nat):List Nat:=NW T n m []
end
def JS(n:Nat)(f:Nat->Int):List Int:=(List.range n).map f
theorem uh(n:Nat)(f:Nat->Int):(JS n f).length=n:=by unfold JS;simp
theorem DX{n:Nat}{f:Nat->Int}{i:Nat}(h:i<n):(JS n f)[i]? =some (f i):=by unfold JS;rw[jD,List.getElem?_range h];rfl
theorem ym{n:Nat}{f g:Nat->Int}(h:∀i,i<n->f i=g i):JS n f=JS n g:=List.map_congr_left λi hi=>h i<|re.1 hi
theorem JT{n:Nat}{f g:Nat->Int}{i:Nat}{v:Int}(hv:i<n->v=g i)(hg:∀j,j<n->j≠i->f j=g j):(JS n f).set i v=JS n g:=by
 refine List.ext_getElem? λj=>?_
 by_cases hj:j<n
 ·rw[DX hj]
  by_cases e:i=j
  ·subst e;rw[List.getElem?_set_self (by rw[uh];exact hj),hv hj]
  ·rw[List.getElem?_set_ne e,DX hj,hg j hj<|Ne.symm e]
 ·rw[List.getElem?_eq_none (by rw[iO,uh];omega),List.getElem?_eq_none (by rw[uh];omega)]
theorem L7(n:Nat):List.replicate n (0:Int)=JS n (λ_=>0):=by
 refine List.ext_getElem? λj=>?_
 by_cases hj:j<n
 ·rw[DX hj,List.getElem?_replicate,aG hj]
 ·rw[List.getElem?_eq_none (by simp;omega),List.getElem?_eq_none (by rw[uh];omega)]
section
variable {N:Nat}
end
section
variable {N:Nat}{a:gQ}{kp:List (List aA)}{dJ:List (List (List aA))}{r:Nat->Nat}{gs:List cF}{ofP ofB kC:List Int}{kq:List dK}
end
section
variable {N:Nat}
end
def Mh(u t:Test):Prop:=xR u.A t.A\/(u.A=t.A/\xR u.B t.B)
theorem HW{t u:Test}:0<ou t u↔Mh u t:=by
 unfold ou Mh
 by_cases h:gJ t.A u.A=0
 ·have e:=mN.1 h;rw[aI (by simpa using h),pP];constructor
  ·exact λh=> .inr ⟨e.symm,h⟩
  ·rintro(h1|⟨_,h1⟩)
   ·rw[e]at h1;exact absurd h1<|xR.irrefl _
   ·exact h1
 ·rw[aG h,pP];constructor
  ·exact .inl
  ·rintro(h1|⟨e,_⟩)
   ·exact h1
   ·exact absurd (mN.2 e.symm) h
theorem Mh.trans{s t u:Test}(h1:Mh s t)(h2:Mh t u):Mh s u:=by
 rcases h1 with h1|⟨e1,h1⟩
 ·rcases h2 with h2|⟨e2,_⟩
  ·exact .inl<|h1.trans h2
  ·exact .inl<|e2▸h1
 ·rcases h2 with h2|⟨e2,h2⟩
  ·exact .inl<|e1▸h2
  ·exact .inr ⟨e1.trans e2,h1.trans h2⟩
section
variable {T:Nat->Nat->Bool}{n:Nat}{l:List Test}
end
section
variable {N:Nat}
end
section
variable {N:Nat}{a:gQ}{kp:List (List aA)}{dJ:List (List (List aA))}{r:Nat->Nat}{gs:List cF}{ofP ofB kC:List Int}{kq:List dK}
theorem L8(b:kN a kp dJ r gs ofP ofB kC kq){fl:List dX}(h0:mq a.aN (bY 0 dJ).length fl=0)(hN:4398046511104<=N):
  ∃r2,yT ((bY 0 dJ).length+a.aN.length) (M7 (bY 0 dJ).length (cK a.aN<|bY 0 dJ) fl) r2/\∀{i k:Nat}{x y:cS},a.bJ[i]? =some x->a.bJ[k]? =some y->
   (wF (Eu N a dJ kC kq fl) i k=true↔∃u v,ll a.aN (bY 0 dJ) fl x=some u/\ll a.aN (bY 0 dJ) fl y=some v/\r2 u=r2 v):=by
 obtain⟨r2,c,up,fm,c1,c2,c3⟩:=HV b h0 hN;have e:Eu N a dJ kC kq fl=c:=by unfold Eu;rw[c1];rfl
 rw[e];exact⟨r2,c2,λhx hy=>c3.conn hx hy⟩
end
def Cq(r:Nat->Nat)(p q:Nat):Nat->Nat:=λx=>if r x=q then p else r x
theorem ny.rel{r:Nat->Nat}{E:List (Nat×Nat)}(h:ny r E)(i k:Nat):ny (Cq r (r i)<|r k) (E++[(i,k)]):=λp hp=>by
 rcases dD.1 hp with hp|hp
 ·unfold Cq;rw[h p hp]
 ·simp at hp;subst hp;unfold Cq;dsimp only;rw[aG rfl];split <;> rfl
theorem wU.rel{n:Nat}{r:Nat->Nat}{E:List (Nat×Nat)}(h:wU n r E){i k:Nat}(hi:i<n)(hk:k<n):wU n (Cq r (r i)<|r k) (E++[(i,k)]):=λS hS x y hx hy hr hSx=>by
 have hE:∀p∈E,S p.1↔S p.2:=λp hp=>hS p<|List.mem_append_left _ hp
 have hik:S i↔S k:=hS (i,k) (by simp);have key:=h S hE;unfold Cq at hr
 by_cases h1:r x=r y
 ·exact key x y hx hy h1 hSx
 ·by_cases h2:r x=r k
  ·rw[aG h2]at hr
   by_cases h3:r y=r k
   ·exact absurd (h2.trans h3.symm) h1
   ·rw[aI h3]at hr;exact key i y hi hy hr<|hik.2<|key x k hx hk h2 hSx
  ·rw[aI h2]at hr
   by_cases h3:r y=r k
   ·rw[aG h3]at hr;exact key k y hk hy h3.symm<|hik.1<|key x i hx hi hr hSx
   ·rw[aI h3]at hr;exact absurd hr h1
def Ga(t:Nat)(u:List Int)(r:Nat->Nat):Prop:=u=(List.range t).map (λi=>((r i:Nat):Int))
theorem Ga.len{t:Nat}{u:List Int}{r:Nat->Nat}(h:Ga t u r):u.length=t:=by rw[h];simp
theorem Ga.at{t:Nat}{u:List Int}{r:Nat->Nat}(h:Ga t u r){i:Nat}(hi:i<t):u[i]? =some ((r i:Nat):Int):=by rw[h,jD,List.getElem?_range hi];rfl
structure AQ (t:Nat) (L:Nat->Nat->Prop) (r:Nat->Nat):Prop where
 co:∀i j,L i j->r i=r j
 fi:∀S:Nat->Prop,(∀i j,L i j->(S i↔S j))->∀i j,i<t->j<t->r i=r j->S i->S j
theorem AQ.uniq{t:Nat}{L:Nat->Nat->Prop}{r1 r2:Nat->Nat}(h1:AQ t L r1)(h2:AQ t L r2){i j:Nat}(hi:i<t)(hj:j<t):r1 i=r1 j↔r2 i=r2 j:=by
 have key:∀{r1 r2:Nat->Nat},AQ t L r1->AQ t L r2->r1 i=r1 j->r2 i=r2 j:=λ{r1 r2}h1 h2 e=>
  (h1.fi (λx=>r2 i=r2 x) (λa b hab=>by rw[h2.co a b hab]) i j hi hj e) rfl
 exact⟨key h1 h2,key h2 h1⟩
def yn(l:List Test)(k:Nat)(t:Test):Prop:=gJ t.B t.A<=0\/(0<k/\((l[k - 1]?).elim false λu=>decide<|ou t u<=0)=true)
theorem KK{a:gQ}{l:List Test}{k:Nat}{t:Test}(hx:l[k]? =some t):o4 a l k=if jL a t.A<0\/jL a t.B<0 then some 9 else if yn l k t then some 8 else none:=by
 unfold o4 yn;rw[hx,Option.bind_some]
 by_cases h1:jL a t.A<0\/jL a t.B<0
 ·rw[aG h1,aG h1]
 rw[aI h1,aI h1]
 by_cases h2:gJ t.B t.A<=0
 ·rw[aG h2,aG<|.inl h2]
 rw[aI h2]
 by_cases h3:0<k/\((l[k - 1]?).elim false λu=>decide<|ou t u<=0)=true
 ·rw[aG h3,aG<|.inr h3]
 ·rw[aI h3,aI<|λh=>h.elim h2 h3]
def QP(bs:List bR)(n:Nat)(x:dX):Int:=if AP x=true then 3 else if uI bs n x=false then 9 else if(!x.Open&&decide (x.B<=x.A))=true then 8 else 0
theorem L9{bs:List bR}{n:Nat}{fl:List dX}{k:Nat}{x:dX}(hx:fl[k]? =some x):vE bs n fl k=if QP bs n x≠0 then some (QP bs n x)else if x∈fl.take k then some 7 else none:=by
 unfold vE QP;rw[hx,Option.bind_some]
 by_cases h1:AP x=true
 ·rw[aG h1,aG h1,aG (by decide)]
 rw[aI h1,aI h1]
 by_cases h2:uI bs n x=false
 ·rw[aG h2,aG h2,aG (by decide)]
 rw[aI h2,aI h2]
 by_cases h3:(!x.Open&&decide (x.B<=x.A))=true
 ·rw[aG h3,aG h3,aG (by decide)]
 rw[aI h3,aI h3,aI (show ¬((0:Int)≠0)by decide)]
section
variable {N:Nat}
theorem DY(p q:dQ):iw N p q=some (decide<|xR p q):=by
 unfold iw;congr 1;rw[gS,cP,gR,cO,Ah];rfl
theorem DZ(t u:Test):i7 N t u=some (decide<|Mh t u):=by
 unfold i7;simp only[DY,aB]
 by_cases h1:xR t.A u.A
 ·have h:Mh t u:= .inl h1;rw[bO h1,aM,aB,bO h]
 rw[bQ h1,aQ]
 by_cases h2:t.A=u.A
 ·rw[bO h2,aM,aB];congr 1;rw[decide_eq_decide];exact⟨λh=> .inr ⟨h2,h⟩,λh=>h.elim (λh=>absurd h h1)<|λh=>h.2⟩
 ·have h:¬Mh t u:=λh=>h.elim h1<|λh=>h2 h.1
  rw[bQ h2,aQ,aB,bQ h]
theorem D0{a:gQ}(hl:a.bJ.length<=1000000)(p:dQ)(hN:4398046511104<=N):eV N a p=some (jL a p):=by
 refine TT ?_;unfold eV;refine S3 (TJ (n:=a.bJ.length) (λs=>s) (λk _=>∀(j:Nat)x,j<k->a.bJ[j]? =some x->decide (kM x=p)=false) (Go:=λ_=>jL a p = -1) (Rt:=λr=>r=jL a p) ?_ ?_ (cT _) rfl (λj x hj=>by omega) (by omega)) ?_
 ·rintro k s hk e hI;subst e;rw[jK hk,aM];have hx:a.bJ[k]? =some a.bJ[k]:=aP hk;refine IT (x:=decide<|kM a.bJ[k]=p) ?_<|Tx (λh=>TW ?_)<|λh=>Tk ⟨bI (by omega),λj x hj hjx=>?_⟩
  ·rw[cC hx,aB,aB,Jq,Jq]
   by_cases h1:a.bJ[k].Part=p.Part
   ·rw[bO h1,aM];congr 1;rw[gS,cP,cP,JR];exact⟨λh=>⟨h1,h⟩,λh=>h.2⟩
   ·rw[bQ h1,aQ,bQ<|λh=>h1 ((JR _ _).1 h).1]
  ·exact(He hx h hI).symm
  ·by_cases e:j=k
   ·subst e;rw[hx]at hjx;injection hjx with hjx;rw[<-hjx];exact h
   ·exact hI j x (by omega) hjx
 ·rintro s e hI;subst e;rw[nz,aQ];refine Tu ?_;unfold jL;rw[Hd];rw[List.any_eq_false];intro x hx;obtain⟨j,hj⟩:=dW hx;rw[hI j x (bN.1 hj).1 hj];exact su
 intro o ho;exact Tv ho (λs hs=>SR hs.symm)<|λr hr=>SR hr
theorem AR{a:gQ}{e:Int}(he:e≠0)(h:dA N a=some e)(l:List Test):dC N a l=some e:=by
 unfold dC;rw[h,aB,show(e != 0)=true by simpa using he,aM]
theorem BJ{a:gQ}(ha:a.bJ.length<=1000000)(h:dA N a=some 0){l:List Test}(hl:l.length<=1048576)(hN:4398046511104<=N):dC N a l=some (oQ a l):=by
 refine TT ?_;unfold dC;refine IT h ?_;rw[bne_self_eq_false,aQ];unfold oQ
 by_cases h2:2000<l.length
 ·rw[bO (show((l.length:Nat):Int)>2000 by omega),aM,aG h2];exact SR rfl
 rw[bQ (show ¬((l.length:Nat):Int)>2000 by omega),aQ,aI h2];have hA:∀p,eV N a p=some (jL a p):=λp=>D0 ha p hN;refine S3 (TJ (n:=l.length) (λs=>s) (λk _=>∀j,j<k->o4 a l j=none) (Go:=λ_=>nK l.length (o4 a l)=none) (Rt:=λr=>nK l.length (o4 a l)=some r) ?_ ?_ (cT _) rfl (λj hj=>by omega) (by omega)) ?_
 ·rintro k s hk e hI;subst e;rw[jK hk,aM];have hx:l[k]? =some l[k]:=aP hk;have hte:=KK (a:=a) hx;generalize l[k]=t at hx hte;refine IT (x:=decide<|jL a t.A<0\/jL a t.B<0) ?_<|Tx (λh1=>TW ?_)<|λh1=>?_
  ·simp only[cC hx,aB,hA]
   by_cases q:jL a t.A<0
   ·rw[bO q,aM,bO<|.inl q]
   ·rw[bQ q,aQ];congr 1;rw[decide_eq_decide];exact⟨.inr,λh=>h.resolve_left q⟩
  ·rw[aG<|of_decide_eq_true h1]at hte;exact iG.2 ⟨k,hk,hte,hI⟩
  rw[aI<|of_decide_eq_false h1]at hte;refine IT (x:=decide<|yn l k t) ?_<|Tx (λh2=>TW ?_)<|λh2=>Tk ⟨bI (by omega),λj hj=>?_⟩
  ·simp only[cC hx,aB,DY,DZ];have hle:gJ t.B t.A<=0↔¬xR t.A t.B:=by rw[<-pP];omega
   by_cases q:xR t.A t.B
   ·rw[bO q,jF,aQ]
    by_cases h0:0<k
    ·have hp:k - 1<l.length:=by omega
     have hy:l[k - 1]? =some l[k - 1]:=aP hp;have hgt:ou t l[k - 1]<=0↔¬Mh l[k - 1] t:=by rw[<-HW];omega
     rw[bO (show((k:Nat):Int)>0 by omega),aM,ja h0 (by omega),cC hy,aB];congr 1;rw[gS,Bool.not_eq_true',decide_eq_false_iff_not,cP];unfold yn;rw[hy,Option.elim_some,cP,hgt,hle];exact⟨λh=> .inr ⟨h0,h⟩,λh=>h.elim (λh=>absurd q h)<|λh=>h.2⟩
    ·have hn:¬yn l k t:=λh=>h.elim (λh=>hle.1 h q)<|λh=>h0 h.1
     rw[bQ (show ¬((k:Nat):Int)>0 by omega),aQ,bQ hn]
   ·have hn:yn l k t:= .inl<|hle.2 q
    rw[bQ q,jG,aM,bO hn]
  ·rw[aG<|of_decide_eq_true h2]at hte;exact iG.2 ⟨k,hk,hte,hI⟩
  ·by_cases e:j=k
   ·subst e;rw[hte,aI<|of_decide_eq_false h2]
   ·exact hI j (by omega)
 ·rintro s e hI;subst e;rw[nz,aQ];exact Tu<|jA.2 hI
 intro o ho;exact Tv ho (λ_ h=>SR (by rw[h];rfl))<|λr hr=>SR (by rw[hr];rfl)
theorem AU(n:Nat)(k:Int)(hn:n<=1073741824):gE N k 0 (wrap .i64<|((n:Nat):Int) - 1)=some (Es n k):=by
 rw[fP (by omega) (by omega)];rfl
theorem Cr{bs:List bR}{rs:List (List aH)}(hr:rs.length<=1073741824)(hb:bs.length<=1073741824)(x:dX):iK N bs rs x=some (QP bs rs.length x):=by
 unfold iK QP;have e1:(bif x.Open&&((x.A != 0)||(x.B != 0))then some true else(bif(!x.Open)then some (!(decide<|x.dK=(⟨false,0⟩:dK)))else some false))=some (AP x):=by
  unfold AP
  cases x.Open with
  |true=>cases(x.A != 0||x.B != 0) <;> rfl
  |false=>rfl
 rw[e1,aB]
 cases hf:AP x with
 |true=>rfl
 |false=>
  rw[aQ,aI su];simp only[AU _ _ hr,AU _ _ hb,aB];unfold uI
  cases ho:x.Open with
  |false=>
   simp only[jG,aM,aQ,Bool.true_and]
   cases hA:Es rs.length x.A with
   |false=>rfl
   |true=>
    cases hB:Es rs.length x.B with
    |false=>rfl
    |true=>
     simp only[jF,aQ,aB,Bool.and_self]
     cases decide (x.B<=x.A) <;> rfl
  |true=>
   simp only[jF,aM,aQ,Bool.false_and]
   cases hB:x.dK.bR with
   |false=>
    simp only[jG,aM,aQ,aB]
    cases Es rs.length x.dK.Number <;> rfl
   |true=>
    simp only[jF,aM,aQ,aB]
    cases hi:Es bs.length x.dK.Number with
    |false=>rfl
    |true=>
     unfold Es at hi;rw[cO,cP,cP]at hi;have hlt:x.dK.Number.toNat<bs.length:=by omega
     have hbx:bs[x.dK.Number.toNat]? =some bs[x.dK.Number.toNat]:=aP hlt;have hix:=cC hbx;rw[Int.toNat_of_nonneg hi.1]at hix;simp only[jF,aQ,hix,aB];unfold tF;rw[hbx]
     cases hp:bs[x.dK.Number.toNat].eN <;> simp[hp]
theorem BK{bs:List bR}{rs:List (List aH)}{fl:List dX}(hr:rs.length<=1073741824)(hb:bs.length<=1073741824)(hf:fl.length<=1048576)(hN:4398046511104<=N):ir N bs rs fl=some (mq bs rs.length fl):=by
 refine TT ?_;unfold ir mq
 by_cases h20:20<fl.length
 ·rw[bO (show((fl.length:Nat):Int)>20 by omega),aM,aG h20];exact SR rfl
 rw[bQ (show ¬((fl.length:Nat):Int)>20 by omega),aQ,aI h20];refine S3 (TJ (n:=fl.length) (λs=>s) (λk _=>∀j,j<k->vE bs rs.length fl j=none) (Go:=λ_=>nK fl.length (vE bs rs.length fl)=none) (Rt:=λr=>nK fl.length (vE bs rs.length fl)=some r) ?_ ?_ (cT _) rfl (λj hj=>by omega) (by omega)) ?_
 ·rintro k s hk e hI;subst e;rw[jK hk,aM];have hx:fl[k]? =some fl[k]:=aP hk;have hte:=L9 (bs:=bs) (n:=rs.length) hx;refine Tc hx<|IT (Cr hr hb _)<|Tx (λh1=>TW ?_)<|λh1=>?_
  ·rw[aG (by simpa using h1)]at hte;exact iG.2 ⟨k,hk,hte,hI⟩
  rw[aI (by simpa using h1)]at hte;refine S3 (TJ (n:=k) (λs=>s) (λj _=>∀(i:Nat)y,i<j->fl[i]? =some y->y≠fl[k]) (Go:=λ_=>fl[k]∉fl.take k) (Rt:=λr=>r=7/\fl[k]∈fl.take k) ?_ ?_ (cT _) rfl (λi y hi=>by omega) (by omega)) ?_
  ·rintro j s hj e hJ;subst e;rw[jK hj,aM];have hy:fl[j]? =some (fl[j]'(by omega)):=aP _;refine Tc hy<|Tc hx<|Tx (λh2=>TW ⟨rfl,?_⟩)<|λh2=>Tk ⟨bI (by omega),λi y hi hiy=>?_⟩
   ·have h2:=of_decide_eq_true h2;rw[<-h2];have:(fl.take k)[j]? =some (fl[j]'(by omega)):=by rw[List.getElem?_take_of_lt hj];exact hy
    exact fQ this
   ·have h2:=of_decide_eq_false h2
    by_cases e:i=j
    ·subst e;rw[hy]at hiy;injection hiy with hiy;rw[<-hiy];exact h2
    ·exact hJ i y (by omega) hiy
  ·rintro s e hJ;subst e;rw[nz,aQ];refine Tu λhm=>?_;obtain⟨i,hi⟩:=dW hm;have hil:=(bN.1 hi).1;rw[dI]at hil;rw[List.getElem?_take_of_lt (by omega)]at hi;exact hJ i _ (by omega) hi rfl
  intro o ho;refine Tv ho (λ_ h2=>Tk ⟨bI (by omega),λj hj=>?_⟩)<|λr hr2=>TW ?_
  ·rw[aI h2]at hte
   by_cases e:j=k
   ·subst e;exact hte
   ·exact hI j (by omega)
  ·rw[aG hr2.2]at hte;exact iG.2 ⟨k,hk,by rw[hr2.1];exact hte,hI⟩
 ·rintro s e hI;subst e;rw[nz,aQ];exact Tu<|jA.2 hI
 intro o ho;exact Tv ho (λ_ h=>SR (by rw[h];rfl))<|λr hr=>SR (by rw[hr];rfl)
theorem BL{a:gQ}{kp:List (List aA)}{dJ:List (List<|List aA)}{r:Nat->Nat}{gs:List cF}{ofP ofB kC:List Int}{kq:List dK}(b:kN a kp dJ r gs ofP ofB kC kq)(h:dA N a=some 0){fl:List dX}(hf:fl.length<=1048576)(hN:4398046511104<=N):
  fo N a fl=some (mq a.aN (bY 0 dJ).length fl):=by
 have hfw:=b.xN.2;have hbl:=b.yG.gb.len;unfold fo;rw[h,aB,bne_self_eq_false,aQ,Cd b hN,aB];dsimp only;rw[BK (by rw[dU];omega) (by omega) hf hN,aB,dU]
end
def D4(t:Nat)(L:Nat->Nat->Prop)(op:Nat->Prop)(done:Nat->Nat->Prop)(u:List Int):Prop:=
 ∃r E,Ga t u r/\ny r E/\wU t r E/\(∀p∈E,(L p.1 p.2\/L p.2 p.1)/\¬op p.1/\¬op p.2)/\∀i j,done i j->¬op i->¬op j->(i,j)∈E\/(j,i)∈E
theorem D4.mono{t:Nat}{L:Nat->Nat->Prop}{op:Nat->Prop}{d d':Nat->Nat->Prop}{u:List Int}(h:D4 t L op d u)(hd:∀i j,d' i j->d i j):D4 t L op d' u:=by
 obtain⟨r,E,h1,h2,h3,h4,h5⟩:=h;exact⟨r,E,h1,h2,h3,h4,λi j hij=>h5 i j<|hd i j hij⟩
theorem D4.skip{t:Nat}{L:Nat->Nat->Prop}{op:Nat->Prop}{d:Nat->Nat->Prop}{u:List Int}(h:D4 t L op d u){i k:Nat}(ho:op i\/op k):D4 t L op (λa b=>d a b\/(a=i/\b=k)) u:=by
 obtain⟨r,E,h1,h2,h3,h4,h5⟩:=h;refine⟨r,E,h1,h2,h3,h4,λa b hab ha hb=>?_⟩
 grind
section
variable {N:Nat}
theorem D1{t:Nat}{u:List Int}{r:Nat->Nat}(h:Ga t u r){i k:Nat}(hi:i<t)(hk:k<t)(ht:t<N)(ht2:t<=1000000000):
  Ok (gx N u ((i:Nat):Int) ((k:Nat):Int)) (λu'=>Ga t u'<|Cq r (r i)<|r k):=by
 have hl:=h.len;unfold gx;refine Tc (h.at hi)<|Tc (h.at hk) ?_
 refine S3 (TJ (n:=t) (λst=>st.2) (λj st=>st.1=JS t (λx=>if x<j then((Cq r (r i) (r k) x:Nat):Int)else((r x:Nat):Int))) (Go:=λst=>Ga t st.1<|Cq r (r i)<|r k) (Rt:=λ_=>False) ?_ ?_ (cT _) rfl ?_ ht) ?_
 ·rintro j⟨u1,jj⟩hj e hI;dsimp only at e hI ⊢;subst e;subst hI;rw[uh,jK hj,aM];have hx:=DX (n:=t) (f:=λx=>if x<j then((Cq r (r i) (r k) x:Nat):Int)else((r x:Nat):Int)) hj;rw[aI<|Nat.lt_irrefl j]at hx;refine Tc hx ?_;refine S3 (P:=λs=>s=JS t (λx=>if x<j+1 then((Cq r (r i) (r k) x:Nat):Int)else((r x:Nat):Int))) (Tx (λhb=>Tc hx<|SR ?_)<|λhb=>SR ?_)<|λs hs=>Tk ⟨bI (by omega),hs⟩
  ·have hb:r j=r k:=by grind
   rw[cI]
   grind [JT,Cq]
  grind [ym,Cq]
 ·rintro⟨u1,jj⟩e hI;dsimp only at e hI ⊢;subst e;subst hI;rw[uh,nz,aQ];refine Tu ?_;show JS t _=(List.range t).map _;exact ym λx hx=>by rw[aG hx]
 ·dsimp only;rw[show u=JS t (λi=>((r i:Nat):Int))from h];rfl
 intro o ho;exact Tv ho (λs hs=>SR hs)<|λr hr=>hr.elim
theorem D4.join{t:Nat}{L:Nat->Nat->Prop}{op:Nat->Prop}{d:Nat->Nat->Prop}{u:List Int}(h:D4 t L op d u){i k:Nat}(hi:i<t)(hk:k<t)(ht:t<N)(ht2:t<=1000000000)(hL:L i k)(hoi:¬op i)(hok:¬op k):
  Ok (gx N u ((i:Nat):Int) ((k:Nat):Int)) (D4 t L op<|λa b=>d a b\/(a=i/\b=k)):=by
 obtain⟨r,E,h1,h2,h3,h4,h5⟩:=h;refine(D1 h1 hi hk ht ht2).mono λu' hu'=>⟨_,_,hu',h2.rel i k,h3.rel hi hk,λp hp=>?_,λa b hab ha hb=>?_⟩
 ·grind
 grind
theorem D4.r8{t:Nat}{L:Nat->Nat->Prop}{op:Nat->Prop}{d:Nat->Nat->Prop}{u:List Int}(h:D4 t L op d u){i k:Nat}(hi:i<t)(hk:k<t)(ht:t<N)(ht2:t<=1000000000)(hL:L i k)(hoi:¬op i)(hok:¬op k):
  Ok (gx N u ((k:Nat):Int) ((i:Nat):Int)) (D4 t L op<|λa b=>d a b\/(a=i/\b=k)):=by
 obtain⟨r,E,h1,h2,h3,h4,h5⟩:=h;refine(D1 h1 hk hi ht ht2).mono λu' hu'=>⟨_,_,hu',h2.rel k i,h3.rel hk hi,λp hp=>?_,λa b hab ha hb=>?_⟩
 ·grind
 grind
theorem Gb{bs:List bR}{n m:Nat}{h:dK}{rs:List (List aH)}(hh:E3 bs n m h)(hr:rs.length=n)(hn:n+m<=1000000000):fM N rs h=some ((eC n h:Nat):Int)/\eC n h<n+m:=by
 obtain⟨k,e,h1,h2⟩:=hh.num
 grind [fM,eC,cI,wrap_add]
end
structure I0 (bs:List bR) (pcs:List aF) (fl:List dX) (ls:List cS) (r2:Nat->Nat) (j:Nat) (W:List Int):Prop where
 len:W.length=j
 no:∀i l,i<j->ls[i]? =some l->ll bs pcs fl l=none->W[i]? =some (-1)
 yes:∀i l v,i<j->ls[i]? =some l->ll bs pcs fl l=some v->W[i]? =some ((r2 v:Nat):Int)
theorem I0.conn{bs:List bR}{pcs:List aF}{fl:List dX}{ls:List cS}{r2:Nat->Nat}{W:List Int}(h:I0 bs pcs fl ls r2 ls.length W){i k:Nat}{x y:cS}(hx:ls[i]? =some x)(hy:ls[k]? =some y):
  wF W i k=true↔∃u v,ll bs pcs fl x=some u/\ll bs pcs fl y=some v/\r2 u=r2 v:=by
 have hi:=(bN.1 hx).1;have hk:=(bN.1 hy).1;unfold wF;rw[cO,cP,beq_iff_eq,List.getD_eq_getElem?_getD,List.getD_eq_getElem?_getD]
 cases hn:ll bs pcs fl x with
 |none=>
  rw[h.no i x hi hx hn,Option.getD_some];simp
 |some u=>
  rw[h.yes i x u hi hx hn,Option.getD_some]
  cases hm:ll bs pcs fl y with
  |none=>
   rw[h.no k y hk hy hm,Option.getD_some];simp
  |some v=>
   rw[h.yes k y v hk hy hm,Option.getD_some]
   grind
theorem AV{bs:List bR}{pcs:List aF}{fl:List dX}{l:cS}{v:Nat}(h:ll bs pcs fl l=some v):v<pcs.length+bs.length:=by
 unfold ll at h
 cases hh:ql bs pcs l with
 |none=>grind
 |some q=>
  rw[hh,Option.bind_some]at h;split at h
  ·cases h
  ·injection h with h
   obtain⟨k,e,h1,h2⟩:=(Bw hh).num
   grind [eC]
section
variable {N:Nat}
theorem Ma{bs:List bR}{pcs:List aF}{ls:List cS}{fl:List dX}(hfl:ON bs pcs.length bs.length fl)(hfn:fl.length<=1073741824)(hb:kV bs)(hp:pcs.length<=1000000)(hr:∀p∈pcs,p.gU.length<=1000000/\∀x∈p.gU,x.X0<x.X1)(hl:ls.length<=1000000)(hd:∀l:cS,∀b∈bs,∀p∈pcs,mK l b=true->lT l p=true->False)(hN:4398046511104<=N):
  ∃r2 W,gZ N bs ls (pcs.map aF.dN) (pcs.map aF.gU) (cK bs pcs) fl=some W/\AQ (pcs.length+bs.length) (M7 pcs.length (cK bs pcs) fl) r2/\I0 bs pcs fl ls r2 ls.length W:=by
 suffices h:Ok (gZ N bs ls (pcs.map aF.dN) (pcs.map aF.gU) (cK bs pcs) fl) (λW=>∃r2,AQ (pcs.length+bs.length) (M7 pcs.length (cK bs pcs) fl) r2/\I0 bs pcs fl ls r2 ls.length W)by
  obtain⟨W,h1,r2,h2,h3⟩:=h
  grind
 have hbl:=hb.len;have hrl:(pcs.map aF.gU).length=pcs.length:=dU _;have hnum:∀{h:dK},E3 bs pcs.length bs.length h->fM N (pcs.map aF.gU) h=some ((eC pcs.length h:Nat):Int)/\eC pcs.length h<pcs.length+bs.length:=λhh=>Gb hh hrl (by omega);unfold gZ;rw[hrl,wrap_add (by omega)];refine IT (pD false (by omega)) ?_
 refine S3 (TJ (n:=fl.length) (λst=>st.2) (λq st=>st.1.length=pcs.length+bs.length/\∀v,v<pcs.length+bs.length->st.1[v]? =some (decide (lU pcs.length (fl.take q) v)))
  (Go:=λst=>st.1.length=pcs.length+bs.length/\∀v,v<pcs.length+bs.length->st.1[v]? =some (decide (lU pcs.length fl v))) (Rt:=λ_=>False) ?_ ?_ (cT _) rfl ⟨List.length_replicate,λv hv=>?_⟩ (by omega)) ?_
 ·rintro q⟨om,qq⟩hq e⟨hI1,hI2⟩;dsimp only at e hI1 hI2 ⊢;subst e;have hx:fl[q]? =some fl[q]:=aP hq;have hts:=eA hq;rw[jK hq,aM];refine Tc hx<|S3 (P:=λs=>s.length=pcs.length+bs.length/\∀v,v<pcs.length+bs.length->s[v]? =some (decide<|lU pcs.length (fl.take<|q+1) v)) (Tx (λho=>?_)<|λho=>SR ⟨hI1,λv hv=>?_⟩)<|λs hs=>Tk ⟨bI (by omega),hs⟩
  ·obtain⟨c1,c2⟩:=hnum<|hfl.op _ (cL hq) ho
   refine Tc hx<|IT c1<|Tc (hI2 _ c2)<|SR ⟨by grind,λv hv=>?_⟩
   rw[cI,hts]
   by_cases e:eC pcs.length fl[q].dK=v
   ·subst e;rw[List.getElem?_set_self (by omega)];congr 1;exact(bO ⟨fl[q],List.mem_append_right _<|l4.2 rfl,ho,rfl⟩).symm
   ·rw[List.getElem?_set_ne e,hI2 v hv];congr 1;rw[decide_eq_decide];constructor
    ·rintro⟨x,hx,h1,h2⟩;exact⟨x,List.mem_append_left _ hx,h1,h2⟩
    ·rintro⟨x,hx,h1,h2⟩
     rcases dD.1 hx with hx|hx
     ·exact⟨x,hx,h1,h2⟩
     ·rw[l4]at hx;subst hx;exact absurd h2 e
  ·rw[hI2 v hv,hts];congr 1;rw[decide_eq_decide];constructor
   ·rintro⟨x,hx,h1,h2⟩;exact⟨x,List.mem_append_left _ hx,h1,h2⟩
   ·rintro⟨x,hx,h1,h2⟩
    rcases dD.1 hx with hx|hx
    ·exact⟨x,hx,h1,h2⟩
    ·rw[l4]at hx;subst hx;rw[ho]at h1;cases h1
 ·rintro⟨om,qq⟩e hI;dsimp only at e hI ⊢;subst e;rw[nz,aQ];rw[fG]at hI;exact Tu hI
 ·rw[List.getElem?_replicate,aG hv];congr 1;exact(bQ (λ⟨x,hx,_⟩=>by simp at hx)).symm
 intro o ho;refine Tv ho ?_<|λr hr=>hr.elim
 rintro⟨om,qq⟩⟨hol,hom⟩;dsimp only at hol hom ⊢;rw[hol];refine IT (pD 0 (by omega)) ?_;refine S3 (TJ (n:=pcs.length+bs.length) (λst=>st.2) (λq st=>st.1=JS (pcs.length+bs.length) (λx=>if x<q then((x:Nat):Int)else 0)) (Go:=λst=>Ga (pcs.length+bs.length) st.1<|λi=>i) (Rt:=λ_=>False) ?_ ?_ (cT _) rfl ?_ (by omega)) ?_
 ·rintro q⟨u,qq⟩hq e hI;dsimp only at e hI ⊢;subst e;subst hI;rw[uh,jK hq,aM];refine Tc (DX hq)<|Tk ⟨bI (by omega),?_⟩
  dsimp only;rw[cI];refine JT (λ_=>by rw[aG (by omega)])<|λx _ hne=>?_
  by_cases h1:x<q
  ·rw[aG h1,aG (by omega)]
  ·rw[aI h1,aI (by omega)]
 ·rintro⟨u,qq⟩e hI;dsimp only at e hI ⊢;subst e;subst hI;rw[uh,nz,aQ];refine Tu ?_;exact ym λx hx=>by rw[aG hx]
 ·dsimp only;rw[L7];exact ym λx _=>by rw[aI (by omega)]
 intro o ho;refine Tv ho ?_<|λr hr=>hr.elim
 rintro⟨u0,qq0⟩h0;dsimp only at h0 ⊢;have htl:(cK bs pcs).length=bs.length:=by unfold cK;simp
 have hto:=xO (bs:=bs) (pcs:=pcs) (by omega);have omT:∀{v},v<pcs.length+bs.length->lU pcs.length fl v->om[v]? =some true:=λhv h=>by rw[hom _ hv,bO h]
 have omF:∀{v},v<pcs.length+bs.length->¬lU pcs.length fl v->om[v]? =some false:=λhv h=>by rw[hom _ hv,bQ h]
 refine S3 (TJ (n:=bs.length) (λst=>st.2) (λq st=>D4 (pcs.length+bs.length) (Gh pcs.length (cK bs pcs) fl) (lU pcs.length fl) (λa b=>∃k l,k<q/\(cK bs pcs)[k]? =some l/\((a:Nat):Int)∈l/\b=pcs.length+k) st.1)
  (Go:=λst=>D4 (pcs.length+bs.length) (Gh pcs.length (cK bs pcs) fl) (lU pcs.length fl) (λa b=>Lk pcs.length (cK bs pcs) a b) st.1) (Rt:=λ_=>False) ?_ ?_ (cT _) rfl
  ⟨_,_,h0,ny.id,wU.id _,λp hp=>(by cases hp),λi j⟨k,l,hk,_⟩=>by omega⟩ (by omega)) ?_
 ·rintro q⟨u,qq⟩hq e hI;dsimp only at e hI ⊢;subst e;rw[jK hq,aM];have hqx:(cK bs pcs)[q]? =some ((cK bs pcs)[q]'(by omega)):=aP _;have hqm:(cK bs pcs)[q]'(by omega)∈cK bs pcs:=cL _;generalize (cK bs pcs)[q]'(by omega)=T at hqx hqm;obtain⟨hl1,hl2⟩:=hto _ hqm;have hT:gI N (cK bs pcs) ((q:Nat):Int)=some T:=by
   unfold gI;rw[cC hqx];rfl
  refine IT hT ?_;rw[wrap_add (by omega)]
  refine S3 (TJ (n:=T.length) (λst=>st.2) (λt st=>D4 (pcs.length+bs.length) (Gh pcs.length (cK bs pcs) fl) (lU pcs.length fl) (λa b=>(∃k l,k<q/\(cK bs pcs)[k]? =some l/\((a:Nat):Int)∈l/\b=pcs.length+k)\/(((a:Nat):Int)∈T.take t/\b=pcs.length+q)) st.1)
   (Go:=λst=>D4 (pcs.length+bs.length) (Gh pcs.length (cK bs pcs) fl) (lU pcs.length fl) (λa b=>(∃k l,k<q/\(cK bs pcs)[k]? =some l/\((a:Nat):Int)∈l/\b=pcs.length+k)\/(((a:Nat):Int)∈T/\b=pcs.length+q)) st.1) (Rt:=λ_=>False) ?_ ?_ (cT _) rfl
   (hI.mono λi j h=>by rcases h with h|⟨h,_⟩;exact h;simp at h) (by omega)) ?_
  ·rintro t⟨u,tt⟩ht e hJ;dsimp only at e hJ ⊢;subst e;rw[jK ht,aM];have htx:T[t]? =some T[t]:=aP ht;obtain⟨i,hi,e⟩:=hl2 _<|cL ht
   have hLk:Gh pcs.length (cK bs pcs) fl i (pcs.length+q):= .inl ⟨q,_,hqx,by rw[<-e];exact cL ht,rfl⟩;have hfin:∀s,D4 (pcs.length+bs.length) (Gh pcs.length (cK bs pcs) fl) (lU pcs.length fl) (λa b=>((∃k l,k<q/\(cK bs pcs)[k]? =some l/\((a:Nat):Int)∈l/\b=pcs.length+k)\/(((a:Nat):Int)∈T.take t/\b=pcs.length+q))\/(a=i/\b=pcs.length+q)) s->
     D4 (pcs.length+bs.length) (Gh pcs.length (cK bs pcs) fl) (lU pcs.length fl) (λa b=>(∃k l,k<q/\(cK bs pcs)[k]? =some l/\((a:Nat):Int)∈l/\b=pcs.length+k)\/(((a:Nat):Int)∈T.take (t+1)/\b=pcs.length+q)) s:=λs hs=>hs.mono λa b h=>by
    rw[eA ht]at h
    rcases h with h|⟨h,hb⟩
    ·exact .inl<|.inl h
    ·rcases dD.1 h with h|h
     ·exact .inl<|.inr ⟨h,hb⟩
     ·rw[l4,e]at h;exact .inr ⟨by omega,hb⟩
   by_cases hoq:lU pcs.length fl (pcs.length+q)
   ·refine IT (x:=false) (by rw[cC<|omT (by omega) hoq];rfl) ?_;rw[aQ];exact Tk ⟨bI (by omega),hfin _<|hJ.skip<|.inr hoq⟩
   by_cases hoi:lU pcs.length fl i
   ·refine IT (x:=false) (by rw[cC<|omF (by omega) hoq,aB,jG,aM,cC htx,aB,e,cC<|omT (by omega) hoi];rfl) ?_;rw[aQ];exact Tk ⟨bI (by omega),hfin _<|hJ.skip<|.inl hoi⟩
   ·refine IT (x:=true) (by rw[cC<|omF (by omega) hoq,aB,jG,aM,cC htx,aB,e,cC<|omF (by omega) hoi];rfl) ?_;rw[aM];refine S3 (Tc htx ?_)<|λs hs=>Tk ⟨bI (by omega),hfin s hs⟩
    rw[e];exact S3 (hJ.r8 (by omega) (by omega) (by omega) (by omega) hLk hoi hoq)<|λs hs=>SR hs
  ·rintro⟨u,tt⟩e hJ;dsimp only at e hJ ⊢;subst e;rw[nz,aQ];rw[fG]at hJ;exact Tu hJ
  intro o ho;refine Tv ho (λst hst=>Tk ⟨bI (by omega),hst.mono λa b⟨k,l,hk,h1,h2,h3⟩=>?_⟩)<|λr hr=>hr.elim
  by_cases hkq:k<q
  ·exact .inl ⟨k,l,hkq,h1,h2,h3⟩
  ·have:k=q:=by omega
   subst this;rw[hqx]at h1;injection h1 with h1;subst h1
   exact .inr ⟨h2,h3⟩
 ·rintro⟨u,qq⟩e hI;dsimp only at e hI ⊢;subst e;rw[nz,aQ];exact Tu<|hI.mono λa b⟨k,l,h1,h2,h3⟩=>⟨k,l,by have:=(bN.1 h1).1;omega,h1,h2,h3⟩
 intro o ho;refine Tv ho ?_<|λr hr=>hr.elim
 rintro⟨u1,qq1⟩h1;dsimp only at h1 ⊢
 refine S3 (TJ (n:=fl.length) (λst=>st.2) (λq st=>D4 (pcs.length+bs.length) (Gh pcs.length (cK bs pcs) fl) (lU pcs.length fl) (λa b=>Lk pcs.length (cK bs pcs) a b\/∃x∈fl.take q,x.Open=false/\x.A=((a:Nat):Int)/\x.B=((b:Nat):Int)) st.1)
  (Go:=λst=>D4 (pcs.length+bs.length) (Gh pcs.length (cK bs pcs) fl) (lU pcs.length fl) (Gh pcs.length (cK bs pcs) fl) st.1) (Rt:=λ_=>False) ?_ ?_ (cT _) rfl
  (h1.mono λi j h=>h.elim id (λ⟨x,hx,_⟩=>by simp at hx)) (by omega)) ?_
 ·rintro q⟨u,qq⟩hq e hI;dsimp only at e hI ⊢;subst e;rw[jK hq,aM];have hx:fl[q]? =some fl[q]:=aP hq;have hxm:fl[q]∈fl:=cL hq;have hts:=eA hq;generalize fl[q]=x at hx hxm hts
  cases ho:x.Open with
  |true=>
   refine IT (x:=false) (by rw[cC hx,aB,ho];rfl) ?_;rw[aQ];refine Tk ⟨bI (by omega),hI.mono λa b h=>?_⟩;rw[hts]at h
   rcases h with h|⟨y,hy,g1,g2⟩
   ·exact .inl h
   ·rcases dD.1 hy with hy|hy
    ·exact .inr ⟨y,hy,g1,g2⟩
    ·rw[l4]at hy;subst hy;rw[ho]at g1;cases g1
  |false=>
   obtain⟨i,k,e1,e2,e3,e4⟩:=hfl.br _ hxm ho;have hLk:Gh pcs.length (cK bs pcs) fl i k:= .inr ⟨x,hxm,ho,e1,e2⟩;have hfin:∀s,D4 (pcs.length+bs.length) (Gh pcs.length (cK bs pcs) fl) (lU pcs.length fl) (λa b=>(Lk pcs.length (cK bs pcs) a b\/∃x∈fl.take q,x.Open=false/\x.A=((a:Nat):Int)/\x.B=((b:Nat):Int))\/(a=i/\b=k)) s->
     D4 (pcs.length+bs.length) (Gh pcs.length (cK bs pcs) fl) (lU pcs.length fl) (λa b=>Lk pcs.length (cK bs pcs) a b\/∃x∈fl.take (q+1),x.Open=false/\x.A=((a:Nat):Int)/\x.B=((b:Nat):Int)) s:=λs hs=>hs.mono λa b h=>by
    rw[hts]at h
    rcases h with h|⟨y,hy,g1,g2,g3⟩
    ·exact .inl<|.inl h
    ·rcases dD.1 hy with hy|hy
     ·exact .inl<|.inr ⟨y,hy,g1,g2,g3⟩
     ·rw[l4]at hy;subst hy;rw[e1]at g2;rw[e2]at g3;exact .inr ⟨by omega,by omega⟩
   by_cases hoi:lU pcs.length fl i
   ·refine IT (x:=false) (by rw[cC hx,aB,ho,jG,aM,aB,e1,cC<|omT (by omega) hoi];rfl) ?_;rw[aQ];exact Tk ⟨bI (by omega),hfin _<|hI.skip<|.inl hoi⟩
   by_cases hok:lU pcs.length fl k
   ·refine IT (x:=false) (by rw[cC hx,aB,ho,jG,aM,aB,e1,cC<|omF (by omega) hoi,aB,jG,aM,aB,e2,cC<|omT (by omega) hok];rfl) ?_;rw[aQ];exact Tk ⟨bI (by omega),hfin _<|hI.skip<|.inr hok⟩
   ·refine IT (x:=true) (by rw[cC hx,aB,ho,jG,aM,aB,e1,cC<|omF (by omega) hoi,aB,jG,aM,aB,e2,cC<|omF (by omega) hok];rfl) ?_;rw[aM];refine S3 (Tc hx<|Tc hx ?_)<|λs hs=>Tk ⟨bI (by omega),hfin s hs⟩
    rw[e1,e2];exact S3 (hI.join (by omega) (by omega) (by omega) (by omega) hLk hoi hok)<|λs hs=>SR hs
 ·rintro⟨u,qq⟩e hI;dsimp only at e hI ⊢;subst e;rw[nz,aQ];rw[fG]at hI;exact Tu hI
 intro o ho;refine Tv ho ?_<|λr hr=>hr.elim
 rintro⟨u2,qq2⟩⟨r2,E,v1,v2,v3,v4,v5⟩;dsimp only at v1 ⊢;have hC:AQ (pcs.length+bs.length) (M7 pcs.length (cK bs pcs) fl) r2:=
  ⟨λi j h=>(v5 i j h.1 h.2.1 h.2.2).elim (λh=>v2 (i,j) h) (λh=>(v2 (j,i) h).symm),λS hS i j hi hj=>v3 S (λp hp=>by
   obtain⟨g1,g2,g3⟩:=v4 p hp
   rcases g1 with g1|g1
   ·exact hS p.1 p.2 ⟨g1,g2,g3⟩
   ·exact(hS p.2 p.1 ⟨g1,g3,g2⟩).symm) i j hi hj⟩
 refine S3 (TJ (n:=ls.length) (λst=>st.2) (λj st=>I0 bs pcs fl ls r2 j st.1) (Go:=λst=>I0 bs pcs fl ls r2 ls.length st.1) (Rt:=λ_=>False) ?_ ?_ (cT _) rfl ⟨rfl,λi l h=>by omega,λi l v h=>by omega⟩ (by omega)) ?_
 ·rintro j⟨W,jj⟩hj e I;dsimp only at e I ⊢;subst e;rw[jK hj,aM];have hx:ls[j]? =some ls[j]:=aP hj;have hWl:=I.len;have push:∀(c:Int),(ll bs pcs fl ls[j]=none->c = -1)->(∀v,ll bs pcs fl ls[j]=some v->c=((r2 v:Nat):Int))->I0 bs pcs fl ls r2 (j+1) (W++[c]):=λc g1 g2=>by
   have hlast:(W++[c])[j]? =some c:=by rw[jC (by omega),hWl];simp
   have hold:∀i,i<j->(W++[c])[i]? =W[i]? :=λi hi=>jB (by omega);refine⟨by rw[eL,hWl];rfl,λi l hi hil hn=>?_,λi l v hi hil hs=>?_⟩
   ·by_cases e:i=j
    ·subst e;rw[hx]at hil;injection hil with hil;subst hil;rw[hlast,g1 hn]
    ·rw[hold i (by omega)];exact I.no i l (by omega) hil hn
   ·by_cases e:i=j
    ·subst e;rw[hx]at hil;injection hil with hil;subst hil;rw[hlast,g2 v hs]
    ·rw[hold i (by omega)];exact I.yes i l v (by omega) hil hs
  refine Tc hx<|IT (Fa hb hp hr ls[j] hN) ?_
  rw[JP<|hd ls[j]];dsimp only
  cases hh:ql bs pcs ls[j]with
  |none=>
   refine IT (x:=true) rfl ?_;rw[aM];refine S3 (TM (by simp only[fq,List.length_nil];omega)<|SR rfl)<|λs hs=>Tk ⟨bI (by omega),?_⟩
   dsimp only;rw[<-hs];exact push _ (λ_=>rfl) (λv hv=>by unfold ll at hv;rw[hh]at hv;cases hv)
  |some h=>
   obtain⟨c1,c2⟩:=hnum<|Bw hh
   rw[Option.getD_some,Option.isSome_some]
   by_cases hop:lU pcs.length fl (eC pcs.length h)
   ·refine IT (x:=true) (by rw[jF,aQ,c1,aB,cC<|omT c2 hop];rfl) ?_;rw[aM];refine S3 (TM (by simp only[fq,List.length_nil];omega)<|SR rfl)<|λs hs=>Tk ⟨bI (by omega),?_⟩
    dsimp only;rw[<-hs];exact push _ (λ_=>rfl) (λv hv=>by unfold ll at hv;rw[hh,Option.bind_some,aG hop]at hv;cases hv)
   ·refine IT (x:=false) (by rw[jF,aQ,c1,aB,cC<|omF c2 hop];rfl) ?_;rw[aQ];refine S3 (IT c1<|Tc (v1.at c2)<|TM (by simp only[fq,List.length_nil];omega)<|SR rfl)<|λs hs=>Tk ⟨bI (by omega),?_⟩
    dsimp only;rw[<-hs];refine push _ (λhn=>?_)<|λv hv=>?_
    ·unfold ll at hn;rw[hh,Option.bind_some,aI hop]at hn;cases hn
    ·unfold ll at hv;rw[hh,Option.bind_some,aI hop]at hv;injection hv with hv;rw[hv]
 ·rintro⟨W,jj⟩e I;dsimp only at e I ⊢;subst e;rw[nz,aQ];exact Tu I
 intro o ho;exact Tv ho (λst hst=>SR ⟨r2,hC,hst⟩)<|λr hr=>hr.elim
end
section
variable {N:Nat}{a:gQ}{kp:List (List aA)}{dJ:List (List (List aA))}{r:Nat->Nat}{gs:List cF}{ofP ofB kC:List Int}{kq:List dK}
theorem OR(b:kN a kp dJ r gs ofP ofB kC kq){fl:List dX}(h0:mq a.aN (bY 0 dJ).length fl=0)(hN:4398046511104<=N):
  ∃W,gZ N a.aN a.bJ ((bY 0 dJ).map aF.dN) ((bY 0 dJ).map aF.gU) (cK a.aN<|bY 0 dJ) fl=some W/\W.length=a.bJ.length/\∀i k,i<a.bJ.length->k<a.bJ.length->wF W i k=wF (Eu N a dJ kC kq fl) i k:=by
 have hf:=b.xN.2;have hlf:=b.vu.xN;obtain⟨h20,hok⟩:=xU h0;obtain⟨rW,W,w1,w2,w3⟩:=Ma (N:=N) (bs:=a.aN) (pcs:=bY 0 dJ) (ls:=a.bJ) (fl:=fl) hok (by omega) b.yG.gb (by omega) (λp hp=>⟨by have:=(AO b hp).1;omega,λx hx=>((AO b hp).2.1 x hx).2.1⟩) (by omega) (λl=>JQ b l) hN;obtain⟨rC,c2,c3⟩:=L8 b h0 hN;have cW:AQ ((bY 0 dJ).length+a.aN.length) (M7 (bY 0 dJ).length (cK a.aN<|bY 0 dJ) fl) rC:=⟨c2.co,c2.fi⟩;refine⟨W,w1,w3.len,λi k hi hk=>?_⟩;have hx:a.bJ[i]? =some a.bJ[i]:=aP hi;have hy:a.bJ[k]? =some a.bJ[k]:=aP hk;rw[gS,w3.conn hx hy,c3 hx hy];constructor
 ·rintro⟨u,v,g1,g2,g3⟩;exact⟨u,v,g1,g2,(w2.uniq cW (AV g1)<|AV g2).1 g3⟩
 ·rintro⟨u,v,g1,g2,g3⟩;exact⟨u,v,g1,g2,(w2.uniq cW (AV g1)<|AV g2).2 g3⟩
theorem Cs{W:List Int}{i k:Nat}(hi:i<W.length)(hk:k<W.length):iL N W ((i:Nat):Int) ((k:Nat):Int)=some (wF W i k):=by
 grind [aP,iL,wF,cC,aB,decide]
end
section
variable {N:Nat}
end
section
variable {N:Nat}{a:gQ}{kp:List (List aA)}{dJ:List (List (List aA))}{r:Nat->Nat}{gs:List cF}{ofP ofB kC:List Int}{kq:List dK}
theorem HX(b:kN a kp dJ r gs ofP ofB kC kq){fl:List dX}(h0:mq a.aN (bY 0 dJ).length fl=0){l:List Test}(hl:l.length<=1048576)(ht:∀t∈l,Fc a t)(hN:4398046511104<=N):
  kd N a.aK a.cJ a.aN a.bJ ((bY 0 dJ).map aF.dN) ((bY 0 dJ).map aF.gU) (cK a.aN<|bY 0 dJ) l fl=some (Ff N a dJ kC kq l fl):=by
 obtain⟨W,w1,w2,w3⟩:=OR b h0 hN;have hlf:=b.vu.xN;have hA:∀p,eV N (⟨a.aK,a.cJ,a.aN,a.bJ⟩:gQ) p=some (jL a p):=λp=>D0 (a:=a) (by omega) p hN;have hsh:qg a W l=Ff N a dJ kC kq l fl:=by
  unfold Ff qg;refine List.map_congr_left λt ht'=>?_;obtain⟨t1,t2,_⟩:=ht _ ht';obtain⟨i,_,e1,_,_,hi⟩:=vF t1;obtain⟨j,_,e2,_,_,hj⟩:=vF t2;rw[e1,e2,cI,cI,w3 i j hi hj]
 refine TT ?_;unfold kd;refine IT w1 ?_;refine S3 (TJ (n:=l.length) (λst=>st.2.2) (λk st=>st.1=W/\st.2.1=qg a W (l.take k)) (Go:=λst=>st.2.1=qg a W l) (Rt:=λ_=>False) ?_ ?_ (cT _) rfl ⟨rfl,rfl⟩ (by omega)) ?_
 ·rintro k⟨W',out,kk⟩hk e⟨h1,h2⟩;dsimp only at e h1 h2 ⊢;subst e;subst h1;subst h2;rw[jK hk,aM];have hx:l[k]? =some l[k]:=aP hk;obtain⟨t1,t2,_⟩:=ht _<|cL hk
  obtain⟨i,_,e1,_,_,hi⟩:=vF t1;obtain⟨j,_,e2,_,_,hj⟩:=vF t2;have hlen:(qg a W'<|l.take k).length=k:=by rw[Fg,dI];omega
  refine Tc hx<|Tc hx<|IT (hA _)<|IT (hA _) ?_
  rw[e1,e2];refine IT (Cs (by omega) (by omega))<|TM (by rw[hlen];simp only[fq,List.length_nil];omega)<|Tk ⟨bI (by omega),rfl,?_⟩
  dsimp only;unfold qg;rw[eA hk,fO,eY,List.map_nil,e1,e2,cI,cI]
 ·rintro⟨W',out,kk⟩e⟨h1,h2⟩;dsimp only at e h1 h2 ⊢;subst e;subst h2;rw[nz,aQ];exact Tu (by dsimp only;rw[fG])
 intro o ho;exact Tv ho (λst hst=>SR (by rw[hst,hsh]))<|λr hr=>hr.elim
theorem AW{a:gQ}{e:Int}{l:List Test}(he:e≠0)(h:dC N a l=some e)(fl:List dX):dH N a l fl=some ([],e):=by
 unfold dH;rw[h,aB,show(e != 0)=true by simpa using he,aM]
theorem Gc{a:gQ}{e:Int}{l:List Test}{fl:List dX}(h1:dC N a l=some 0)(he:e≠0)(h:fo N a fl=some e):dH N a l fl=some ([],e):=by
 unfold dH;rw[h1,aB,bne_self_eq_false,aQ,h,aB,show(e != 0)=true by simpa using he,aM]
theorem I1(b:kN a kp dJ r gs ofP ofB kC kq){fl:List dX}{l:List Test}(h1:dC N a l=some 0)(h2:fo N a fl=some 0)(h0:mq a.aN (bY 0 dJ).length fl=0)(hl:l.length<=1048576)(ht:∀t∈l,Fc a t)(hN:4398046511104<=N):
  dH N a l fl=some (Ff N a dJ kC kq l fl,0):=by
 unfold dH;rw[h1,aB,bne_self_eq_false,aQ,h2,aB,bne_self_eq_false,aQ,Cd b hN,aB];dsimp only;rw[HX b h0 hl ht hN,aB]
end
section
variable {N:Nat}
theorem I2{a:gQ}(hs:tH a){l:List Test}{fl:List dX}(hl:l.length<=1048576)(hfl:fl.length<=1048576)(hN:4398046511104<=N):
  ∃x:List Bool×Int,gw N a l fl=some x/\dH N a l fl=some x/\(x.2≠0/\x.1= []\/x.2=0/\x.1.length=l.length):=by
 rcases checked (N:=N) hs hN with⟨e,he,h1,h2⟩|⟨b,h1,h2⟩
 ·exact⟨([],e),Fe he<|L3 he h1 l,AW he (AR he h2 l) fl, .inl ⟨he,rfl⟩⟩
 ·rename_i kp dJ r gs ofP ofB kC kq;have hlf:=b.vu.xN;have hT:=BJ (N:=N) (by omega) h2 hl hN;have hF:=BL b h2 hfl hN
  rcases M8 b h1 hl hN with⟨e1,e2⟩|⟨e1,e2⟩
  ·exact⟨([],_),Fe e1 e2,AW e1 hT fl, .inl ⟨e1,rfl⟩⟩
  ·rw[e1]at hT;obtain⟨_,t2,_⟩:=F9 e1
   by_cases h0:mq a.aN (bY 0 dJ).length fl=0
   ·rw[h0]at hF;exact⟨_,KJ b e2 h0 hl t2 hN,I1 b hT hF h0 hl t2 hN, .inr ⟨rfl,KI⟩⟩
   ·exact⟨([],_),KH b e2 hfl h0,Gc hT h0 hF, .inl ⟨h0,rfl⟩⟩
def AX(s:List Bool)(l:List Test)(k:Nat):Option (Bool×Int):=(l[k]?).bind λt=>(s[k]?).bind λx=>if x≠t.Joined then some (false,0)else none
theorem HY{s:List Bool}{l:List Test}{k:Nat}{t:Test}{x:Bool}(ht:l[k]? =some t)(hx:s[k]? =some x):AX s l k=if x≠t.Joined then some (false,0)else none:=by unfold AX;rw[ht,Option.bind_some,hx,Option.bind_some]
theorem I3{a:gQ}{l:List Test}{fl:List dX}{x:List Bool×Int}(he:x.2≠0)(h:gw N a l fl=some x)(h2:dH N a l fl=some x):lP N a l fl=some (false,x.2)/\fN N a l fl=some (false,x.2):=by
 constructor
 ·unfold lP;rw[h,aB,show(x.2 != 0)=true by simpa using he,aM]
 ·unfold fN;rw[h2,aB,show(x.2 != 0)=true by simpa using he,aM]
theorem HZ{a:gQ}{l:List Test}{fl:List dX}{s:List Bool}(h:gw N a l fl=some (s,0))(h2:dH N a l fl=some (s,0))(hs:s.length=l.length)(hl:l.length<=1048576)(hN:4398046511104<=N):
  lP N a l fl=some ((nK l.length<|AX s l).getD (true,0))/\fN N a l fl=some ((nK l.length<|AX s l).getD (true,0)):=by
 constructor
 ·unfold lP;rw[h,aB];simp only[bne_self_eq_false,aQ]
  rw[o9 (AX s l) (by omega) (λk hk _=>by
   have hx:l[k]? =some l[k]:=aP hk;have hy:s[k]? =some (s[k]'(by omega)):=aP _;rw[cC hx,aB,cC hy,aB,HY hx hy]
   by_cases e:s[k]'(by omega)=l[k].Joined
   ·rw[aI (by simpa using e),e,bne_self_eq_false];rfl
   ·rw[aG e,show((s[k]'(by omega)) != l[k].Joined)=true by rw[bne_iff_ne];exact e];rfl),aB]
  cases nK l.length (AX s l) <;> rfl
 ·refine TT ?_;unfold fN;refine IT h2 ?_;simp only[bne_self_eq_false,aQ];refine S3 (TJ (n:=l.length) (λs=>s) (λk _=>∀j,j<k->AX s l j=none) (Go:=λ_=>nK l.length (AX s l)=none) (Rt:=λr=>nK l.length (AX s l)=some r) ?_ ?_ (cT _) rfl (λj hj=>by omega) (by omega)) ?_
  ·rintro k i hk e hI;subst e;rw[jK hk,aM];have hx:l[k]? =some l[k]:=aP hk;have hy:s[k]? =some (s[k]'(by omega)):=aP _;have hp:=HY hx hy;refine Tc hy<|Tc hx<|Tx (λhb=>TW ?_)<|λhb=>Tk ⟨bI (by omega),λj hj=>?_⟩
   ·rw[aG<|bne_iff_ne.1 hb]at hp;exact iG.2 ⟨k,hk,hp,hI⟩
   ·by_cases e:j=k
    ·subst e;rw[hp,aI (by simpa using hb)]
    ·exact hI j (by omega)
  ·rintro i e hI;subst e;rw[nz,aQ];exact Tu<|jA.2 hI
  intro o ho;exact Tv ho (λ_ h=>SR (by rw[h];rfl))<|λr hr=>SR (by rw[hr];rfl)
theorem wu{a:gQ}{l:List Test}{fl:List dX}(ha:bk a<=1048576)(hl:bk l<=1048576)(hfl:bk fl<=1048576)(hN:4398046511104<=N):gj N a l fl=some true:=by
 have hs:=HA ha;have hll:l.length<=1048576:=by have:=xh l;omega
 have hff:fl.length<=1048576:=by have:=xh fl;omega
 have aw:=M6 hN;obtain⟨⟨s,e⟩,h1,h2,h3⟩:=I2 (N:=N) hs hll hff hN;have hP:∃y,lP N a l fl=some y/\fN N a l fl=some y:=by
  rcases h3 with⟨he,_⟩|⟨he,hsl⟩
  ·obtain⟨p1,p2⟩:=I3 he h1 h2;exact⟨_,p1,p2⟩
  ·dsimp only at he hsl;subst he;obtain⟨p1,p2⟩:=HZ h1 h2 hsl hll hN;exact⟨_,p1,p2⟩
 obtain⟨y,p1,p2⟩:=hP;have hsl:s.length<=1000000000:=by
  rcases h3 with⟨_,h3⟩|⟨_,h3⟩
  ·dsimp only at h3;rw[h3];simp
  ·dsimp only at h3;omega
 unfold gj;rw[h1,aB,h2,aB,p1,aB,p2,aB,aw,IZ hsl];simp
end
end Go.Gk
