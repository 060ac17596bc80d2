/-
  Helping texts: plain functions and plain laws. No statement of the seed is proved here.
-/
import Derived.Test.YtbfhmmgnmbilfaaGreatDoorE1
import Derived.Test.YtbfhmmgnmbilfaaGreatDoorA2
set_option linter.unusedVariables false
set_option linter.unusedSimpArgs false
set_option linter.unusedSectionVars false
namespace Go.Gk
open Go IntKind Classical
section
variable {N:Nat}
section
variable {α:Type}
def qp(P:α->Bool)(l:List α)(n:Nat):List Nat:=(List.range n).filter<|λk=>(l[k]?).any P
theorem z7{P:α->Bool}{l:List α}{n:Nat}{x:α}(h:l[n]? =some x):qp P l (n+1)=if P x=true then qp P l n++[n]else qp P l n:=by
 grind [qp,List.range_succ]
theorem B5(P:α->Bool)(l:List α)(n:Nat):(qp P l n).length<=n:=by
 have:=nA (λk=>(l[k]?).any P)<|List.range n
 rw[List.length_range]at this;exact this
theorem Ln{P:α->Bool}{l:List α}{n k:Nat}:k∈qp P l n↔k<n/\(l[k]?).any P=true:=by simp[qp]
theorem A9{β:Type}{l:List α}(P:α->Bool)(g:Nat->β):wD l.length (λk=>(l[k]?).bind λx=>if P x=true then some (g k)else none)=(l.findIdx? P).map g:=by
 cases h:l.findIdx? P with
 |none=>
  grind [List.findIdx?_eq_none_iff,mw,aN,cH]
 |some j=>
  obtain⟨hj,hp,hn⟩:=List.findIdx?_eq_some_iff_getElem.1 h;refine oN.2 ⟨j,hj,by grind,λi hi=>?_⟩
  grind
end
def ints(l:List Nat):List Int:=l.map λi=>((i:Nat):Int)
theorem sd(l m:List Nat):ints (l++m)=ints l++ints m:=fW
theorem lf(l:List Nat):(ints l).length=l.length:=eB _
theorem pF{l:List Nat}{x:Int}:x∈ints l↔∃i∈l,x=((i:Nat):Int):=by
 grind [ints]
def th(p0 p1:aH):Bool:=(((decide (p0.X0<p1.X1)&&decide (p1.X0<p0.X1))&&((p0.Y1==p1.Y0)||(p1.Y1==p0.Y0)))||((decide (p0.Y0<p1.Y1)&&decide (p1.Y0<p0.Y1))&&((p0.X1==p1.X0)||(p1.X1==p0.X0))))
def iP(b:bU)(p:aD):Bool:=b.fD&&(mA b p.cL&&p.dY.any (λr=>th r<|yj b))
def cT(bs:List bU)(pcs:List aD):List (List Int):=bs.map λb=>ints<|qp (iP b) pcs pcs.length
theorem uL{l:List aH}{φ:aH->Option Bool}(p:aH->Bool)(hl:l.length<=4611686018427387904)(h:∀x∈l,φ x=some (p x)):iL N l φ=some (l.any p):=
 vz p hl h
theorem MD{bs:List bU}{pcs:List aD}(hb:kQ bs)(hp:pcs.length<=1073741824)(hr:∀p∈pcs,p.dY.length<=1073741824):kV N bs pcs []=some (cT bs pcs):=by
 refine UU ?_;have hbl:=hb.len;unfold kV;refine TZ (UX (λk st=>st=cT (bs.take k) pcs) (by omega) rfl<|λk st hk e=>?_)<|λst e=>OF (by rw[e,eM])
 subst e;have hg:=hb.ok _<|cH hk
 refine UW hk ?_;refine TZ (P:=λt=>t=ints (qp (iP bs[k]) pcs pcs.length)) (UX (λj t=>t=ints (qp (iP bs[k]) pcs j)) (by omega) rfl<|λj t hj e=>?_)<|λt e=>?_
 ·subst e;have hjx:pcs[j]? =some pcs[j]:=aN hj;have hl:=B5 (iP bs[k]) pcs j;refine T6 hjx ?_;refine IT (x:=iP bs[k] pcs[j]) ?_ ?_
  ·unfold iP
   cases bs[k].fD with
   |false=>rfl
   |true=>
    rw[aO,D6,aB,Bool.true_and]
    cases mA bs[k] pcs[j].cL with
    |false=>rfl
    |true=>
     rw[aO,uL (λr=>th r (yj bs[k])) (by grind) (λr _=>by
      unfold lq;rw[ov hg.1];rfl),aB,Bool.true_and]
  ·rw[z7 hjx]
   cases ht:iP bs[k] pcs[j]with
   |false=>simp[aR,aI,IT,OF]
   |true=>
    rw[aO,aG rfl]
    grind [IT,ints,qp,iP,kE,lf,aB,OF,sd]
 grind [UJ,OF,cT,dQ]
def Cx(r:List aH)(p:dU):Bool:=r.any<|λx=>decide (p.X>=x.X0)&&(decide (p.X<x.X1)&&(decide (p.Y>=x.Y0)&&decide (p.Y<x.Y1)))
theorem Ba{r:List aH}{p:dU}(hl:r.length<=4611686018427387904):lE N r p=some (Cx r p):=by
 unfold lE
 rw[uL (λx=>decide (p.X>=x.X0)&&(decide (p.X<x.X1)&&(decide (p.Y>=x.Y0)&&decide (p.Y<x.Y1)))) hl (λx _=>by
  grind [mJ,decide])];rfl
def mQ(l:dE)(b:bU):Bool:=b.fD&&(mA b l.cL&&Cx [yj b] l.At)
def lV(l:dE)(p:aD):Bool:=(p.cL==l.cL)&&Cx p.dY l.At
def qw(bs:List bU)(pcs:List aD)(l:dE):Option eC:=match bs.findIdx? (mQ l)with
 |some k=>some ⟨true,((k:Nat):Int)⟩
 |none=>(pcs.findIdx? (lV l)).map λk=>⟨false,((k:Nat):Int)⟩
theorem ME{bs:List bU}{pcs:List aD}(hb:kQ bs)(hp:pcs.length<=1073741824)(hr:∀p∈pcs,p.dY.length<=1073741824)(l:dE):
  kX N bs pcs l=some ((qw bs pcs l).getD ⟨false,0⟩,(qw bs pcs l).isSome):=by
 have hbl:=hb.len;unfold kX
 rw[tI (λk=>(bs[k]?).bind λx=>if mQ l x=true then some ((⟨true,((k:Nat):Int)⟩:eC),true)else none) (by omega) (λk hk _=>by
  have hkx:bs[k]? =some bs[k]:=aN hk;have hg:=hb.ok _<|cH hk
  rw[cG hkx,aB,hkx,ov hg.1,aB,aB,Ba (by simp)];unfold mQ
  cases bs[k].fD with
  |false=>rfl
  |true=>
   show(((bif mA bs[k] l.cL then _ else _:Option Bool)).bind _)=_
   cases mA bs[k] l.cL with
   |false=>rfl
   |true=>
    cases Cx [yj bs[k]] l.At <;> rfl),aB,A9 (mQ l) (λk=>((⟨true,((k:Nat):Int)⟩:eC),true))]
 unfold qw
 cases bs.findIdx? (mQ l)with
 |some k=>rfl
 |none=>
  show((vg pcs.length _ ()).bind _)=_
  rw[tI (λk=>(pcs[k]?).bind λx=>if lV l x=true then some ((⟨false,((k:Nat):Int)⟩:eC),true)else none) (by omega) (λk hk _=>by
   have hkx:pcs[k]? =some pcs[k]:=aN hk;rw[cG hkx,aB,hkx,aB,Ba (by have:=hr _<|cH hk;omega)];unfold lV
   cases pcs[k].cL==l.cL with
   |false=>rfl
   |true=>cases Cx pcs[k].dY l.At <;> rfl),aB,A9 (lV l) (λk=>((⟨false,((k:Nat):Int)⟩:eC),true))]
  cases pcs.findIdx? (lV l) <;> rfl
def Lk(n:Nat)(tch:List (List Int))(i j:Nat):Prop:=∃(k:Nat)(l:List Int),tch[k]? =some l/\((i:Nat):Int)∈l/\j=n+k
structure CT (n m:Nat) (tch:List (List Int)) (r:Nat->Nat):Prop where
 le:∀i,i<n+m->r i<=i
 rr:∀i,i<n+m->r (r i)=r i
 co:∀i j,Lk n tch i j->r i=r j
 fi:∀S:Nat->Prop,(∀i j,Lk n tch i j->(S i↔S j))->∀i j,i<n+m->j<n+m->r i=r j->S i->S j
theorem FI{n m:Nat}{tch:List (List Int)}(hm:tch.length=m)(ht:∀l∈tch,l.length<=1073741824/\∀x∈l,∃i:Nat,i<n/\x=((i:Nat):Int))(hn:n<=1073741824)(hm2:m<=1073741824){up:List Int}(hu:UF (n+m) up (λi=>i))(hN:4398046511104<=N):
  Ok (kR tch.length (λ(k34:Nat)(s35:List Int)=>((idx tch (k34:Int)).bind λx89=>(kR x89.length (λ(k92:Nat)(s93:List Int)=>((idx x89 (k92:Int)).bind λx107=>(fL N s93 x107<|wrap .i64<|(n:Int)+(k34:Int)).bind λx109=>some x109:Option (List Int))) s35).bind λs93=>some s93:Option (List Int))) up)
   (λup'=>∃r,UF (n+m) up' r/\CT n m tch r):=by
 have base:Ok (kR tch.length (λ(k34:Nat)(s35:List Int)=>((idx tch (k34:Int)).bind λx89=>(kR x89.length (λ(k92:Nat)(s93:List Int)=>((idx x89 (k92:Int)).bind λx107=>(fL N s93 x107<|wrap .i64<|(n:Int)+(k34:Int)).bind λx109=>some x109:Option (List Int))) s35).bind λs93=>some s93:Option (List Int))) up)
   (λup'=>∃r E,UF (n+m) up' r/\nv r E/\xC (n+m) r E/\(∀p∈E,Lk n tch p.1 p.2)/\∀(k:Nat)l(i:Nat),k<tch.length->tch[k]? =some l->((i:Nat):Int)∈l->(i,n+k)∈E):=by
  refine UX (λq up'=>∃r E,UF (n+m) up' r/\nv r E/\xC (n+m) r E/\(∀p∈E,Lk n tch p.1 p.2)/\∀(k:Nat)l(i:Nat),k<q->tch[k]? =some l->((i:Nat):Int)∈l->(i,n+k)∈E) (by omega)
   ⟨_,_,hu,nv.id,xC.id _,λp hp=>(by cases hp),λk l i hk=>by omega⟩ (λq up' hq hI=>?_)
  obtain⟨r,E,h1,h2,h3,h4,h5⟩:=hI;have hqx:tch[q]? =some tch[q]:=aN hq;obtain⟨hl1,hl2⟩:=ht _<|cH hq
  refine T6 hqx ?_;rw[wrap_add (by omega)]
  refine TZ (UX (λt up'=>∃r E,UF (n+m) up' r/\nv r E/\xC (n+m) r E/\(∀p∈E,Lk n tch p.1 p.2)/\(∀(k:Nat)l(i:Nat),k<q->tch[k]? =some l->((i:Nat):Int)∈l->(i,n+k)∈E)/\∀i:Nat,((i:Nat):Int)∈tch[q].take t->(i,n+q)∈E) (by omega)
   ⟨r,E,h1,h2,h3,h4,h5,λi hi=>by simp at hi⟩ (λt up' htl hI=>?_)) (λup' hI=>OF ?_)
  ·obtain⟨r,E,h1,h2,h3,h4,h5,h6⟩:=hI;refine UW htl ?_;obtain⟨i,hi,e⟩:=hl2 _<|cH htl
   rw[e];obtain⟨u2,a1,a2⟩:=Kr (N:=N) h1 (i:=i) (k:=n+q) (by omega) (by omega) (by omega);refine IT a1<|OF ⟨_,_,a2,h2.join i (n+q)<|h1.rr i (by omega),h3.join (by omega) (by omega),λp hp=>?_,λk l j hk hl hj=>List.mem_append_left _<|h5 k l j hk hl hj,λj hj=>?_⟩
   ·rcases dH.1 hp with hp|hp
    ·exact h4 p hp
    ·simp at hp;subst hp;exact⟨q,tch[q],hqx,by grind,rfl⟩
   ·rw[dQ htl,dH]at hj
    rcases hj with hj|hj
    ·exact List.mem_append_left _<|h6 j hj
    ·rw[lJ,e]at hj;have:j=i:=by omega
     subst this;simp
  ·obtain⟨r,E,h1,h2,h3,h4,h5,h6⟩:=hI;refine⟨r,E,h1,h2,h3,h4,λk l i hk hl hi=>?_⟩
   by_cases hkq:k<q
   ·exact h5 k l i hkq hl hi
   ·have:k=q:=by omega
    subst this;rw[hqx]at hl;injection hl with hl;subst hl
    exact h6 i (by grind)
 obtain⟨up',e,r,E,h1,h2,h3,h4,h5⟩:=base;have hE:∀i j,Lk n tch i j->(i,j)∈E:=λi j⟨k,l,hl,hi,hj⟩=>by
  grind
 exact⟨up',e,r,h1,h1.le,h1.rr,λi j h=>h2 (i,j)<|hE i j h,λS hS i j hi hj=>h3 S (λp hp=>hS p.1 p.2<|h4 p hp) i j hi hj⟩
def ry(bs:List bU)(j:Nat):Bool:=(bs[j]?).any<|λb=>b.fD
def gP(n:Nat)(c:List Nat):List Nat:=c.filter<|λi=>decide<|i<n
def gB(bs:List bU)(n:Nat)(c:List Nat):List Nat:=(c.filter<|λi=> !decide (i<n)&&ry bs (i - n)).map<|λi=>i - n
def Is(bs:List bU)(n:Nat)(c:List Nat):Bool:=decide<|0<(gP n c).length+(gB bs n c).length
def OR(bs:List bU)(n:Nat)(c:List Nat):bW:=⟨ints<|gP n c,ints<|gB bs n c,[]⟩
theorem Kv(n:Nat)(c:List Nat)(i:Nat):gP n (c++[i])=if i<n then gP n c++[i]else gP n c:=by
 unfold gP;grind
theorem Kw(bs:List bU)(n:Nat)(c:List Nat)(i:Nat):gB bs n (c++[i])=if i<n then gB bs n c else if ry bs (i - n)=true then gB bs n c++[i - n]else gB bs n c:=by
 unfold gB;grind
theorem GI(n:Nat)(c:List Nat):(gP n c).length<=c.length:=nA _ _
theorem GJ(bs:List bU)(n:Nat)(c:List Nat):(gB bs n c).length<=c.length:=by unfold gB;grind
def live(bs:List bU)(n t:Nat)(r:Nat->Nat)(hs:List Nat):List Nat:=hs.filter<|λh=>Is bs n<|cls t r h
def mB(bs:List bU)(n t:Nat)(r:Nat->Nat)(hs:List Nat):List bW:=(live bs n t r hs).map<|λh=>OR bs n<|cls t r h
theorem FJ(bs:List bU)(n t:Nat)(r:Nat->Nat)(hs:List Nat)(h:Nat):live bs n t r (hs++[h])=if Is bs n (cls t r h)=true then live bs n t r hs++[h]else live bs n t r hs:=by
 grind [live]
theorem uc(bs:List bU)(n t:Nat)(r:Nat->Nat)(hs:List Nat):(mB bs n t r hs).length=(live bs n t r hs).length:=by simp[mB,eB]
def gi(bs:List bU)(n t:Nat)(r:Nat->Nat)(h:Nat):Nat:=(live bs n t r<|(bP t r).takeWhile<|λx=>decide<|x≠h).length
theorem zo{l:List Nat}(hn:l.Nodup){k h:Nat}(hk:l[k]? =some h):l.takeWhile (λx=>decide<|x≠h)=l.take k:=by
 induction l generalizing k with
 |nil=>simp at hk
 |cons a l ih=>
  cases k with
  |zero=>simp_all
  |succ k=>
   grind [List.nodup_cons,fR,List.takeWhile_cons]
theorem qS(bs:List bU)(n t:Nat)(r:Nat->Nat)(hs:List Nat):(live bs n t r hs).length<=hs.length:=nA _ _
theorem FK{bs:List bU}{n t:Nat}{r:Nat->Nat}{h:Nat}(hh:h∈bP t r)(hne:Is bs n (cls t r h)=true):gi bs n t r h<(live bs n t r<|bP t r).length/\(live bs n t r<|bP t r)[gi bs n t r h]? =some h:=by
 obtain⟨k,hk⟩:=eE hh;have hkl:=(bQ.1 hk).1;unfold gi;rw[zo (mE t r) hk]
 grind [bP,List.take_append_drop,wk,bQ,live]
end
section
variable {N:Nat}
theorem yM{l:List Nat}(h:l.Nodup){i j a:Nat}(hi:l[i]? =some a)(hj:l[j]? =some a):i=j:=
 by grind [List.getElem_inj,bQ]
theorem rF{n i k:Nat}{r:Nat->Nat}:i∈cls n r k↔i<n/\r i=k:=by simp[cls]
theorem Lo(n:Nat)(r:Nat->Nat)(k:Nat):(cls n r k).Nodup:=List.Nodup.sublist List.filter_sublist List.nodup_range
structure RS (bs:List bU) (n m:Nat) (r:Nat->Nat) (hs:List Nat) (ofP ofB:List Int):Prop where
 lp:ofP.length=n
 lb:ofB.length=m
 pc:∀i,i<n->r i∈hs->ofP[i]? =some ((gi bs n (n+m) r (r i):Nat):Int)
 bo:∀j,j<m->r (n+j)∈hs->ofB[j]? =some (if ry bs j=true then((gi bs n (n+m) r (r<|n+j):Nat):Int)else -1)
theorem It{bs:List bU}{n m:Nat}{r:Nat->Nat}(hm:bs.length=m)(hn:n<=1073741824)(hm2:m<=1073741824){op ob:List Int}(hop:op.length=n)(hob:ob.length=m)
  {body:Nat->List bW×List Int×List Int->Option (List bW×List Int×List Int)}
  (hbody:body=(λ(k123:Nat)(s124:List bW×List Int×List Int)=>((idx (t7 (n+m) r) (k123:Int)).bind λx455=>(kR x455.length (λ(k458:Nat)(s459:List Int×List Int×List Int×List Int)=>((idx x455 (k458:Int)).bind λx556=>(bif decide (x556<(n:Int))then((idx s459.1 x556).bind λx580=>(app 8 s459.2.2.1 ([x556]:List Int)).bind λx582=>some (s459.1.set (Int.toNat x556) (s124.1.length:Int),s459.2.1,x582,s459.2.2.2))else((idx bs<|wrap .i64<|x556 -(n:Int)).bind λx584=>(bif x584.fD then((idx s459.2.1<|wrap .i64<|x556 -(n:Int)).bind λx594=>(app 8 s459.2.2.2 ([wrap .i64<|x556 -(n:Int)]:List Int)).bind λx596=>some (s459.2.1.set (Int.toNat<|wrap .i64<|x556 -(n:Int)) (s124.1.length:Int),x596))else((idx s459.2.1<|wrap .i64<|x556 -(n:Int)).bind λx598=>some (s459.2.1.set (Int.toNat<|wrap .i64<|x556 -(n:Int))<|-1,s459.2.2.2))).bind λs592=>some (s459.1,s592.1,s459.2.2.1,s592.2))).bind λs577=>some (s577.1,s577.2.1,s577.2.2.1,s577.2.2.2):Option (List Int×List Int×List Int×List Int))) (s124.2.1,s124.2.2,([]:List Int),([]:List Int))).bind λs459=>(bif decide (wrap .i64 ((s459.2.2.1.length:Int)+(s459.2.2.2.length:Int))>0)then((app 72 s124.1 [(⟨s459.2.2.1,s459.2.2.2,([]:List fz)⟩:bW)]).bind λx610=>some x610)else some s124.1).bind λs606=>some (s606,s459.1,s459.2.1):Option (List bW×List Int×List Int)))):
  Ok (kR (t7 (n+m) r).length body ([],op,ob)) (λst=>st.1=mB bs n (n+m) r (bP (n+m) r)/\RS bs n m r (bP (n+m) r) st.2.1 st.2.2):=by
 subst hbody;have hsl:(t7 (n+m) r).length=(bP (n+m) r).length:=by simp[t7]
 have hhl:=lH (n+m) r;refine Ok.mono (UX (λ(k:Nat)(st:List bW×List Int×List Int)=>st.1=mB bs n (n+m) r ((bP (n+m) r).take k)/\RS bs n m r ((bP (n+m) r).take k) st.2.1 st.2.2) (by omega) ⟨rfl,hop,hob,λi hi h=>by simp at h,λj hj h=>by simp at h⟩<|λk st hk hI=>?_) (λst h=>by grind);obtain⟨gs,ofP,ofB⟩:=st;obtain⟨e1,I⟩:=hI;dsimp only at e1 I ⊢;subst e1;rw[hsl]at hk;have hkx:(bP (n+m) r)[k]? =some (bP (n+m) r)[k]:=aN hk;have hts:(bP (n+m) r).take (k+1)=(bP (n+m) r).take k++[(bP (n+m) r)[k]]:=dQ hk;have hgk:gi bs n (n+m) r (bP (n+m) r)[k]=(mB bs n (n+m) r<|(bP (n+m) r).take k).length:=by
  unfold gi;grind [zo,mE,uc]
 generalize hh:(bP (n+m) r)[k]=h at *;have hsx:(t7 (n+m) r)[k]? =some (ints<|cls (n+m) r h):=by unfold t7;rw[il,hkx];rfl
 refine T6 hsx ?_;have hcl:=A5 (n+m) r h;rw[lf];have hgl:(mB bs n (n+m) r<|(bP (n+m) r).take k).length<=n+m:=by
  grind [uc,qS,bP,dS]
 have hold:∀i∈cls (n+m) r h,∀i',r i'∈(bP (n+m) r).take k->i≠i':=λi hi i' hi' e=>by
  grind [rF,eE,bQ,dS,List.getElem?_take_of_lt,yM,mE]
 refine TZ (P:=λs'=>RS bs n m r ((bP (n+m) r).take (k+1)) s'.1 s'.2.1/\s'.2.2.1=ints (gP n (cls (n+m) r h))/\s'.2.2.2=ints (gB bs n (cls (n+m) r h))) (Ok.mono (UX
  (λ(t:Nat)(s':List Int×List Int×List Int×List Int)=>RS bs n m r ((bP (n+m) r).take k) s'.1 s'.2.1/\s'.2.2.1=ints (gP n ((cls (n+m) r h).take t))/\s'.2.2.2=ints (gB bs n ((cls (n+m) r h).take t))/\
   (∀i∈(cls (n+m) r h).take t,i<n->s'.1[i]? =some ((gi bs n (n+m) r h:Nat):Int))/\∀i∈(cls (n+m) r h).take t,¬i<n->s'.2.1[i - n]? =some (if ry bs (i - n)=true then((gi bs n (n+m) r h:Nat):Int)else -1)) (by omega)
   ⟨I,rfl,rfl,λi hi=>by simp at hi,λi hi=>by simp at hi⟩ (λt s' ht hI'=>?_)) ?_) ?_
 ·obtain⟨oP,oB,pp,bb⟩:=s';obtain⟨J,e2,e3,J1,J2⟩:=hI';dsimp only at J e2 e3 J1 J2 ⊢;subst e2;subst e3;have htx:(ints<|cls (n+m) r h)[t]? =some (((cls (n+m) r h)[t]:Nat):Int):=by unfold ints;rw[il,aN ht];rfl
  refine T6 htx ?_;have htt:(cls (n+m) r h).take (t+1)=(cls (n+m) r h).take t++[(cls (n+m) r h)[t]]:=dQ ht;have hcm:=cH ht;have hdist:∀i∈(cls (n+m) r h).take t,i≠(cls (n+m) r h)[t]:=λi hi e=>by
   obtain⟨j,hj⟩:=eE hi;have hjt:j<t:=by have:=(bQ.1 hj).1;rw[dS]at this;omega
   rw[List.getElem?_take_of_lt hjt]at hj;have:=yM (Lo (n+m) r h) hj (by rw[e];exact aN ht);omega
  generalize (cls (n+m) r h)[t]=c at *;obtain⟨hc1,hc2⟩:=rF.1 hcm;have hgp:=GI n<|(cls (n+m) r h).take t
  have hgb:=GJ bs n<|(cls (n+m) r h).take t
  rw[dS]at hgp hgb
  by_cases hcn:c<n
  ·rw[bY (by omega:((c:Nat):Int)<((n:Nat):Int)),aO];refine TZ (P:=λx=>x=(oP.set c ((gi bs n (n+m) r h:Nat):Int),oB,ints (gP n<|(cls (n+m) r h).take t)++[((c:Nat):Int)],ints<|gB bs n<|(cls (n+m) r h).take t)) ?_ ?_
   ·refine UW (by rw[J.lp];exact hcn)<|UJ (by rw[lf];simp;omega)<|OF ?_
    rw[cO,hgk]
   ·rintro _ rfl;refine OF ⟨⟨by simp[J.lp],J.lb,λi hi hr=>?_,J.bo⟩,?_,?_,λi hi hin=>?_,λi hi hin=>?_⟩
    ·dsimp only;rw[qR (by rw[J.lp];exact hcn),aI<|λe=>hold c hcm i hr e.symm];exact J.pc i hi hr
    ·dsimp only;rw[htt,Kv,aG hcn,sd];rfl
    ·dsimp only;rw[htt,Kw,aG hcn]
    ·dsimp only;rw[qR (by rw[J.lp];exact hcn)];split
     ·rfl
     ·rename_i hne;rw[htt]at hi
      rcases dH.1 hi with hi|hi
      ·exact J1 i hi hin
      ·exact absurd (by simpa using hi) hne
    ·rw[htt]at hi
     rcases dH.1 hi with hi|hi
     ·exact J2 i hi hin
     ·have:i=c:=by simpa using hi
      subst this;exact absurd hcn hin
  ·rw[cD (by omega:¬((c:Nat):Int)<((n:Nat):Int)),aR];have hw:wrap .i64 (((c:Nat):Int) -((n:Nat):Int))=((c - n:Nat):Int):=by rw[gq (by omega) (by omega)];omega
   have hcm2:c - n<bs.length:=by omega
   have hpl:ry bs (c - n)=bs[c - n].fD:=by unfold ry;rw[aN hcm2];rfl
   rw[hw];refine TZ (P:=λx=>x=(oP,oB.set (c - n) (if ry bs (c - n)=true then((gi bs n (n+m) r h:Nat):Int)else -1),ints<|gP n<|(cls (n+m) r h).take t,ints<|gB bs n<|(cls (n+m) r h).take t++[c])) ?_ ?_
   ·refine UW hcm2 ?_;rw[Kw,aI hcn,hpl]
    cases hp:bs[c - n].fD with
    |true=>
     rw[aO,aG rfl,aG rfl];refine IT (x:=(oB.set (c - n) ((gi bs n (n+m) r h:Nat):Int),ints<|gB bs n ((cls (n+m) r h).take t)++[c - n])) ?_<|OF rfl
     rw[mc _ _ (by rw[J.lb];omega),aB,kE (by rw[lf];simp;omega),aB,cO,hgk,sd];rfl
    |false=>
     rw[aR,aI (by simp),aI (by simp)];refine IT (x:=(oB.set (c - n)<|-1,ints<|gB bs n<|(cls (n+m) r h).take t)) ?_<|OF rfl
     rw[mc _ _ (by rw[J.lb];omega),aB,cO]
   ·rintro _ rfl;refine OF ⟨⟨J.lp,by simp[J.lb],J.pc,λj hj hr=>?_⟩,?_,?_,λi hi hin=>?_,λi hi hin=>?_⟩
    ·dsimp only;rw[qR (by rw[J.lb];omega),aI<|λe=>hold c hcm (n+j) hr (by omega)];exact J.bo j hj hr
    ·dsimp only;rw[htt,Kv,aI hcn]
    ·dsimp only;rw[htt]
    ·rw[htt]at hi
     rcases dH.1 hi with hi|hi
     ·exact J1 i hi hin
     ·have:i=c:=by simpa using hi
      subst this;exact absurd hin hcn
    ·dsimp only;rw[qR (by rw[J.lb];omega)];split
     ·rename_i e;rw[e]
     ·rename_i hne;rw[htt]at hi
      rcases dH.1 hi with hi|hi
      ·exact J2 i hi hin
      ·exact absurd (by have:i=c:=(by simpa using hi);rw[this]) hne
 ·rintro⟨oP,oB,pp,bb⟩⟨J,e2,e3,J1,J2⟩;dsimp only at J e2 e3 J1 J2 ⊢;rw[eM]at e2 e3 J1 J2;refine⟨⟨J.lp,J.lb,λi hi hr=>?_,λj hj hr=>?_⟩,e2,e3⟩
  ·rw[hts]at hr
   rcases dH.1 hr with hr|hr
   ·exact J.pc i hi hr
   ·have hr:r i=h:=by simpa using hr
    rw[hr];exact J1 i (rF.2 ⟨by omega,hr⟩) hi
  ·rw[hts]at hr
   rcases dH.1 hr with hr|hr
   ·exact J.bo j hj hr
   ·have hr:r (n+j)=h:=by simpa using hr
    rw[hr];have:=J2 (n+j) (rF.2 ⟨by omega,hr⟩) (by omega);rwa[Nat.add_sub_cancel_left]at this
 ·rintro⟨oP,oB,pp,bb⟩⟨J,e2,e3⟩;dsimp only at J e2 e3 ⊢;subst e2;subst e3;have hgp:=GI n<|cls (n+m) r h
  have hgb:=GJ bs n<|cls (n+m) r h
  rw[lf,lf,wrap_add (by omega)];have hgs:mB bs n (n+m) r ((bP (n+m) r).take<|k+1)=if Is bs n (cls (n+m) r h)=true then mB bs n (n+m) r ((bP (n+m) r).take k)++[OR bs n<|cls (n+m) r h]else mB bs n (n+m) r ((bP (n+m) r).take k):=by
   unfold mB;rw[hts,FJ];split
   ·rw[fW];rfl
   ·rfl
  refine TZ (P:=λx=>x=mB bs n (n+m) r ((bP (n+m) r).take<|k+1)) (Uv (λhb=>?_)<|λhb=>OF ?_)<|λx e=>OF ⟨e,J⟩
  ·have hne:Is bs n (cls (n+m) r h)=true:=bY (by have:=of_decide_eq_true hb;omega);refine UJ (by simp;omega)<|OF ?_
   rw[hgs,aG hne];rfl
  ·have hne:¬Is bs n (cls (n+m) r h)=true:=λh'=>by
    have h1:=of_decide_eq_true h';have h2:=of_decide_eq_false hb;omega
   rw[hgs,aI hne]
end
section
variable {N:Nat}
def dW(n:Nat)(h:eC):Nat:=if h.bU=true then n+h.Number.toNat else h.Number.toNat
structure D8 (bs:List bU) (n m:Nat) (h:eC):Prop where
 num:∃k:Nat,h.Number=((k:Nat):Int)/\(h.bU=true->k<m/\ry bs k=true)/\(h.bU=false->k<n)
theorem B6{bs:List bU}{pcs:List aD}{l:dE}{h:eC}(hh:qw bs pcs l=some h):D8 bs pcs.length bs.length h:=by
 unfold qw at hh
 cases hf:bs.findIdx? (mQ l)with
 |some k=>
  rw[hf]at hh;injection hh with hh;subst hh
  obtain⟨hk,hp,_⟩:=List.findIdx?_eq_some_iff_getElem.1 hf;refine⟨k,rfl,λ_=>⟨hk,?_⟩,λh=>by cases h⟩
  grind [mQ,ry,aN]
 |none=>
  rw[hf]at hh;dsimp only at hh;rw[rB]at hh;obtain⟨k,hk,rfl⟩:=hh;obtain⟨hk,_⟩:=List.findIdx?_eq_some_iff_getElem.1 hk;exact⟨k,rfl,λh=>(by cases h),λ_=>hk⟩
def uy(bs:List bU)(pcs:List aD)(r:Nat->Nat)(l:dE):Option Nat:=(qw bs pcs l).map λh=>gi bs pcs.length (pcs.length+bs.length) r<|r<|dW pcs.length h
def E2(bs:List bU)(pcs:List aD)(r:Nat->Nat)(l:dE):Int:=match uy bs pcs r l with|some g=>((g:Nat):Int)|none=> -1
def gV(gs:List bW)(lg:dE->Option Nat)(ls:List dE):List bW:=gs.mapIdx<|λg x=>{x with fw:=(ls.filter<|λl=>decide<|lg l=some g).map l8}
theorem lW{gs:List bW}{lg:dE->Option Nat}{ls:List dE}{g:Nat}:(gV gs lg ls)[g]? =(gs[g]?).map λx=>{x with fw:=(ls.filter<|λl=>decide<|lg l=some g).map l8}:=by
 simp[gV,List.getElem?_mapIdx]
theorem wR(gs:List bW)(lg:dE->Option Nat)(ls:List dE):(gV gs lg ls).length=gs.length:=by simp[gV,List.length_mapIdx]
theorem zp{gs:List bW}{lg:dE->Option Nat}{ls:List dE}{l:dE}(h:lg l=none):gV gs lg (ls++[l])=gV gs lg ls:=by
 apply List.ext_getElem?
 grind [lW]
theorem Bb{gs:List bW}{lg:dE->Option Nat}{ls:List dE}{l:dE}{k:Nat}{x:bW}(h:lg l=some k)(hx:(gV gs lg ls)[k]? =some x):
  (gV gs lg ls).set k {x with fw:=x.fw++[l8 l]}=gV gs lg (ls++[l]):=by
 apply List.ext_getElem?;intro g;have hk:=(bQ.1 hx).1;rw[ll]
 by_cases e:k=g
 ·subst e
  grind [lW,rB]
 grind [lW]
theorem Iu{bs:List bU}{n t:Nat}{r:Nat->Nat}{i:Nat}(hi:i<n)(ht:i<t):Is bs n (cls t r<|r i)=true:=by
 unfold Is;rw[cY];have:i∈gP n (cls t r<|r i):=lj.2 ⟨rF.2 ⟨ht,rfl⟩,by grind⟩
 grind
theorem Iv{bs:List bU}{n t:Nat}{r:Nat->Nat}{j:Nat}(hp:ry bs j=true)(ht:n+j<t):Is bs n (cls t r<|r<|n+j)=true:=by
 unfold Is;rw[cY];have:j∈gB bs n (cls t r<|r<|n+j):=dO.2 ⟨n+j,lj.2 ⟨rF.2 ⟨ht,rfl⟩,by simp[hp]⟩,by omega⟩
 grind
structure wS (bs:List bU) (ls:List dE) (pcs:List aD) (r:Nat->Nat) (gs:List bW) (ofP ofB jD:List Int) (ji:List eC):Prop where
 conn:CT pcs.length bs.length (cT bs pcs) r
 gs:gs=gV (mB bs pcs.length (pcs.length+bs.length) r<|bP (pcs.length+bs.length) r) (uy bs pcs r) ls
 of:RS bs pcs.length bs.length r (bP (pcs.length+bs.length) r) ofP ofB
 jD:jD=ls.map (E2 bs pcs r)
 ji:ji=ls.map (λl=>(qw bs pcs l).getD ⟨false,0⟩)
theorem yn{bs:List bU}{pcs:List aD}(hp:pcs.length<=1073741824):∀l∈cT bs pcs,l.length<=1073741824/\∀x∈l,∃i:Nat,i<pcs.length/\x=((i:Nat):Int):=by
 grind [cT,B5,iP,lf,pF,Ln]
theorem GK{bs:List bU}{ls:List dE}{pcs:List aD}(hb:kQ bs)(hp:pcs.length<=1000000000)(hr:∀p∈pcs,p.dY.length<=1073741824)(hl:ls.length<=1073741824)(hN:4398046511104<=N):
  Ok (gZ N bs ls pcs (cT bs pcs) [] [] [] []) (λx=>∃r,wS bs ls pcs r x.1 x.2.1 x.2.2.1 x.2.2.2.1 x.2.2.2.2):=by
 have hbl:=hb.len;unfold gZ;rw[wrap_add (by omega)];obtain⟨up0,u1,u2⟩:=yg (N:=N) (n:=pcs.length+bs.length) (by omega);refine IT u1 ?_;refine TZ (FI (n:=pcs.length) (m:=bs.length) (by simp[cT]) (yn (by omega)) (by omega) (by omega) u2 hN) ?_;rintro up1⟨r,v1,v2⟩;refine IT (oO 0 (by omega))<|IT (oO 0 (by omega)) ?_
 obtain⟨up2,w1,_⟩:=NQ (N:=N) v1 (by omega) (by omega);refine IT w1 ?_;refine TZ (It (bs:=bs) (n:=pcs.length) (m:=bs.length) (r:=r) rfl (by omega) (by omega) (op:=List.replicate pcs.length 0) (ob:=List.replicate bs.length 0) (by simp) (by simp) rfl) ?_;rintro⟨gs,ofP,ofB⟩⟨e1,I⟩;dsimp only at e1 I ⊢;subst e1;have hgl:(mB bs pcs.length (pcs.length+bs.length) r<|bP (pcs.length+bs.length) r).length<=pcs.length+bs.length:=by
  grind [uc,qS,bP,lH]
 refine TZ (UX (λ(k:Nat)(st:List bW×List Int×List Int×List Int×List eC)=>st=(gV (mB bs pcs.length (pcs.length+bs.length) r<|bP (pcs.length+bs.length) r) (uy bs pcs r)<|ls.take k,ofP,ofB,(ls.take k).map<|E2 bs pcs r,(ls.take k).map<|λl=>(qw bs pcs l).getD ⟨false,0⟩)) (by omega) ?_<|λk st hk e=>?_) ?_
 ·congr 1;unfold gV;apply List.ext_getElem?;intro g;rw[List.getElem?_mapIdx];unfold mB;rw[il]
  cases(live bs pcs.length (pcs.length+bs.length) r<|bP (pcs.length+bs.length) r)[g]? <;> rfl
 ·subst e;dsimp only;have hts:ls.take (k+1)=ls.take k++[ls[k]]:=dQ hk;refine UW hk<|IT (ME hb (by omega) hr _) ?_
  dsimp only;refine TZ (P:=λx=>x=(gV (mB bs pcs.length (pcs.length+bs.length) r<|bP (pcs.length+bs.length) r) (uy bs pcs r)<|ls.take k++[ls[k]],E2 bs pcs r ls[k])) ?_ ?_
  ·cases hh:qw bs pcs ls[k]with
   |none=>
    refine OF ?_;have h1:uy bs pcs r ls[k]=none:=by unfold uy;rw[hh];rfl
    rw[zp h1];unfold E2;rw[h1]
   |some h=>
    have h1:uy bs pcs r ls[k]=some (gi bs pcs.length (pcs.length+bs.length) r<|r<|dW pcs.length h):=by unfold uy;rw[hh];rfl
    have h2:E2 bs pcs r ls[k]=((gi bs pcs.length (pcs.length+bs.length) r (r<|dW pcs.length h):Nat):Int):=by unfold E2;rw[h1]
    obtain⟨q,q1,q2,q3⟩:=(B6 hh).num;have hix:dW pcs.length h<pcs.length+bs.length/\Is bs pcs.length (cls (pcs.length+bs.length) r<|r<|dW pcs.length h)=true/\iY N ofP ofB h=some ((gi bs pcs.length (pcs.length+bs.length) r (r<|dW pcs.length h):Nat):Int):=by
     unfold iY dW;rw[q1,cO]
     cases hbo:h.bU with
     |true=>
      obtain⟨q4,q5⟩:=q2 hbo;rw[aO,aG rfl];refine⟨by omega,Iv q5 (by omega),?_⟩;have:=I.bo q q4<|iw.2 ⟨by have:=v2.le (pcs.length+q) (by omega);omega,v2.rr _ (by omega)⟩
      rw[aG q5]at this;rw[cG this,aB]
     |false=>
      have q4:=q3 hbo;rw[aR,aI (by simp)];refine⟨by omega,Iu q4 (by omega),?_⟩;have:=I.pc q q4<|iw.2 ⟨by have:=v2.le q (by omega);omega,v2.rr _ (by omega)⟩
      rw[cG this,aB]
    obtain⟨i1,i2,i3⟩:=hix;have hgi:=FK (r:=r) (t:=pcs.length+bs.length) (bs:=bs) (n:=pcs.length) (h:=r<|dW pcs.length h) (iw.2 ⟨by have:=v2.le _ i1;omega,v2.rr _ i1⟩) i2;have hgx:gi bs pcs.length (pcs.length+bs.length) r (r<|dW pcs.length h)<(gV (mB bs pcs.length (pcs.length+bs.length) r<|bP (pcs.length+bs.length) r) (uy bs pcs r)<|ls.take k).length:=by
     rw[wR,uc];exact hgi.1
    rw[h2];dsimp only[Option.getD,Option.isSome];rw[aO];refine IT i3 ?_;generalize gi bs pcs.length (pcs.length+bs.length) r (r<|dW pcs.length h)=g at *;refine UW hgx<|IT (B2 _) ?_
    have hpl:((gV (mB bs pcs.length (pcs.length+bs.length) r<|bP (pcs.length+bs.length) r) (uy bs pcs r)<|ls.take k)[g]).fw.length<=ls.length:=by
     have:=lW (gs:=mB bs pcs.length (pcs.length+bs.length) r<|bP (pcs.length+bs.length) r) (lg:=uy bs pcs r) (ls:=ls.take k) (g:=g);rw[aN hgx]at this;have:=this.symm;rw[rB]at this;obtain⟨y,_,hy⟩:=this;rw[<-hy,eB];have:=nA (λl=>decide<|uy bs pcs r l=some g)<|ls.take k
     rw[dS]at this;omega
    refine UJ (by simp;omega)<|UW hgx<|OF ?_
    rw[cO];congr 1;exact Bb h1<|aN hgx
  ·rintro _ rfl;dsimp only;refine UJ (by simp;omega)<|UJ (by simp;omega)<|OF ?_
   rw[hts,fW,fW];rfl
 ·rintro st rfl;dsimp only;rw[eM];exact OF ⟨r,v2,rfl,I,rfl,rfl⟩
end
section
variable {N:Nat}
theorem B7{p:aD}:∀{cX:List (List<|List aA)}{k:Nat},p∈bM k cX->∃(i:Nat)(ps:List (List aA))(q:List aA),cX[i]? =some ps/\q∈ps/\p= ⟨((k+i:Nat):Int),q,aV q⟩
 | [],k,h=>by cases h
 |ps::cX,k,h=>by
  rcases dH.1 h with h|h
  ·obtain⟨q,hq,rfl⟩:=dO.1 h;exact⟨0,ps,q,rfl,hq,rfl⟩
  ·obtain⟨i,ps',q,h1,h2,h3⟩:=B7 h;refine⟨i+1,ps',q,by grind,h2,?_⟩;rw[h3,show k+1+i=k+(i+1)by omega]
structure rG (a:jO):Prop where
 xG:0<a.aK.length/\a.aK.length<=16
 Tr:∀r∈a.aK,jW r=0
 out:jW a.cU=0
 many:a.cU.length+(a.aK.map List.length).sum<=2000
 Bc:jC a=0
 zq:mY a=0
theorem rG.gb{a:jO}(h:rG a):kQ a.aM:=⟨(ng h.Bc).1,λb hb=>⟨((ng h.Bc).2 b hb).1,((ng h.Bc).2 b hb).2.1⟩⟩
theorem rG.cs{a:jO}(h:rG a):∀r∈a.aK,r.length<=2000/\∀x∈r,EH x:=λr hr=>D4 (r9.1<|h.Tr r hr).1
structure wT (a:jO) (ke:List (List aA)) (cX:List (List (List aA))) (p:aD) (i:Nat) (r:List aH) (s:List aA) (ps:List (List aA)) (u:Nat->Nat) (j k:Nat):Prop where
 TR:a.aK[i]? =some r
 ke:ke[i]? =some s
 cX:cX[i]? =some ps
 dr:wP r (k9 a.aM ((i:Nat):Int)) s
 pt:uI s u ps
 at_:ps[j]? =some p.Set
 head:(bP (aV s).length u)[j]? =some k
 set:tZ (ot (aV s) (aV s).length u k) p.Set
 lim:Ag (vU r++vU (k9 a.aM ((i:Nat):Int))) (j4 r++j4 (k9 a.aM ((i:Nat):Int))) (p.Set.map cK)
 RT:p.cL=((i:Nat):Int)
 OS:p.dY=aV p.Set
theorem Iw{a:jO}{ke:List (List aA)}{cX:List (List<|List aA)}(hg:rG a)(hD:ym a.aK a.aM a.aK.length ke cX){p:aD}(hp:p∈bM 0 cX):∃i r s ps u j k,wT a ke cX p i r s ps u j k:=by
 obtain⟨i,ps,q,h1,h2,rfl⟩:=B7 hp;have hil:i<a.aK.length:=by have:=(bQ.1 h1).1;rw[hD.B4]at this;exact this
 have hc:a.aK[i]? =some a.aK[i]:=aN hil;have hd:ke[i]? =some (ke[i]'(by rw[hD.len];exact hil)):=aN _;have hdr:=hD.dr i _ _ hil hc hd;obtain⟨u,hu⟩:=hD.pt i _ ps hil hd h1;obtain⟨sx,sy⟩:=hdr.small (hg.cs _<|cH hil).2<|λx hx=>(t9 hg.gb _ x hx).1
 obtain⟨j,k,g1,g2,g3,g4⟩:=D7 hu hdr.can hdr.lim sx sy h2;exact⟨i,_,_,ps,u,j,k,hc,hd,h1,hdr,hu,g1,g2,g3,g4,by rw[jr],rfl⟩
theorem wT.Ip{a:jO}{ke:List (List aA)}{cX:List (List<|List aA)}(hg:rG a){p:aD}{i:Nat}{r:List aH}{s:List aA}{ps:List (List aA)}{u:Nat->Nat}{j k:Nat}(h:wT a ke cX p i r s ps u j k):
  p.Set.length<=5000/\(∀b∈p.Set,b.Xs.length<=5000)/\p.dY.length<=5000*5000:=by
 have h1:=(hg.cs r<|fR h.TR).1;have h2:=B3 hg.gb ((i:Nat):Int);rw[h.OS];exact yL (A:=5000) h.set.can h.lim (by grind [dX,tY]) (by grind [dX,mW])
def Ix(a0 a1 b0 b1:Int):Bool:=decide (b0<a1)&&decide (a0<b1)
def Iy(a b:aH):Bool:=Ix a.X0 a.X1 b.X0 b.X1&&Ix a.Y0 a.Y1 b.Y0 b.Y1
theorem D9{a0 a1 b0 b1:Int}(h1: -1000000<=a0/\a0<=1000000)(h2: -1000000<=a1/\a1<=1000000)(h3: -1000000<=b0/\b0<=1000000)(h4: -1000000<=b1/\b1<=1000000):∃n,kM N a0 a1 b0 b1=some n/\0<=n/\(n=0↔Ix a0 a1 b0 b1=true):=by
 unfold kM Ix
 grind [wrap,gq]
theorem PE{a b:aH}(h1:dJ a=true)(h2:dJ b=true):∃n,mj N a b=some n/\(n=0↔Iy a b=true):=by
 have b1:=jg h1;have b2:=jg h2;obtain⟨n,n1,n2,n3⟩:=D9 (N:=N) (a0:=a.X0) (a1:=a.X1) (b0:=b.X0) (b1:=b.X1) (by omega) (by omega) (by omega) (by omega);obtain⟨m,m1,m2,m3⟩:=D9 (N:=N) (a0:=a.Y0) (a1:=a.Y1) (b0:=b.Y0) (b1:=b.Y1) (by omega) (by omega) (by omega) (by omega);unfold mj Iy;rw[n1,aB,m1,aB]
 grind
def ud(x y:bU):Bool:=(decide (x.cB<=y.To)&&decide (y.cB<=x.To))&&Iy (yj x) (yj y)
def sO(a:jO):Prop:=∃(i k:Nat)(x y:bU),k<i/\a.aM[i]? =some x/\a.aM[k]? =some y/\ud x y=true
noncomputable def yo(r:List aH):Option Int:=if jW r≠0 then some (jW r)else none
noncomputable def GL(a:jO):Int:=if 2000<a.cU.length+(a.aK.map List.length).sum then 2 else if jC a≠0 then jC a else if mY a≠0 then mY a else if sO a then 12 else 0
noncomputable def Lp(a:jO):Int:=match a.aK.findSome? yo with|some e=>e|none=>if jW a.cU≠0 then jW a.cU else GL a
noncomputable def kG(a:jO):Int:=if a.aK.length=0 then 9 else if 16<a.aK.length then 2 else Lp a
def P4(ke:List (List aA))(cX:List (List<|List aA)):Prop:=(∀s∈ke,(aV s).length<=2000)/\(bM 0 cX).length<=2000
abbrev Ea:=List (List aH)×List aH×List bU×List dE×List (List aA)×List aD×List (List Int)×List bW×List Int×List Int×List Int×List eC
def OT(a:jO)(x:Option Ea×Int):Prop:=
 (kG a≠0/\x=(none,kG a))\/(kG a=0/\rG a/\¬sO a/\∃ke cX,ym a.aK a.aM a.aK.length ke cX/\
  ((¬P4 ke cX/\x=(none,2))\/(P4 ke cX/\∃r gs ofP ofB jD ji,wS a.aM a.bV (bM 0 cX) r gs ofP ofB jD ji/\
   x=(some (a.aK,a.cU,a.aM,a.bV,ke,bM 0 cX,cT a.aM (bM 0 cX),gs,ofP,ofB,jD,ji),0))))
structure vY (a:jO):Prop where
 cs:a.aK.length<=1048576
 each:∀r∈a.aK,r.length<=1048576
 out:a.cU.length<=1048576
 bs:a.aM.length<=1048576
 ls:a.bV.length<=1048576
 nm:D5 a
theorem Iz{a:jO}(h:bk a<=1048576):vY a:=by
 rw[Mn]at h;have h1:=BN a.aK;have h2:=BN a.cU;have h3:=BN a.aM;have h4:=BN a.bV;refine⟨by omega,λr hr=>?_,by omega,by omega,by omega,λx hx=>?_⟩
 ·have:=Ju hr
  grind [BN]
 ·have:=Ju hx
  grind [Kk,PB]
theorem B8{a:jO}(hs:vY a)(hN:4398046511104<=N):Ok (gG N a) (OT a):=by
 unfold gG;have pe:∀e:Int,e≠0->kG a=e->Ok (some ((none:Option Ea),e)) (OT a):=λe he h=>OF<|.inl ⟨by omega,by rw[h]⟩
 have c1:=hs.cs;refine Uv (λh=>?_)<|λh=>?_
 ·grind [kG]
 have h0:¬a.aK.length=0:=by grind
 refine Uv (λh=>?_)<|λh=>?_
 ·grind [kG]
 have h1:¬16<a.aK.length:=by grind
 have pe1:kG a=Lp a:=by grind [kG]
 have hso:=hs.out;have sumle:∀k,k<=a.aK.length->((a.aK.take k).map List.length).sum<=k*1048576:=by
  intro k
  induction k with
  |zero=>intro _;simp
  |succ k ih=>
   intro hk;have:=ih (by omega);have h2:=hs.each _<|cH (show k<a.aK.length by omega)
   rw[dQ (by omega),fW,List.sum_append]
   grind
 refine TZ (V6 (Go:=λs:Int=>s=((a.cU.length+(a.aK.map List.length).sum:Nat):Int)/\∀r∈a.aK,jW r=0) (Rt:=λx:Option Ea×Int=>∃e,e≠0/\x=(none,e)/\a.aK.findSome? yo=some e)
  (λ(k:Nat)(s:Int)=>s=((a.cU.length+((a.aK.take k).map List.length).sum:Nat):Int)/\∀r∈a.aK.take k,jW r=0) (by omega) ⟨by simp,λr hr=>by simp at hr⟩ (λk s hk hI=>?_) (λs hI=>by grind)) ?_
 ·obtain⟨e,hI⟩:=hI;subst e;have hkx:a.aK[k]? =some a.aK[k]:=aN hk;have hts:a.aK.take (k+1)=a.aK.take k++[a.aK[k]]:=dQ hk;have he:=hs.each _<|cH hk
  refine T6 hkx<|IT (yl (by omega) hN) ?_
  refine Uv (λh=>UZ ?_)<|λh=>Uh ?_
  ·have h:jW a.aK[k]≠0:=by simpa using h
   refine⟨_,h,rfl,?_⟩
   grind [List.findSome?_eq_some_iff,yo,wk,List.take_append_drop]
  ·have h:jW a.aK[k]=0:=by simpa using h
   have:=sumle k (by omega);have hk16:k*1048576<=16*1048576:=Nat.mul_le_mul_right _ (by omega);refine⟨?_,λr hr=>?_⟩
   ·rw[wrap_add (by omega),hts,fW,List.sum_append];simp only[fN,List.map_nil,List.sum_cons,List.sum_nil];congr 1;omega
   ·rw[hts]at hr
    rcases dH.1 hr with hr|hr
    ·exact hI r hr
    ·simp at hr;subst hr;exact h
 intro o ho;refine Uo ho ?_ ?_
 rotate_left
 ·rintro x⟨e,he,rfl,hf⟩;exact pe e he (by rw[pe1];unfold Lp;rw[hf])
 rintro s⟨rfl,hreg⟩;have RZ:a.aK.findSome? yo=none:=List.findSome?_eq_none_iff.2 λr hr=>by unfold yo;rw[aI (by simpa using hreg r hr)]
 have pe2:kG a=if jW a.cU≠0 then jW a.cU else GL a:=by rw[pe1];unfold Lp;rw[RZ]
 refine IT (yl (by omega) hN) ?_;refine Uv (λh=>?_)<|λh=>?_
 ·have h:jW a.cU≠0:=by simpa using h
  exact pe _ h (by rw[pe2,aG h])
 have hout:jW a.cU=0:=by simpa using h
 have pe3:kG a=GL a:=by rw[pe2,aI (by simpa using hout)]
 refine Uv (λh=>?_)<|λh=>?_
 ·have h:2000<a.cU.length+(a.aK.map List.length).sum:=by have:=of_decide_eq_true h;omega
  exact pe 2 (by omega) (by rw[pe3];unfold GL;rw[aG h])
 have hmany:¬2000<a.cU.length+(a.aK.map List.length).sum:=by have:=of_decide_eq_false h;omega
 have hbs:=hs.bs;have hls:=hs.ls;refine IT (EZ (by omega) (by omega) (by omega)) ?_;refine Uv (λh=>?_)<|λh=>?_
 ·have h:jC a≠0:=by simpa using h
  exact pe _ h (by rw[pe3];unfold GL;rw[aI hmany,aG h])
 have hbo:jC a=0:=by simpa using h
 refine IT (E0 (by omega) (by omega) hs.nm (by omega)) ?_;refine Uv (λh=>?_)<|λh=>?_
 ·have h:mY a≠0:=by simpa using h
  exact pe _ h (by rw[pe3];unfold GL;rw[aI hmany,aI (by simpa using hbo),aG h])
 have hla:mY a=0:=by simpa using h
 have hg:rG a:=⟨by omega,hreg,hout,by omega,hbo,hla⟩;have pe4:kG a=if sO a then 12 else 0:=by rw[pe3];unfold GL;rw[aI hmany,aI (by simpa using hbo),aI (by simpa using hla)]
 refine TZ (V6 (Go:=λ_:Unit=>¬sO a) (Rt:=λx:Option Ea×Int=>x=(none,12)/\sO a)
  (λ(k:Nat)(_:Unit)=>∀(i j:Nat)(x y:bU),i<k->j<i->a.aM[i]? =some x->a.aM[j]? =some y->¬ud x y=true) (by omega) (λi j x y h=>by omega) (λk s hk hI=>?_) (λs hI=>?_)) ?_
 ·have hkx:a.aM[k]? =some a.aM[k]:=aN hk;refine T6 hkx<|IT (tJ _ k (by omega)) ?_
  have hgk:=hg.gb.ok _<|cH hk
  refine TZ (V6 (Go:=λ_:Unit=>∀(j:Nat)(y:bU),j<k->a.aM[j]? =some y->¬ud a.aM[k] y=true) (Rt:=λx:Option Ea×Int=>x=(none,12)/\sO a)
   (λ(t:Nat)(_:Unit)=>∀(j:Nat)(y:bU),j<t->a.aM[j]? =some y->¬ud a.aM[k] y=true) (by rw[dS];omega) (λj y h=>by omega) (λt s ht hI2=>?_) (λs hI2 j y hj hy=>hI2 j y (by rw[dS];omega) hy)) ?_
  ·have htk:t<k:=by rw[dS]at ht;omega
   have htx:(a.aM.take k)[t]? =some a.aM[t]:=by rw[List.getElem?_take_of_lt htk];exact aN (by omega)
   have hgt:=hg.gb.ok _<|cH (show t<a.aM.length by omega)
   refine T6 htx ?_;refine IT (x:=ud a.aM[k] a.aM[t]) ?_ ?_
   ·unfold ud
    cases hc:(decide (a.aM[k].cB<=a.aM[t].To)&&decide (a.aM[t].cB<=a.aM[k].To))with
    |false=>rfl
    |true=>
     obtain⟨n,n1,n2⟩:=PE (N:=N) hgk.2 hgt.2;rw[aO,ov hgk.1,aB,ov hgt.1,aB,n1,aB,Bool.true_and];congr 1;rw[jq,beq_iff_eq];exact n2
   ·refine Uv (λh=>UZ ⟨rfl,k,t,_,_,htk,hkx,aN (by omega),h⟩)<|λh=>Uh λj y hj hy=>?_
    by_cases e:j<t
    ·exact hI2 j y e hy
    ·have:j=t:=by omega
     subst this;rw[aN (by omega)]at hy;injection hy with hy
     rw[<-hy,h];simp
  ·intro o ho;refine Uo ho (λs hI2=>Uh λi j x y hi hj hx hy=>?_)<|λx hx=>UZ hx
   by_cases e:i<k
   ·exact hI i j x y e hj hx hy
   ·have:i=k:=by omega
    subst this;rw[hkx]at hx;injection hx with hx
    rw[<-hx];exact hI2 j y hj hy
 ·rintro⟨i,j,x,y,hj,hx,hy,hc⟩;exact hI i j x y (bQ.1 hx).1 hj hx hy hc
 intro o ho;refine Uo ho ?_ ?_
 rotate_left
 ·rintro x⟨rfl,hc⟩;exact pe 12 (by omega) (by rw[pe4,aG hc])
 intro _ hncl;have pe5:kG a=0:=by rw[pe4,aI hncl]
 refine TZ (JG (N:=N) (by omega) hg.cs hg.gb hN) ?_;rintro⟨okk,ke,pcs⟩⟨cX,D,e1,e2⟩;dsimp only at D e1 e2 ⊢;subst e1;refine Uv (λh=>OF<|.inr ⟨pe5,hg,hncl,ke,cX,D, .inl ⟨λhf=>?_,rfl⟩⟩)<|λh=>?_
 ·have:=e2.2 hf;rw[this]at h;cases h
 ·have hf:P4 ke cX:=e2.1 (by cases okk <;> simp_all);have hpr:∀p∈bM 0 cX,p.dY.length<=1073741824:=λp hp=>by
   obtain⟨i,r,s,ps,u,j,k,hP⟩:=Iw hg D hp;have:=(hP.Ip hg).2.2;omega
  have hf2:=hf.2;refine IT (MD hg.gb (by omega) hpr) ?_;refine TZ (GK (N:=N) hg.gb (by omega) hpr (by omega) hN) ?_;rintro⟨gs,ofP,ofB,jD,ji⟩⟨r,hC⟩;exact OF<|.inr ⟨pe5,hg,hncl,ke,cX,D, .inr ⟨hf,r,gs,ofP,ofB,jD,ji,hC,rfl⟩⟩
end
section
variable {N:Nat}
theorem Kx{w:Nat}{g:Nat->Nat}{a:Nat}:∀{ks:List Nat},ks.Nodup->a∈ks->(ks.map<|λk=>(if a=k then w else 0)+g k).sum=w+(ks.map g).sum
 | [],_,h=>by cases h
 |k::ks,hn,h=>by
  have hn':=List.nodup_cons.1 hn;simp only[fN,List.sum_cons]
  by_cases e:a=k
  ·subst e;rw[aG rfl];have:ks.map (λk=>(if a=k then w else 0)+g k)=ks.map g:=List.map_congr_left λx hx=>by
    rw[aI<|λe=>hn'.1 (by rw[e];exact hx),jr]
   rw[this];omega
  ·rw[aI e,Kx hn'.2 (by rcases eH.1 h with h|h;exact absurd h e;exact h)];omega
theorem IA{α:Type}{ks:List Nat}(hn:ks.Nodup)(f w:α->Nat):∀{l:List α},(∀x∈l,f x∈ks)->(ks.map<|λk=>((l.filter<|λx=>decide<|f x=k).map w).sum).sum=(l.map w).sum
 | [],_=>by
  have:∀ks:List Nat,(ks.map<|λ_=>0).sum=0:=λks=>by
   induction ks with
   |nil=>rfl
   |cons k ks ih=>simp only[fN,List.sum_cons,ih]
  simpa using this ks
 |x::l,h=>by
  have ih:=IA hn f w (l:=l) λy hy=>h y<|jo _ hy
  have:ks.map (λk=>(((x::l).filter<|λx=>decide<|f x=k).map w).sum)=ks.map (λk=>(if f x=k then w x else 0)+((l.filter<|λx=>decide<|f x=k).map w).sum):=List.map_congr_left λk _=>by
   rw[List.filter_cons]
   by_cases e:f x=k
   ·rw[aG (by simpa using e),aG e,fN,List.sum_cons]
   ·rw[aI (by simpa using e),aI e,jr]
  rw[this,Kx hn<|h x (by simp),ih,fN,List.sum_cons]
def Ky(s:List aA):dU:=match s with|b::_=>⟨b.Xs.headD 0,b.Y0⟩| []=>⟨0,0⟩
theorem wT.ne{a:jO}{ke:List (List aA)}{cX:List (List<|List aA)}{p:aD}{i:Nat}{r:List aH}{s:List aA}{ps:List (List aA)}{u:Nat->Nat}{j k:Nat}(h:wT a ke cX p i r s ps u j k):p.Set≠[]:=by
 intro e;have hh:=iw.1<|fR h.head
 have hx:(aV s)[k]? =some (aV s)[k]:=aN hh.1;have hm:(aV s)[k]∈ot (aV s) (aV s).length u k:=mz.2 ⟨k,hh.1,hh.2,hx⟩;obtain⟨b,hb,q,hq,hr⟩:=ru<|fR hx
 have hbm:cK b∈s.map cK:=dO.2 ⟨b,hb,rfl⟩;have hq1:=GB (h.dr.can.each _ hbm).2.2.1 q hq;have hb1:=(h.dr.can.each _ hbm).1;have hc:=h.set.cover q.1 b.Y0;rw[e]at hc;have:uH (ot (aV s) (aV s).length u k) q.1 b.Y0=true:=kq.2 ⟨_,hm,by rw[hr];exact⟨⟨Int.le_refl _,hq1⟩,Int.le_refl _,hb1⟩⟩;rw[this]at hc
 cases hc
structure jh (a:jO) (ke:List (List aA)) (cX:List (List (List aA))) (r:Nat->Nat) (gs:List bW) (ofP ofB jD:List Int) (ji:List eC):Prop where
 xD:rG a
 TS:¬sO a
 dr:ym a.aK a.aM a.aK.length ke cX
 xG:P4 ke cX
 yp:wS a.aM a.bV (bM 0 cX) r gs ofP ofB jD ji
inductive PF (N:Nat) (a:jO):Prop
 |err (e:Int) (he:e≠0) (h:gG N a=some (none,e))
 |ok {ke:List (List aA)} {cX:List (List (List aA))} {r:Nat->Nat} {gs:List bW} {ofP ofB jD:List Int} {ji:List eC} (b:jh a ke cX r gs ofP ofB jD ji)
  (h:gG N a=some (some (a.aK,a.cU,a.aM,a.bV,ke,bM 0 cX,cT a.aM<|bM 0 cX,gs,ofP,ofB,jD,ji),0))
theorem opened{a:jO}(hs:vY a)(hN:4398046511104<=N):PF N a:=by
 obtain⟨x,hx,hI⟩:=B8 (N:=N) hs hN
 rcases hI with⟨he,rfl⟩|⟨_,hg,hcl,ke,cX,D,⟨_,rfl⟩|⟨hf,r,gs,ofP,ofB,jD,ji,hC,rfl⟩⟩
 ·exact .err _ he hx
 ·exact .err 2 (by omega) hx
 ·exact .ok ⟨hg,hcl,D,hf,hC⟩ hx
end
section
variable {S R:Type}
theorem UE{body:S->Option (Fl S R)}{N n:Nat}{s:S}(ι:S->Int)(Inv:Nat->S->Prop){Go:S->Prop}{Rt:R->Prop}
  (h1:∀k s,k<n->ι s=((k:Nat):Int)->Inv k s->Ok (body s) (Nf (λs'=>ι s'=((k+1:Nat):Int)/\Inv (k+1) s') Go Rt))
  (h2:∀s,ι s=((n:Nat):Int)->Inv n s->Ok (body s) (Nf (λ_=>False) Go Rt))
  {k0:Nat} (hk:k0<=n) (hi:ι s=((k0:Nat):Int)) (h0:Inv k0 s) (hn:n<N):Ok (Gk.iD body N s) (RM Go Rt):=by
 refine U5 (λs=>∃k:Nat,k<=n/\ι s=((k:Nat):Int)/\Inv k s) (λs=>n -(ι s).toNat) ?_ ⟨k0,hk,hi,h0⟩ (by omega);rintro s⟨k,hk,e,hI⟩
 by_cases hlt:k<n
 ·refine(h1 k s hlt e hI).mono ?_;rintro(s'|s'|r)hp
  ·have hp1:ι s'=((k+1:Nat):Int):=hp.1;exact⟨⟨k+1,hlt,hp.1,hp.2⟩,by omega⟩
  ·exact hp
  ·exact hp
 grind
theorem iR{k n:Nat}(h:k<n):decide (((k:Nat):Int)<((n:Nat):Int))=true:=bY (by omega)
theorem l6(n:Nat):decide (((n:Nat):Int)<((n:Nat):Int))=false:=cD (by omega)
theorem Be{k n:Nat}(h:n<=k):decide (((k:Nat):Int)<((n:Nat):Int))=false:=cD (by omega)
end
theorem ti{α:Type}{p:α->Bool}:∀{l:List α}{k:Nat},(∀(j:Nat)x,j<k->l[j]? =some x->p x=true)->(∀x,l[k]? =some x->p x=false)->l.takeWhile p=l.take k/\l.dropWhile p=l.drop k
 | [],k,_,_=>by simp
 |y::l,0,_,h2=>by
  have:=h2 y rfl;rw[List.takeWhile_cons,List.dropWhile_cons,this];simp
 |y::l,k+1,h1,h2=>by
  have h:=h1 0 y (by omega) rfl;obtain⟨e1,e2⟩:=ti (l:=l) (k:=k) (λj x hj hx=>h1 (j+1) x (by omega) hx)<|λx hx=>h2 x hx
  rw[List.takeWhile_cons,List.dropWhile_cons,h,aG rfl,aG rfl,e1,e2];simp
section
variable {N:Nat}
def tj(l:List Int)(c:Int):List Int:=if c∈l then l else l.takeWhile (λx=>decide<|x<c)++c::l.dropWhile (λx=>decide<|x<c)
theorem Bf(l:List Int)(c:Int):(tj l c).length<=l.length+1:=by
 grind [tj,decide,dX,List.takeWhile_append_dropWhile,eI]
theorem Eb{l:List Int}{c x:Int}:x∈tj l c↔x∈l\/x=c:=by
 grind [tj,decide,List.takeWhile_append_dropWhile]
theorem NS{l:List Int}(h:j5 l)(c:Int):∀x∈l.dropWhile (λx=>decide<|x<c),c<=x:=by
 induction l with
 |nil=>simp
 |cons a l ih=>
  rw[List.dropWhile_cons]
  by_cases ha:a<c
  ·rw[aG (by grind)];exact ih h.tail
  ·rw[aI (by grind)];intro x hx
   rcases eH.1 hx with rfl|hx
   ·omega
   ·have:=h.head x hx;omega
theorem NT(l:List Int)(c:Int):∀x∈l.takeWhile (λx=>decide<|x<c),x<c:=by
 induction l with
 |nil=>simp
 |cons a l ih=>
  rw[List.takeWhile_cons]
  grind
theorem vZ{l:List Int}{c:Int}(h:j5 l):j5 (tj l c):=by
 unfold tj;split
 ·exact h
 ·rename_i hc;have hs:=h;rw[<-List.takeWhile_append_dropWhile (p:=λx=>decide<|x<c) (l:=l)]at hs;unfold j5 at hs ⊢;rw[List.pairwise_append]at hs ⊢;refine⟨hs.1,pI.2 ⟨λx hx=>?_,hs.2.1⟩,λx hx y hy=>?_⟩
  ·have h1:=NS h c x hx
   grind [List.takeWhile_append_dropWhile,decide,List.mem_append_right]
  ·have h1:=NT l c x hx
   grind
def ly(l:List Int):List Int:=l.foldl tj []
theorem wU:∀(cs l:List Int),j5 l->j5 (cs.foldl tj l)/\(∀x,x∈cs.foldl tj l↔x∈l\/x∈cs)/\(cs.foldl tj l).length<=l.length+cs.length
 | [],l,h=>⟨h,λx=>by simp,by simp⟩
 |c::cs,l,h=>by
  obtain⟨h1,h2,h3⟩:=wU cs (tj l c)<|vZ h
  refine⟨h1,λx=>?_,?_⟩
  ·rw[List.foldl_cons,h2,Eb,eH,or_assoc]
  ·rw[List.foldl_cons,eI];have:=Bf l c;omega
theorem oS(l:List Int):j5 (ly l):=(wU l [] kg).1
theorem FL{l:List Int}{x:Int}:x∈ly l↔x∈l:=by
 have:=(wU l [] kg).2.1 x
 grind [ly]
theorem v7(l:List Int):(ly l).length<=l.length:=by
 have:=(wU l [] kg).2.2
 grind [ly]
theorem yq(l:List Int)(c d:Int):ly (l++[c,d])=tj (tj (ly l) c) d:=by simp[ly,List.foldl_append]
theorem JH{a b:Nat}(h:a+b<=4611686018427387904):wrap .i64 (Int.tdiv (wrap .i64<|((a:Nat):Int)+((b:Nat):Int)) 2)=(((a+b) / 2:Nat):Int):=by
 grind [wrap_add,Int.tdiv_eq_ediv_of_nonneg,gq]
theorem yN{l:List Int}{c:Int}(h:j5 l)(hl:l.length<=1099511627776)(hN:4398046511104<=N):fZ N l c=some (tj l c):=by
 refine UU ?_;unfold fZ
 refine TZ (U5 (Go:=λst:Int×Int=>∃a:Nat,st.1=((a:Nat):Int)/\a<=l.length/\(∀(j:Nat)x,j<a->l[j]? =some x->x<c)/\(∀(j:Nat)x,a<=j->l[j]? =some x->c<=x)) (Rt:=λ_=>True)
  (λst=>∃a b:Nat,st=(((a:Nat):Int),((b:Nat):Int))/\a<=b/\b<=l.length/\(∀(j:Nat)x,j<a->l[j]? =some x->x<c)/\(∀(j:Nat)x,b<=j->l[j]? =some x->c<=x))
  (λst=>(st.2 - st.1).toNat) ?_ ⟨0,l.length,rfl,by omega,cJ _,λj x hj=>by omega,λj x hj hx=>by grind⟩ (by omega)) ?_
 ·rintro st⟨a,b,rfl,hab,hb,h1,h2⟩;dsimp only
  by_cases hlt:a<b
  ·have hm:(a+b) / 2<l.length:=by omega
   have hx:l[(a+b) / 2]? =some l[(a+b) / 2]:=aN hm;rw[iR hlt,aO,JH (by omega)];refine T6 hx ?_
   by_cases hc:l[(a+b) / 2]<c
   ·rw[bY hc,aO,aB];refine Uh ⟨⟨(a+b) / 2+1,b,?_,by omega,hb,λj x hj hx'=>?_,h2⟩,?_⟩
    ·rw[bE (by omega)]
    ·by_cases e:j=(a+b) / 2
     ·grind
     ·have:=h.lt (i:=j) (j:=(a+b) / 2) (by omega) hx' hx;omega
    ·rw[bE (by omega)];omega
   ·rw[cD hc,aR,aB];refine Uh ⟨⟨a,(a+b) / 2,rfl,by omega,by omega,h1,λj x hj hx'=>?_⟩,by simp only;omega⟩
    by_cases e:j=(a+b) / 2
    ·subst e;rw[hx]at hx';injection hx' with hx';omega
    ·have:=h.lt (i:=(a+b) / 2) (j:=j) (by omega) hx hx';omega
  ·rw[Be (by omega),aR];exact Un ⟨a,rfl,by omega,h1,λj x hj hx=>h2 j x (by omega) hx⟩
 intro o ho;refine Uo ho ?_<|λr hr=>r.elim
 rintro⟨st1,st2⟩⟨a,ha,hle,h1,h2⟩;dsimp only at ha ⊢;subst ha;have hin:l[a]? =some c->tj l c=l:=λhx=>by unfold tj;rw[aG<|fR hx]
 have hout:l[a]? ≠some c->tj l c=l.take a++c::l.drop a:=λhx=>by
  have hc:c∉l:=λhc=>by
   obtain⟨j,hj⟩:=eE hc
   by_cases h3:j<a
   ·have:=h1 j c h3 hj;omega
   ·by_cases e:j=a
    ·subst e;exact hx hj
    ·have h5:a<l.length:=by have:=(bQ.1 hj).1;omega
     have h6:l[a]? =some l[a]:=aN h5;have h7:=h.lt (i:=a) (j:=j) (by omega) h6 hj;have h8:=h2 a _ (cJ _) h6;omega
  unfold tj;rw[aI hc];obtain⟨e1,e2⟩:=ti (p:=λx=>decide<|x<c) (l:=l) (k:=a) (λj x hj hx'=>bY<|h1 j x hj hx')<|λx hx'=>cD (by have:=h2 a x (cJ _) hx';omega)
  rw[e1,e2]
 have hrest:l[a]? ≠some c->Ok ((vh l 0 ((a:Nat):Int)).bind λx49=>(app 8 ([]:List Int) x49).bind λx51=>(app 8 x51 ([c]:List Int)).bind λx54=>(vh l ((a:Nat):Int) ((l.length:Nat):Int)).bind λx56=>(app 8 x54 x56).bind λx58=>some x58) (λr=>r=tj l c):=λhx=>by
  have htk:(l.take a).length=a:=by rw[dS];omega
  refine IT (tJ l a hle)<|UJ (by simp only[List.length_nil];omega)<|UJ (by rw[List.nil_append];simp only[eI,List.length_nil];omega)<|IT (rS l a hle)<|UJ ?_<|OF ?_
  ·rw[List.nil_append,dX,l9];simp only[eI,List.length_nil];omega
  ·rw[hout hx];simp
 by_cases hlt:a<l.length
 ·have hx:l[a]? =some l[a]:=aN hlt;rw[iR hlt,aO,cG hx,aB,aB];refine Uv (λhb=>OF ?_)<|λhb=>hrest ?_
  ·rw[beq_iff_eq]at hb;rw[hin (by rw[hx,hb])]
  ·rw[beq_eq_false_iff_ne]at hb;rw[hx];intro e;injection e with e;exact hb e
 ·rw[Be (by omega),aR,aB,aR];exact hrest (by rw[List.getElem?_eq_none (by omega)];intro e;cases e)
theorem IB(l m:List aH):j4 (l++m)=j4 l++j4 m:=List.flatMap_append
theorem Ec{l:List aH}(hl:l.length<=268435456)(hN:4398046511104<=N):iI N l=some (ly<|j4 l):=by
 refine UU ?_;unfold iI;refine TZ (UE (n:=l.length) (λs=>s.2) (λk s=>s.1=ly (j4<|l.take k)) (Go:=λs=>s.1=ly (j4 l)) (Rt:=λ_=>False) ?_ ?_ (cS _) rfl rfl (by omega)) ?_
 ·rintro k⟨out,i⟩hk e hI;dsimp only at e hI ⊢;subst e;subst hI;rw[iR hk,aO];have hx:l[k]? =some l[k]:=aN hk;have h1:=v7<|j4<|l.take k
  rw[mW,dS]at h1;have h2:=Bf (ly<|j4<|l.take k) l[k].Y0;refine T6 hx<|T6 hx<|IT (yN (oS _) (by omega) hN)<|IT (yN (vZ<|oS _) (by omega) hN)<|Uh ⟨bE (by omega),?_⟩
  rw[dQ hk,IB];exact(yq _ _ _).symm
 ·rintro⟨out,i⟩e hI;dsimp only at e hI ⊢;subst e;rw[l6,aR];exact Un (by rw[eM]at hI;exact hI)
 intro o ho;exact Uo ho (λs hs=>OF hs)<|λr hr=>hr.elim
def sp(s:aF):Int×Int:=(s.from_,s.to)
theorem MF:∀{l m:List aF},l.map sp=m.map sp->l=m
 | [],[],_=>rfl
 | [],_::_,h=>by cases h
 |_::_,[],h=>by cases h
 |⟨a,b⟩::l,⟨c,d⟩::m,h=>by
  rw[fN,fN]at h;injection h with h1 h2
  unfold sp at h1;injection h1 with h3 h4
  simp only at h3 h4;rw[h3,h4,MF h2]
theorem yO(a b:Int):(if b<a then b else a)=min a b:=by omega
theorem rH(a b:Int):(if a<b then b else a)=max a b:=by omega
theorem FM{l:List aF}{s:aF}(hl:l.length<=268435456)(hN:4398046511104<=N):Ok (i5 N l s) (λr=>r.map sp=mN (l.map sp) (sp s)):=by
 unfold i5;have hget:∀(j:Nat)(x:Int×Int),(l.map sp)[j]? =some x->∃y,l[j]? =some y/\x=sp y:=λj x h=>by
  grind
 refine TZ (U5 (Go:=λst:List aF×Int=>∃k:Nat,st=(l.take k,((k:Nat):Int))/\k<=l.length/\(∀(j:Nat)x,j<k->l[j]? =some x->x.to<s.from_)/\(∀x,l[k]? =some x->¬x.to<s.from_)) (Rt:=λ_=>False)
  (λst=>∃k:Nat,st=(l.take k,((k:Nat):Int))/\k<=l.length/\∀(j:Nat)x,j<k->l[j]? =some x->x.to<s.from_) (λst=>l.length - st.2.toNat) ?_ ⟨0,by simp,by omega,λj x hj=>by omega⟩ (by simp;omega)) ?_
 ·rintro st⟨k,rfl,hk,hI⟩;dsimp only
  by_cases hlt:k<l.length
  ·have hx:l[k]? =some l[k]:=aN hlt;rw[iR hlt,aO,cG hx,aB,aB];refine Uv (λhb=>?_)<|λhb=>?_
   ·have hb:=of_decide_eq_true hb;refine IT rfl<|UJ ?_<|Uh ⟨⟨k+1,?_,hlt,?_⟩,?_⟩
    ·grind
    all_goals grind [bE,dQ,cO]
   grind [of_decide_eq_false,Un]
  grind [Be,aB,Un,bQ]
 intro o ho;refine Uo ho ?_<|λr hr=>hr.elim
 rintro st⟨k,rfl,hk,hI,hE⟩;dsimp only
 obtain⟨e1,e2⟩:=ti (p:=λa:Int×Int=>decide (a.2<(sp s).1)) (l:=l.map sp) (k:=k) (λj x hj hx=>by
  obtain⟨y,hy,rfl⟩:=hget j x hx
  exact bY (hI j y hj hy)) (λx hx=>by
  obtain⟨y,hy,rfl⟩:=hget k x hx
  exact cD (hE y hy))
 refine TZ (U5 (Go:=λst:aF×Int=>∃i:Nat,st.2=((i:Nat):Int)/\i<=l.length/\lB (sp s) ((l.drop k).map sp)=(sp st.1,(l.drop i).map sp)) (Rt:=λ_=>False)
  (λst=>∃i:Nat,st.2=((i:Nat):Int)/\i<=l.length/\lB (sp s) ((l.drop k).map sp)=lB (sp st.1) ((l.drop i).map sp)) (λst=>l.length - st.2.toNat) ?_ ⟨k,rfl,hk,rfl⟩ (by omega)) ?_
 ·rintro⟨s',i'⟩⟨i,e,hi,hm⟩;dsimp only at e hm ⊢;subst e
  by_cases hlt:i<l.length
  ·have hx:l[i]? =some l[i]:=aN hlt;have hd:(l.drop i).map sp=sp l[i]::(l.drop<|i+1).map sp:=by rw[wk hlt,fN]
   rw[iR hlt,aO,cG hx,aB,aB];refine Uv (λhb=>?_)<|λhb=>?_
   ·have hb:=of_decide_eq_true hb;refine IT rfl<|IT rfl<|Uh ⟨⟨i+1,bE (by omega),hlt,?_⟩,?_⟩
    ·rw[hm,hd]
     conv=>lhs;unfold lB
     rw[aG (show(sp l[i]).1<=(sp s').2 from hb),yO,rH];rfl
    ·dsimp only;rw[bE (by omega)];simp only[cO];omega
   ·have hb:=of_decide_eq_false hb;refine Un ⟨i,rfl,hi,?_⟩;rw[hm,hd]
    conv=>lhs;unfold lB
    rw[aI (show ¬(sp l[i]).1<=(sp s').2 from hb)]
  ·rw[Be (by omega),aR,aB,aR];refine Un ⟨i,rfl,hi,?_⟩;rw[hm,List.drop_eq_nil_of_le (by omega)];rfl
 intro o ho;refine Uo ho ?_<|λr hr=>hr.elim
 rintro⟨s',i'⟩⟨i,e,hi,hm⟩;dsimp only at e hm ⊢;subst e;refine UJ ?_<|IT (rS l i hi)<|UJ ?_<|OF ?_
 ·rw[dS];simp only[eI,List.length_nil];omega
 ·rw[dX,dS,l9];simp only[eI,List.length_nil];omega
 ·unfold mN;rw[e1,e2,<-List.map_take,<-List.map_drop,hm];simp
theorem Ed:∀(l:List (Int×Int))(s:Int×Int),(lB s l).2.length<=l.length
 | [],s=>cJ _
 |a::l,s=>by
  unfold lB;split
  ·have:=Ed l (min s.1 a.1,max s.2 a.2);rw[eI];omega
  ·exact cJ _
theorem Cy(l:List (Int×Int))(s:Int×Int):(mN l s).length<=l.length+1:=by
 grind [mN,Ed,decide,dX,List.takeWhile_append_dropWhile,eI]
def ku(y:Int)(out:List (Int×Int))(r:aH):List (Int×Int):=if r.Y0<=y/\y<r.Y1 then mN out (r.X0,r.X1)else out
def mR(l:List aH)(y:Int):List (Int×Int):=l.foldl (ku y) []
theorem Lq(l:List aH)(r:aH)(y:Int):mR (l++[r]) y=ku y (mR l y) r:=by simp[mR,List.foldl_append]
theorem Cz(y:Int):∀(l:List aH)(out:List (Int×Int)),(l.foldl (ku y) out).length<=out.length+l.length
 | [],out=>by simp
 |r::l,out=>by
  rw[List.foldl_cons,eI];have h1:=Cz y l<|ku y out r
  have h2:(ku y out r).length<=out.length+1:=by
   unfold ku;split
   ·exact Cy _ _
   ·omega
  omega
theorem v8(l:List aH)(y:Int):(mR l y).length<=l.length:=by
 grind [Cz,mR]
theorem Bg(y:Int):∀(l:List aH)(out:List (Int×Int)),(∀r∈l,r.X0<r.X1)->j5 (dT out)->j5 (dT<|l.foldl (ku y) out)/\∀x,j3 (l.foldl (ku y) out) x=(j3 out x||uH l x y)
 | [],out,_,h=>⟨h,λx=>by simp[uH]⟩
 |r::l,out,hr,h=>by
  have h0:=hr r (by simp);rw[List.foldl_cons];have hst:j5 (dT<|ku y out r)/\∀x,j3 (ku y out r) x=(j3 out x||((decide (r.X0<=x)&&decide (x<r.X1))&&(decide (r.Y0<=y)&&decide (y<r.Y1)))):=by
   unfold ku
   by_cases hy:r.Y0<=y/\y<r.Y1
   ·rw[aG hy];obtain⟨j1,j2⟩:=A3 (l:=out) (s:=(r.X0,r.X1)) h h0;refine⟨j1,λx=>?_⟩;rw[j2,bY hy.1,bY hy.2,Bool.or_comm];simp
   ·rw[aI hy];refine⟨h,λx=>?_⟩;have:(decide (r.Y0<=y)&&decide (y<r.Y1))=false:=by rw[Bool.and_eq_false_iff,decide_eq_false_iff_not,decide_eq_false_iff_not];omega
    rw[this];simp
  obtain⟨m1,m2⟩:=Bg y l (ku y out r) (λr' hr'=>hr r'<|jo _ hr') hst.1;refine⟨m1,λx=>?_⟩;rw[m2,hst.2,Bool.or_assoc];rfl
theorem yP{l:List aH}(h:∀r∈l,r.X0<r.X1)(y:Int):j5 (dT<|mR l y)/\∀x,j3 (mR l y) x=uH l x y:=by
 obtain⟨h1,h2⟩:=Bg y l [] h kg
 grind [j3,mR]
theorem zu{y y':Int}:∀(l:List aH)(out:List (Int×Int)),(∀r∈l,(r.Y0<=y/\y<r.Y1)↔(r.Y0<=y'/\y'<r.Y1))->l.foldl (ku y) out=l.foldl (ku y') out
 | [],out,_=>rfl
 |r::l,out,h=>by
  rw[List.foldl_cons,List.foldl_cons,zu l _<|λr' hr'=>h r'<|jo _ hr'];congr 1;unfold ku;have:=h r (by simp)
  by_cases h1:r.Y0<=y/\y<r.Y1
  ·rw[aG h1,aG<|this.1 h1]
  ·rw[aI h1,aI<|λh2=>h1<|this.2 h2]
theorem JI{l:List aH}{y y':Int}(h:∀r∈l,(r.Y0<=y/\y<r.Y1)↔(r.Y0<=y'/\y'<r.Y1)):mR l y=mR l y':=zu l [] h
theorem MG{l:List aH}{y:Int}(h:∀r∈l,¬(r.Y0<=y/\y<r.Y1)):mR l y= []:=by
 have:∀(l:List aH)(out:List (Int×Int)),(∀r∈l,¬(r.Y0<=y/\y<r.Y1))->l.foldl (ku y) out=out:=by
  intro l
  induction l with
  |nil=>simp
  |cons r l ih=>
   grind [jo,ku]
 exact this l [] h
theorem GM{l:List aH}{y:Int}(hl:l.length<=134217728)(hN:4398046511104<=N):Ok (iF N l y) (λr=>r.map sp=mR l y):=by
 unfold iF;refine TZ (UE (n:=l.length) (λs=>s.2) (λk s=>s.1.map sp=mR (l.take k) y) (Go:=λs=>s.1.map sp=mR l y) (Rt:=λ_=>False) ?_ ?_ (cS _) rfl rfl (by omega)) ?_
 ·rintro k⟨out,i⟩hk e hI;dsimp only at e hI ⊢;subst e;rw[iR hk,aO];have hx:l[k]? =some l[k]:=aN hk;have hlen:out.length<=l.length:=by
   grind [v8,eB,dS]
  rw[cG hx,aB];have hst:mR (l.take<|k+1) y=ku y (mR (l.take k) y) l[k]:=by rw[dQ hk,Lq]
  have hno:¬(l[k].Y0<=y/\y<l[k].Y1)->Ok ((some out).bind λs141=>some (Fl.nx (s141,wrap .i64<|((k:Nat):Int)+1):Fl (List aF×Int) Empty)) (Nf (λs'=>s'.2=((k+1:Nat):Int)/\s'.1.map sp=mR (l.take<|k+1) y) (λs=>s.1.map sp=mR l y)<|λ_=>False):=λhy=>by
   grind [aB,Uh,bE,ku]
  by_cases h1:l[k].Y0<=y
  ·rw[bY h1,aO,aB,aB]
   by_cases h2:y<l[k].Y1
   ·rw[bY h2,aO];refine TZ (P:=λr:List aF=>r.map sp=mR (l.take<|k+1) y) (IT rfl<|IT rfl<|TZ (FM (by omega) hN)<|λr hr=>OF ?_)<|λr hr=>Uh ⟨bE (by omega),hr⟩
    rw[hr,hI,hst];unfold ku;rw[aG ⟨h1,h2⟩];rfl
   ·rw[cD h2,aR];exact hno<|λh=>h2 h.2
  ·rw[cD h1,aR,aB,aR];exact hno<|λh=>h1 h.1
 ·rintro⟨out,i⟩e hI;dsimp only at e hI ⊢;subst e;rw[l6,aR];exact Un (by rw[eM]at hI;exact hI)
 intro o ho;exact Uo ho (λs hs=>OF hs)<|λr hr=>hr.elim
theorem B9{l:List aF}{x:Int}(hl:l.length<=1099511627776)(hN:4398046511104<=N):g9 N l x=some (j3 (l.map sp) x):=by
 refine UU ?_;unfold g9;have hm:∀b:Bool,(j3 (l.map sp) x=b↔(l.any λs=>decide (s.from_<=x)&&decide (x<s.to))=b):=λb=>by unfold j3;rw[List.any_map];rfl
 refine TZ (UE (n:=l.length) (λs=>s) (λk s=>∀(j:Nat)y,j<k->l[j]? =some y->¬(y.from_<=x/\x<y.to)) (Go:=λs=>j3 (l.map sp) x=false) (Rt:=λr=>r=j3 (l.map sp) x) ?_ ?_ (cS _) rfl (λj y hj=>by omega) (by omega)) ?_
 ·rintro k i hk e hI;subst e;rw[iR hk,aO];have hx:l[k]? =some l[k]:=aN hk;rw[cG hx,aB]
  have hno:¬(l[k].from_<=x/\x<l[k].to)->Ok (some (Fl.nx (wrap .i64 (((k:Nat):Int)+1)):Fl Int Bool)) (Nf (λs'=>s'=((k+1:Nat):Int)/\∀(j:Nat)y,j<k+1->l[j]? =some y->¬(y.from_<=x/\x<y.to)) (λs=>j3 (l.map sp) x=false) (λr=>r=j3 (l.map sp) x)):=λhy=>Uh ⟨bE (by omega),λj y hj hjy=>by
   grind⟩
  by_cases h1:l[k].from_<=x
  ·rw[bY h1,aO,aB,aB]
   by_cases h2:x<l[k].to
   ·rw[bY h2,aO];refine UZ ?_;symm;rw[hm,kJ]
    grind
   grind
  grind
 ·rintro i e hI;subst e;rw[l6,aR];refine Un ?_;rw[hm,List.any_eq_false]
  grind [eE,bQ,Bool.and_eq_false_iff,decide_eq_false_iff_not]
 intro o ho;exact Uo ho (λs hs=>OF hs.symm)<|λr hr=>OF hr
end
section
variable {α:Type}[DecidableEq α]{N:Nat}
def OU(N:Nat)(p0 p1:List α):Option Bool:=
 bif(p0.length:Int) != (p1.length:Int)then some false else((iD (λ(s32:Int)=>(bif decide (s32<(p0.length:Int))then((idx p0 s32).bind λx45=>(idx p1 s32).bind λx48=>bif(!(decide<|x45=x48))then some (.rt false)else some (.nx<|wrap .i64<|s32+1))else(some<|.br s32):Option (Fl Int Bool))) N 0).bind λo51=>o51.cs (λ(s32:Int)=>some true)<|λr=>some r)
theorem IC{l m:List α}(hl:l.length<=1099511627776)(hN:4398046511104<=N):OU N l m=some (decide<|l=m):=by
 refine UU ?_;unfold OU
 by_cases he:l.length=m.length
 ·rw[show(((l.length:Nat):Int) != ((m.length:Nat):Int))=false by rw[he];simp,aR];refine TZ (UE (n:=l.length) (λs=>s) (λk s=>∀j,j<k->l[j]? =m[j]?) (Go:=λs=>l=m) (Rt:=λr=>r=false/\l≠m) ?_ ?_ (cS _) rfl (λj hj=>by omega) (by omega)) ?_
  ·rintro k i hk e hI;subst e;have hx:l[k]? =some l[k]:=aN hk
   grind [aN,iR,T6,UZ,Uh,bE]
  ·rintro i e hI;subst e;rw[l6,aR];refine Un<|List.ext_getElem? λj=>?_
   grind
  intro o ho;exact Uo ho (λs hs=>OF (bY hs).symm)<|λr hr=>OF (by grind)
 grind [OF,cD]
end
section
variable {N:Nat}
theorem GN{l m:List aH}(hl:l.length<=1099511627776)(hN:4398046511104<=N):kn N l m=some (decide<|l=m):=IC hl hN
theorem GO{l m:List aF}(hl:l.length<=1099511627776)(hN:4398046511104<=N):km N l m=some (decide<|l=m):=IC hl hN
def yr(b:aP):Bd:=⟨b.from_,b.to,dT<|b.jX.map sp⟩
theorem Lr{l:List (Int×Int)}:dT l= []↔l= []:=by
 cases l with
 |nil=>exact⟨λ_=>rfl,λ_=>rfl⟩
 |cons s l=>exact⟨λh=>(by cases h),λh=>(by cases h)⟩
theorem Ls{l m:List aF}:dT (l.map sp)=dT (m.map sp)↔l=m:=by grind [MF,FC]
theorem JJ{l:List aP}{b:aP}(hlt:b.from_<b.to)(hl:l.length<=1073741824)(hs:∀c∈l,c.jX.length<=1099511627776)(hN:4398046511104<=N):
  Ok (gK N l b) (λr=>r.map yr=kp (l.map yr) (yr b)):=by
 unfold gK kp
 by_cases h0:b.jX= []
 ·rw[show(((b.jX.length:Nat):Int)==0)=true by rw[h0];rfl,aO,aG<|.inl (by unfold yr;rw[h0];rfl)];exact OF rfl
 ·rw[show(((b.jX.length:Nat):Int)==0)=false by simp_all,aR];have hne:¬((yr b).xs= []\/(yr b).y1<=(yr b).y0):=by
   rintro(h|h)
   ·have h:=Lr.1 h
    simp_all
   ·have h:b.to<=b.from_:=h;omega
  rw[aI hne]
  rcases List.eq_nil_or_concat l with rfl|⟨A,c,hA⟩
  ·grind [decide,aB,UJ,OF]
  ·rw[List.concat_eq_append]at hA;subst hA;have hlen:(A++[c]).length=A.length+1:=by simp
   have hwp:wrap .i64 ((((A++[c]).length:Nat):Int) - 1)=((A.length:Nat):Int):=by grind [DN]
   have hlast:(A++[c])[A.length]? =some c:=by simp
   rw[hwp,bY (by omega),aO,cG hlast,aB,aB,GO (by grind) hN,aB,aB,cO];have hl2:((A++[c]).map yr).getLast? =some (yr c):=by simp
   have hd2:((A++[c]).map yr).dropLast=A.map yr:=by simp
   rw[hl2,hd2];dsimp only
   by_cases h1:c.to=b.from_/\c.jX=b.jX
   ·grind [yr,bY,aB,OF,List.set_append_right]
   ·rw[aI (show ¬((yr c).y1=(yr b).y0/\(yr c).xs=(yr b).xs)from λh=>h1 ⟨h.1,Ls.1 h.2⟩)];have e2:(bif c.to==b.from_ then some (decide<|c.jX=b.jX)else some false)=some false:=by
     by_cases h2:c.to=b.from_
     ·rw[show(c.to==b.from_)=true by rw[h2];simp,aO,cD<|λh=>h1 ⟨h2,h⟩]
     ·rw[show(c.to==b.from_)=false by simpa using h2,aR]
    rw[e2,aB,aR];exact UJ (by rw[hlen];simp;omega)<|OF (by simp)
theorem MH{s:List Bd}{b c:Bd}(h:c∈kp s b):c.xs=b.xs\/∃d∈s,c.xs=d.xs:=by
 grind [kp,List.dropLast_subset,List.mem_of_getLast?]
theorem tk{f:Int->List Int}{B:Nat}(hf:∀y,(f y).length<=B):∀(ss:List (Int×Int))(out:List Bd),(∀c∈out,c.xs.length<=B)->(∀c∈nu f ss out,c.xs.length<=B)/\(nu f ss out).length<=out.length+ss.length
 | [],out,h=>⟨h,by simp[nu]⟩
 |s::ss,out,h=>by
  obtain⟨h1,h2⟩:=tk hf ss (kp out ⟨s.1,s.2,f s.1⟩) (λc hc=>by
   rcases MH hc with h3|⟨d,hd,h3⟩
   ·grind
   grind)
  refine⟨h1,?_⟩;have:=Lc out ⟨s.1,s.2,f s.1⟩;show(nu f ss<|kp out ⟨s.1,s.2,f s.1⟩).length<=_;rw[eI];omega
theorem pG:∀(ys:List Int),(lC ys).length=ys.length - 1
 | []=>rfl
 | [_]=>rfl
 |a::b::l=>by
  show(lC<|b::l).length+1=_;rw[pG<|b::l];simp
theorem Ee:∀(ys:List Int)(k:Nat)(h:k+1<ys.length),(lC ys)[k]? =some (ys[k],ys[k+1])
 | [],k,h=>by simp at h
 | [_],k,h=>by simp at h
 |a::b::l,0,h=>rfl
 |a::b::l,k+1,h=>by
  have:=Ee (b::l) k (by grind);show(lC<|b::l)[k]? =_;rw[this];rfl
theorem ID(f:Int->List Int)(ss:List (Int×Int))(s:Int×Int)(out:List Bd):nu f (ss++[s]) out=kp (nu f ss out) ⟨s.1,s.2,f s.1⟩:=by simp[nu,List.foldl_append]
theorem Ef{ys:List Int}(hy:j5 ys){f:Int->List Int}{B:Nat}(hf:∀y,(f y).length<=B)(hB:B<=1099511627776)(hys:ys.length<=1073741824){out:List aP}{k:Nat}(h1:1<=k)(hk:k<ys.length)
  (hI:out.map yr=nu f ((lC ys).take<|k - 1) []) {r:List aF} (hr:dT (r.map sp)=f (ys[k - 1]'(by omega))) (hN:4398046511104<=N):
  Ok (gK N out ⟨ys[k - 1]'(by omega),ys[k],r⟩) (λo=>o.map yr=nu f ((lC ys).take k) []):=by
 have hlt:ys[k - 1]'(by omega)<ys[k]:=nz.1 hy (k - 1) k (by omega) hk (by omega);obtain⟨s1,s2⟩:=tk hf ((lC ys).take<|k - 1) [] (λc hc=>by cases hc);have hol:out.length<=ys.length:=by
  grind
 refine(JJ hlt (by omega) (λc hc=>?_) hN).mono λo ho=>?_
 ·have h3:(yr c).xs.length<=B:=s1 _ (by grind)
  grind [yr,kP,eB]
 ·have hg:=Ee ys (k - 1) (by omega)
  grind [lC,pG,dQ,aN,ID,yr]
def ue(b:aP):List aH:=b.jX.map λs=>⟨s.from_,b.from_,s.to,b.to⟩
def o9(l:List aP):List aH:=l.flatMap ue
theorem IE:∀(l:List (Int×Int)),DQ (dT l)=l
 | []=>rfl
 |s::l=>by rw[kB];show(s.1,s.2)::DQ (dT l)=_;rw[IE l]
theorem Ca:∀{l:List aP}{s:List aA},l.map yr=s.map cK->o9 l=aV s
 | [],[],_=>rfl
 | [],_::_,h=>by cases h
 |_::_,[],h=>by cases h
 |b::l,c::s,h=>by
  rw[fN,fN]at h;injection h with h1 h2
  have e:=Ca h2;show ue b++o9 l=oj c++aV s;rw[e];congr 1;unfold yr cK at h1;injection h1 with g1 g2 g3
  unfold ue oj;rw[<-g3,IE,g1,g2,List.map_map];rfl
theorem IF(l:List aP)(b:aP):o9 (l++[b])=o9 l++ue b:=by simp[o9,List.flatMap_append]
theorem Kz{l:List aP}(hl:l.length<=1099511627776)(hs:∀b∈l,b.jX.length<=1099511627776)(hr:(o9 l).length<=1099511627776)(hN:4398046511104<=N):jP N l=some (o9 l):=by
 refine UU ?_;unfold jP;refine TZ (UE (n:=l.length) (λs=>s.2) (λk s=>s.1=o9 (l.take k)) (Go:=λs=>s.1=o9 l) (Rt:=λ_=>False) ?_ ?_ (cS _) rfl rfl (by omega)) ?_
 ·rintro k⟨out,i⟩hk e hI;dsimp only at e hI ⊢;subst e;subst hI;rw[iR hk,aO];have hx:l[k]? =some l[k]:=aN hk;have hsl:=hs _<|cH hk
  have hts:o9 (l.take<|k+1)=o9 (l.take k)++ue l[k]:=by rw[dQ hk,IF]
  have hlen:(o9<|l.take k).length+l[k].jX.length<=(o9 l).length:=by
   grind [o9,dX,List.take_append_drop,ue,eB]
  refine TZ (UE (n:=l[k].jX.length) (λs=>s.2) (λj s=>s.1=o9 (l.take k)++(ue l[k]).take j) (Go:=λs=>s.1=o9 (l.take<|k+1)) (Rt:=λ_=>False) ?_ ?_ (cS _) rfl (by simp) (by omega)) ?_
  ·rintro j⟨o2,i2⟩hj e hI;dsimp only at e hI ⊢;subst e;subst hI;have hy:l[k].jX[j]? =some l[k].jX[j]:=aN hj;have hjr:j<(ue l[k]).length:=by grind [ue,eB]
   refine T6 hx ?_;rw[iR hj,aO];refine T6 hx<|T6 hy<|T6 hx<|T6 hx<|T6 hy<|T6 hx<|UJ ?_<|Uh ⟨bE (by omega),?_⟩
   ·grind
   grind [kI,dQ,ue]
  ·grind [T6,Un,mF,ue,eB]
  intro o ho;exact Uo ho (λs hs=>Uh ⟨bE (by omega),hs⟩)<|λr hr=>hr.elim
 ·rintro⟨out,i⟩e hI;dsimp only at e hI ⊢;subst e;rw[l6,aR];exact Un (by rw[eM]at hI;exact hI)
 intro o ho;exact Uo ho (λs hs=>OF hs)<|λr hr=>hr.elim
theorem FN{l:List aH}{ys:List Int}(hm:∀r∈l,r.Y0∈ys/\r.Y1∈ys){s:Int×Int}{y:Int}(hs:s∈lC ys)(hy:j5 ys)(h1:s.1<=y)(h2:y<s.2):mR l y=mR l s.1:=JI λr hr=>by
 obtain⟨m1,m2⟩:=hm r hr;obtain⟨_,_,_,h⟩:=tw hy s hs
 rcases h _ m1 with h3|h3 <;> rcases h _ m2 with h4|h4 <;> constructor <;> intro h5 <;> omega
theorem GP{l:List aH}{ys:List Int}(hm:∀r∈l,r.Y0∈ys/\r.Y1∈ys){y:Int}(h:(∀c∈ys,y<c)\/(∀c∈ys,c<=y)):mR l y= []:=by grind [MG]
theorem GQ{l:List aH}:∀r∈l,r.Y0∈ly (j4 l)/\r.Y1∈ly (j4 l):=by grind [FL,oh]
theorem MI(l:List aH):(ly<|j4 l).length<=2*l.length:=by
 grind [v7,j4,mW]
theorem wV{l:List aH}{s:List aA}(hc:fM (s.map cK))(hcov:∀x y,xF (s.map cK) x y=uH l x y)(hl:l.length<=10000000)(hok:∀r∈l,r.X0<r.X1)(hr:(aV s).length<=1099511627776)(hN:4398046511104<=N):
  fY N l=some (aV s):=by
 refine UU ?_;unfold fY;refine IT (Ec (by omega) hN) ?_;have hyl:=MI l;have hyi:=oS<|j4 l
 have hf:∀y,j5 (dT<|mR l y)/\(dT<|mR l y).length % 2=0:=λy=>⟨(yP hok y).1,by simp[kP]⟩;have hfl:∀y,(dT<|mR l y).length<=20000000:=λy=>by grind [kP,v8]
 obtain⟨b1,b2⟩:=Cu (f:=λy=>dT<|mR l y) hf hyi (λt ht y h1 h2=>by(try dsimp only);rw[FN GQ ht hyi h1 h2]) (λy h=>by(try dsimp only);rw[GP GQ h];rfl);have hsame:nu (λy=>dT<|mR l y) (lC<|ly<|j4 l) []=s.map cK:=wM b1 hc λx y=>by
  grind [xF,vS,yP]
 have hmy:= @GQ l;generalize ly (j4 l)=ys at *;refine TZ (UE (n:=max 1 ys.length) (λs=>s.2) (λk st=>1<=k/\st.1.map yr=nu (λy=>dT<|mR l y) ((lC ys).take<|k - 1) []) (Go:=λst=>st.1.map yr=s.map cK) (Rt:=λ_=>False) ?_ ?_ (k0:=1) (by omega) rfl ⟨cJ _,rfl⟩ (by omega)) ?_
 ·rintro k⟨out,i⟩hk e⟨hk1,hI⟩;dsimp only at e hI ⊢;subst e;have hk2:k<ys.length:=by omega
  rw[iR hk2,aO,jU hk1 (by omega)];refine UW (by omega)<|UW hk2<|UW (by omega)<|TZ (GM (by omega) hN) λr hr=>TZ (Ef hyi (f:=λy=>dT<|mR l y) hfl (by omega) (by omega) hk1 hk2 hI (by grind) hN) λo ho=>Uh ⟨bE (by omega),by omega,?_⟩
  grind
 ·grind [Be,Un,mF,pG]
 intro o ho;refine Uo ho (λst hs=>?_)<|λr hr=>hr.elim
 have e:=Ca hs;obtain⟨s1,s2⟩:=tk (f:=λy=>dT<|mR l y) hfl (lC ys) [] (λc hc=>by cases hc);refine IT (Kz (l:=st.1) ?_ ?_ (by rw[e];exact hr) hN)<|OF e
 ·have:(st.1.map yr).length<=ys.length:=by rw[hs,<-hsame];have:=pG ys;simp only[List.length_nil]at s2;omega
  rw[eB]at this;omega
 ·intro b hb;have h3:=s1 (yr b) (by rw[hsame,<-hs];exact dO.2 ⟨b,hb,rfl⟩);have h4:(yr b).xs.length=2*b.jX.length:=by unfold yr;rw[kP,eB]
  omega
def uM(w:Int)(p q:Bool):Bool:=((((w==1)&&(p||q))||(((w==2)&&p)&&q))||(((w==3)&&p)&&(!q)))
theorem MJ(w:Int):uM w false false=false:=by simp[uM]
theorem CA(iG:Bool->Bool->Bool)(a b ss:List (Int×Int))(s:Int×Int)(out:List (Int×Int)):np iG a b (ss++[s]) out=if iG (j3 a s.1) (j3 b s.1)=true then mN (np iG a b ss out) s else np iG a b ss out:=by simp[np,List.foldl_append]
theorem z8(iG:Bool->Bool->Bool)(a b:List (Int×Int)):∀(ss out:List (Int×Int)),(np iG a b ss out).length<=out.length+ss.length
 | [],out=>by simp[np]
 |s::ss,out=>by
  have h1:=z8 iG a b ss (if iG (j3 a s.1) (j3 b s.1)=true then mN out s else out);have h2:(if iG (j3 a s.1) (j3 b s.1)=true then mN out s else out).length<=out.length+1:=by
   split
   ·exact Cy _ _
   ·omega
  show(np iG a b ss (if iG (j3 a s.1) (j3 b s.1)=true then mN out s else out)).length<=_;rw[eI];omega
def CB(a b:List (Int×Int)):List Int:=ly<|dT a++dT b
theorem FO(a b:List (Int×Int)):(CB a b).length<=2*a.length+2*b.length:=by
 have:=v7<|dT a++dT b
 rw[dX,kP,kP]at this;exact this
theorem MK{a b:List aF}{w:Int}(ha:a.length<=10000000)(hb:b.length<=10000000)(hN:4398046511104<=N):
  Ok (kC N a b w) (λr=>r.map sp=np (uM w) (a.map sp) (b.map sp) (lC<|CB (a.map sp)<|b.map sp) []):=by
 unfold kC;have hfl:∀(l:List aF),(ly<|dT<|l.map sp).length<=2*l.length:=λl=>by
  grind [v7,dT,kP,eB]
 refine TZ (UE (n:=a.length) (λs=>s.2) (λk s=>s.1=ly (dT<|(a.take k).map sp)) (Go:=λs=>s.1=ly (dT<|a.map sp)) (Rt:=λ_=>False) ?_ ?_ (cS _) rfl rfl (by omega)) ?_
 ·rintro k⟨out,i⟩hk e hI;dsimp only at e hI ⊢;subst e;subst hI;rw[iR hk,aO];have hx:a[k]? =some a[k]:=aN hk;have h1:=hfl<|a.take k
  rw[dS]at h1;have h2:=Bf (ly<|dT<|(a.take k).map sp) a[k].from_;refine T6 hx<|T6 hx<|IT (yN (oS _) (by omega) hN)<|IT (yN (vZ<|oS _) (by omega) hN)<|Uh ⟨bE (by omega),?_⟩
  rw[dQ hk,fW,wN];exact(yq _ _ _).symm
 ·simp[l6,aR,Un,eM]
 intro o ho;refine Uo ho ?_<|λr hr=>hr.elim
 rintro⟨xa,ia⟩hxa;dsimp only at hxa ⊢;subst hxa;refine TZ (UE (n:=b.length) (λs=>s.2) (λk s=>s.1=ly (dT (a.map sp)++dT ((b.take k).map sp))) (Go:=λs=>s.1=CB (a.map sp) (b.map sp)) (Rt:=λ_=>False) ?_ ?_ (cS _) rfl (by simp[dT]) (by omega)) ?_
 ·rintro k⟨out,i⟩hk e hI;dsimp only at e hI ⊢;subst e;subst hI;rw[iR hk,aO];have hx:b[k]? =some b[k]:=aN hk;have h1:=v7<|dT (a.map sp)++dT ((b.take k).map sp)
  rw[dX,kP,kP,eB,eB,dS]at h1;have h2:=Bf (ly<|dT (a.map sp)++dT ((b.take k).map sp)) b[k].from_;refine T6 hx<|T6 hx<|IT (yN (oS _) (by omega) hN)<|IT (yN (vZ<|oS _) (by omega) hN)<|Uh ⟨bE (by omega),?_⟩
  rw[dQ hk,fW,wN,<-kI];exact(yq _ _ _).symm
 ·rintro⟨out,i⟩e hI;dsimp only at e hI ⊢;subst e;rw[l6,aR];exact Un (by rw[eM]at hI;exact hI)
 intro o ho;refine Uo ho ?_<|λr hr=>hr.elim
 rintro⟨xs,ix⟩hxs;dsimp only at hxs ⊢;have hxl:=FO (a.map sp)<|b.map sp
 rw[<-hxs,eB,eB]at hxl;rw[<-hxs];clear hxs;refine TZ (UE (n:=max 1 xs.length) (λs=>s.2) (λk st=>1<=k/\st.1.map sp=np (uM w) (a.map sp) (b.map sp) ((lC xs).take<|k - 1) []) (Go:=λst=>st.1.map sp=np (uM w) (a.map sp) (b.map sp) (lC xs) []) (Rt:=λ_=>False) ?_ ?_ (k0:=1) (by omega) rfl ⟨cJ _,rfl⟩ (by omega)) ?_
 ·rintro k⟨out,i⟩hk e⟨hk1,hI⟩;dsimp only at e hI ⊢;subst e;have hk2:k<xs.length:=by omega
  rw[iR hk2,aO,jU hk1 (by omega)];have hx:xs[k - 1]? =some (xs[k - 1]'(by omega)):=aN _;have hy:xs[k]? =some xs[k]:=aN hk2;have hg:=Ee xs (k - 1) (by omega);have hts:(lC xs).take k=(lC xs).take (k - 1)++[(xs[k - 1]'(by omega),xs[k])]:=by
   grind [lC,pG,dQ,aN]
  have hol:out.length<=xs.length:=by
   have h1:=z8 (uM w) (a.map sp) (b.map sp) ((lC xs).take<|k - 1) [];rw[<-hI,eB,dS,pG]at h1;simp only[List.length_nil]at h1;omega
  refine T6 hx<|T6 hx<|IT (B9 (by omega) hN)<|IT (B9 (by omega) hN) ?_
  refine TZ (P:=λr:List aF=>r.map sp=np (uM w) (a.map sp) (b.map sp) ((lC xs).take k) []) (Uv (λhb=>?_)<|λhb=>?_)<|λr hr=>Uh ⟨bE (by omega),by omega,by rw[Nat.add_sub_cancel];exact hr⟩
  ·refine T6 hx<|T6 hy<|TZ (FM (by omega) hN)<|λr hr=>OF ?_
   rw[hr,hI,hts,CA,aG (show uM w _ _=true from hb)];rfl
  ·refine OF ?_;rw[hI,hts,CA,aI (show ¬uM w _ _=true by rw[ma];exact hb)]
 ·rintro⟨out,i⟩e⟨hk1,hI⟩;dsimp only at e hI ⊢;subst e;rw[Be (by omega),aR];refine Un ?_;rw[mF (by rw[pG];omega)]at hI;exact hI
 intro o ho;exact Uo ho (λs hs=>OF hs)<|λr hr=>hr.elim
def pS(w:Int)(a b:List aH)(y:Int):List (Int×Int):=np (uM w) (mR a y) (mR b y) (lC<|CB (mR a y)<|mR b y) []
theorem IG(a b:List (Int×Int)):Ends a (CB a b)/\Ends b (CB a b):=by
 constructor <;> intro s hs <;> constructor <;> refine FL.2<|dH.2 ?_
 ·exact .inl<|List.mem_flatMap.2 ⟨s,hs,by simp⟩
 ·exact .inl<|List.mem_flatMap.2 ⟨s,hs,by simp⟩
 ·exact .inr<|List.mem_flatMap.2 ⟨s,hs,by simp⟩
 ·exact .inr<|List.mem_flatMap.2 ⟨s,hs,by simp⟩
theorem CC{a b:List aH}(ha:∀r∈a,r.X0<r.X1)(hb:∀r∈b,r.X0<r.X1)(w y:Int):j5 (dT<|pS w a b y)/\∀x,j3 (pS w a b y) x=uM w (uH a x y) (uH b x y):=by
 obtain⟨h1,h2⟩:=Ib (iG:=uM w) (MJ w) (a:=mR a y) (b:=mR b y) (xs:=CB (mR a y)<|mR b y) (oS _) (IG _ _).1 (IG _ _).2
 grind [j3,pS,yP]
theorem JK(w:Int)(a b:List aH)(y:Int):(pS w a b y).length<=2*a.length+2*b.length:=by
 grind [z8,uM,mR,lC,CB,FO,v8,pG,pS,List.length_nil]
theorem IH{a b:List aH}{w:Int}{s:List aA}(hc:fM (s.map cK))(hcov:∀x y,xF (s.map cK) x y=uM w (uH a x y) (uH b x y))(hla:a.length<=10000000)(hlb:b.length<=10000000)
  (ha:∀r∈a,r.X0<r.X1) (hb:∀r∈b,r.X0<r.X1) (hr:(aV s).length<=1099511627776) (hN:4398046511104<=N):ir N a b w=some (aV s):=by
 refine UU ?_;unfold ir;refine UJ (by grind)<|UJ (by grind) ?_
 rw[List.nil_append];refine IT (Ec (by grind) hN) ?_;have hyl:=MI<|a++b
 rw[dX]at hyl;have hyi:=oS<|j4<|a++b
 have hmy:= @GQ<|a++b
 have hma:∀r∈a,r.Y0∈ly (j4<|a++b)/\r.Y1∈ly (j4<|a++b):=λr hr=>hmy r<|List.mem_append_left _ hr
 have hmb:∀r∈b,r.Y0∈ly (j4<|a++b)/\r.Y1∈ly (j4<|a++b):=λr hr=>hmy r<|List.mem_append_right _ hr
 have hf:∀y,j5 (dT<|pS w a b y)/\(dT<|pS w a b y).length % 2=0:=λy=>⟨(CC ha hb w y).1,by simp[kP]⟩;have hfl:∀y,(dT<|pS w a b y).length<=80000000:=λy=>by grind [kP,JK]
 obtain⟨b1,b2⟩:=Cu (f:=λy=>dT (pS w a b y)) hf hyi (λt ht y h1 h2=>by grind [pS,FN]) (λy h=>by
  (try dsimp only);unfold pS;rw[GP hma h,GP hmb h];rfl)
 have hsame:nu (λy=>dT<|pS w a b y) (lC<|ly<|j4<|a++b) []=s.map cK:=wM b1 hc λx y=>by
  grind [xF,vS,CC]
 clear hmy hma hmb;generalize ly (j4<|a++b)=ys at *;refine TZ (UE (n:=max 1 ys.length) (λs=>s.2) (λk st=>1<=k/\st.1.map yr=nu (λy=>dT<|pS w a b y) ((lC ys).take<|k - 1) []) (Go:=λst=>st.1.map yr=s.map cK) (Rt:=λ_=>False) ?_ ?_ (k0:=1) (by omega) rfl ⟨cJ _,rfl⟩ (by omega)) ?_
 ·rintro k⟨out,i⟩hk e⟨hk1,hI⟩;dsimp only at e hI ⊢;subst e;have hk2:k<ys.length:=by omega
  rw[iR hk2,aO,jU hk1 (by omega)];refine UW (by omega)<|UW hk2<|UW (by omega)<|UW (by omega)<|TZ (GM (by omega) hN) λr1 hr1=>TZ (GM (by omega) hN) λr2 hr2=>?_
  have l1:r1.length<=10000000:=by grind [v8,eB]
  have l2:r2.length<=10000000:=by grind [v8,eB]
  refine TZ (MK l1 l2 hN) λr hr=>TZ (Ef hyi (f:=λy=>dT<|pS w a b y) hfl (by omega) (by omega) hk1 hk2 hI (by(try dsimp only);rw[hr,hr1,hr2];rfl) hN) λo ho=>Uh ⟨bE (by omega),by omega,?_⟩;rw[Nat.add_sub_cancel];exact ho
 ·rintro⟨out,i⟩e⟨hk1,hI⟩;dsimp only at e hI ⊢;subst e;rw[Be (by omega),aR];refine Un ?_;rw[mF (by rw[pG];omega),hsame]at hI;exact hI
 intro o ho;refine Uo ho (λst hs=>?_)<|λr hr=>hr.elim
 have e:=Ca hs;obtain⟨s1,s2⟩:=tk (f:=λy=>dT<|pS w a b y) hfl (lC ys) [] (λc hc=>by cases hc);refine IT (Kz (l:=st.1) ?_ ?_ (by rw[e];exact hr) hN)<|OF e
 ·have:(st.1.map yr).length<=ys.length:=by rw[hs,<-hsame];have:=pG ys;simp only[List.length_nil]at s2;omega
  rw[eB]at this;omega
 ·intro b hb;have h3:=s1 (yr b) (by rw[hsame,<-hs];exact dO.2 ⟨b,hb,rfl⟩);have h4:(yr b).xs.length=2*b.jX.length:=by unfold yr;rw[kP,eB]
  omega
theorem GR(n:Int):dA N n=some (ou n):=rfl
theorem Eg{l:List aH}(hl:l.length<=1099511627776)(hN:4398046511104<=N):iM N l=some (mX l):=by
 refine UU ?_;unfold iM mX
 by_cases h:2000<l.length
 ·grind [bY,OF]
 ·rw[cD (by omega),aR,aI h];refine TZ (UE (n:=l.length) (λs=>s) (λk s=>∀(j:Nat)x,j<k->l[j]? =some x->mO x=none) (Go:=λs=>l.findSome? mO=none) (Rt:=λr=>l.findSome? mO=some r) ?_ ?_ (cS _) rfl (λj x hj=>by omega) (by omega)) ?_
  ·rintro k i hk e hI;subst e;rw[iR hk,aO];have hx:l[k]? =some l[k]:=aN hk;have hrt:∀c,mO l[k]=some c->l.findSome? mO=some c:=λc hc=>by
    rw[List.findSome?_eq_some_iff];refine⟨l.take k,l[k],l.drop<|k+1,?_,hc,λx hx'=>?_⟩
    ·rw[List.getElem_cons_drop,List.take_append_drop]
    grind [eE,bQ,dS,List.getElem?_take_of_lt]
   refine T6 hx ?_;have hb:((dA N l[k].X0).bind λx110=>bif(!x110)then some true else((dA N l[k].Y0).bind λx112=>bif(!x112)then some true else((dA N l[k].X1).bind λx114=>bif(!x114)then some true else((dA N l[k].Y1).bind λx116=>some<|!x116))))=some (!dJ l[k]):=by
    rw[GR,GR,GR,GR];unfold dJ
    grind
   refine IT hb<|Uv (λh1=>UZ<|hrt 1 ?_)<|λh1=>Uv (λh2=>UZ<|hrt 13 ?_)<|λh2=>Uh ⟨bE (by omega),λj x hj hjx=>?_⟩
   all_goals grind [mO]
  ·grind [Un,List.findSome?_eq_none_iff,eE,bQ]
  intro o ho;exact Uo ho (λs hs=>OF (by rw[hs];rfl))<|λr hr=>OF (by rw[hr];rfl)
theorem JL{l:List aH}{s:List aA}(hs:tZ l s):GH l↔aV s=l:=⟨λ⟨t,h1,h2⟩=>by rw[hs.unique h1];exact h2,λh=>⟨s,hs,h⟩⟩
theorem xl{l:List aH}(hl:l.length<=1073741824)(hN:4398046511104<=N):gk N l=some (jW l):=by
 refine UU ?_;unfold gk;refine IT (Eg (by omega) hN) ?_;unfold jW;refine Uv (λh=>OF ?_)<|λh=>?_
 ·grind
 ·have h0:mX l=0:=by simpa using h
  rw[aI (by omega)];obtain⟨hlen,hok⟩:=D4 h0;have hbf:∀a b:aH,((decide (a.Y0<b.Y0)||((a.Y0==b.Y0)&&decide (a.X0<b.X0)))=true)↔¬(b.Y0<a.Y0\/(b.Y0=a.Y0/\b.X0<=a.X0)):=λa b=>by
   grind
  refine TZ (U5 (Go:=λ_=>P3 l) (Rt:=λr=>r=8/\¬P3 l) (λs=>∃k:Nat,s=((k:Nat):Int)/\1<=k/\∀(j:Nat)a b,j+1<k->l[j]? =some a->l[j+1]? =some b->¬(b.Y0<a.Y0\/(b.Y0=a.Y0/\b.X0<=a.X0))) (λs=>l.length - s.toNat) ?_ ⟨1,rfl,cJ _,λj a b hj=>by omega⟩ (by simp;omega)) ?_
  ·rintro s⟨k,rfl,hk,hI⟩;refine Uv (λh=>?_)<|λh=>Un λj a b ha hb=>hI j a b ?_ ha hb
   ·have hk2:k<l.length:=by grind
    rw[jU hk (by omega)];have hx:l[k - 1]? =some (l[k - 1]'(by omega)):=aN _;have hy:l[k]? =some l[k]:=aN hk2;refine T6 hx<|T6 hy ?_
    unfold iZ;rw[aB];refine Uv (λhb=>UZ ⟨rfl,λhu=>?_⟩)<|λhb=>Uh ⟨⟨k+1,by grind [bE],by omega,λj a b hj ha hb'=>?_⟩,by grind [bE,cO]⟩
    ·have:=(hbf _ _).2<|hu (k - 1) _ _ hx (by rw[show k - 1+1=k by omega];exact hy)
     grind
    grind
   grind
  ·rintro o ho;refine Uo ho (λs hu=>?_)<|λr hr=>OF (by grind)
   rw[aG hu];obtain⟨s,_,hs⟩:=rp (N:=N) (l:=l) (by omega) hok (by omega);obtain⟨z1,z2,z3⟩:=hs.Ip;have z4:2*l.length*(2*l.length)<=4000*4000:=Nat.mul_le_mul (by omega) (by omega);refine IT (wV hs.can hs.cover (by omega) (λr hr=>(hok r hr).x) (by omega) hN)<|IT (GN (by omega) hN) ?_
   grind [JL,OF,aV]
end
theorem Eh(n:Nat)(g:Nat->Nat):((List.range<|n+1).map g).sum=((List.range n).map g).sum+g n:=by
 simp[List.range_succ,fW,List.sum_append]
def R3(r:aH)(x y:Int):Bool:=(decide (r.X0<=x)&&decide (x<r.X1))&&(decide (r.Y0<=y)&&decide (y<r.Y1))
def RU(a b:aH):Prop:=∀x y,¬(R3 a x y=true/\R3 b x y=true)
theorem NU{r:aH}{x y:Int}:R3 r x y=true↔(r.X0<=x/\x<r.X1)/\r.Y0<=y/\y<r.Y1:=by simp[R3]
theorem Bh:∀{xs:List Int},j5 xs->(DQ xs).Pairwise (λp q=>p.2<q.1)
 | [],_=>kg
 | [a],_=>kg
 |a::b::l,h=>by
  unfold DQ;rw[pI];exact⟨λq hq=>h.tail.head q.1 (GA q hq).1,Bh h.tail.tail⟩
def vc(a b:aH):Prop:=a.Y1<=b.Y0\/(a.Y0=b.Y0/\a.Y1=b.Y1/\a.X1<b.X0)
theorem vc.apart{a b:aH}(h:vc a b):RU a b:=λx y⟨h1,h2⟩=>by
 rw[NU]at h1 h2
 rcases h with h|h <;> omega
theorem tm:∀{s:List aA},fM (s.map cK)->(aV s).Pairwise vc
 | [],_=>kg
 |b::s,h=>by
  rw[oq,List.pairwise_append];refine⟨?_,tm h.tail,λx hx y hy=>?_⟩
  ·unfold oj;rw[List.pairwise_map];exact List.Pairwise.imp (λhpq=> .inr ⟨rfl,rfl,hpq⟩)<|Bh (h.each (cK b) (by simp)).2.2.1
  ·unfold oj at hx;obtain⟨p,_,rfl⟩:=dO.1 hx;obtain⟨c,hc,q,_,rfl⟩:=ru hy;exact .inl<|h.DK (cK c)<|dO.2 ⟨c,hc,rfl⟩
theorem v9{s:List aA}(h:fM (s.map cK)):∀r∈aV s,r.X0<r.X1/\r.Y0<r.Y1:=λr hr=>by
 obtain⟨b,hb,p,hp,rfl⟩:=ru hr;have hc:=h.each (cK b)<|dO.2 ⟨b,hb,rfl⟩
 exact⟨GB hc.2.2.1 p hp,hc.1⟩
theorem II{s:List aA}(h:fM (s.map cK)):(aV s).Nodup:=by
 have h1:=tm h;have h2:=v9 h;refine List.Pairwise.imp_of_mem (λ{a b}ha hb hab e=>?_) h1;subst e;have:=h2 a ha
 rcases hab with h|h <;> omega
def wc(s:List Bd):Nat:=(s.map<|λb=>b.xs.length / 2).sum
theorem IJ(s t:List Bd):wc (s++t)=wc s+wc t:=by simp[wc,fW,List.sum_append]
theorem Lt(s:List Bd)(b:Bd):wc (kp s b)<=wc s+b.xs.length / 2:=by
 unfold kp
 grind [tX,wc,IJ]
structure TA (t:List Bd):Prop where
 each:∀b∈t,b.y0<b.y1/\j5 b.xs/\b.xs.length % 2=0
 ord:t.Pairwise (λb c=>b.y1<=c.y0)
theorem fold_push:∀(t out:List Bd),TA t->fM out->(∀c∈out,∀b∈t,c.y1<=b.y0)->fM (t.foldl kp out)/\wc (t.foldl kp out)<=wc out+wc t/\
  ∀y,rowAt (t.foldl kp out) y=if(∃b∈t,b.y0<=y/\y<b.y1)then rowAt t y else rowAt out y
 | [],out,_,hc,_=>⟨hc,by simp[wc],λy=>by simp⟩
 |b::t,out,hl,hc,ho=>by
  have hb:=hl.each b (by simp);have hord:=pI.1 hl.ord;have ho1:∀c∈out,c.y1<=b.y0:=λc h=>ho c h b (by simp);have h1:=yF hc ho1 hb.2.1 hb.2.2;have htop:=yG ho1 (show b.y0<=b.y1 by omega);obtain⟨f1,f2,f3⟩:=fold_push t (kp out b) ⟨λc hcm=>hl.each c<|jo _ hcm,hord.2⟩ h1 (λc hcm d hd=>by grind);refine⟨f1,?_,λy=>?_⟩
  ·have:=Lt out b;have e:wc (b::t)=b.xs.length / 2+wc t:=by simp[wc]
   rw[List.foldl_cons,e];omega
  ·rw[List.foldl_cons,f3 y,yE ho1 (λc hcm=>(hc.each c hcm).1)<|λh=>absurd h (by omega),oe]
   by_cases hy:b.y0<=y/\y<b.y1
   ·have hn:¬∃c∈t,c.y0<=y/\y<c.y1:=λ⟨c,hcm,h⟩=>by have:=hord.1 c hcm;omega
    rw[aI hn,aG hy,aG ⟨b,by simp,hy⟩,aG hy]
   ·rw[aI hy]
    by_cases h:∃c∈t,c.y0<=y/\y<c.y1
    ·obtain⟨c,hcm,h⟩:=h;rw[aG ⟨c,hcm,h⟩,aG ⟨c,jo _ hcm,h⟩,aI hy]
    ·rw[aI h,aI hy,aI (show ¬∃c∈b::t,c.y0<=y/\y<c.y1 from λ⟨c,hcm,h2⟩=>by
      grind)]
noncomputable def sP(C:List aH)(b:aA):Bd:=⟨b.Y0,b.Y1,dT<|(DQ b.Xs).filter<|λp=>decide<|(⟨p.1,b.Y0,p.2,b.Y1⟩:aH)∈C⟩
theorem Lu{l m:List (Int×Int)}(h:l.Sublist m):(dT l).Sublist (dT m):=by
 induction h with
 |slnil=>exact List.Sublist.refl _
 |cons a _ ih=>grind [kB]
 |cons_cons a _ ih=>grind [kB]
theorem Ei(l:List (Int×Int)):(dT l).length % 2=0/\(dT l).length / 2=l.length:=by simp[kP]
theorem FP{s p:List aA}{C:List aH}(hs:fM (s.map cK))(hp:fM (p.map cK))(hC:∀r∈C,r∈aV s)(hcov:∀x y,xF (p.map cK) x y=uH C x y):(aV p).length<=C.length:=by
 have hinc:∀b∈s,j5 (sP C b).xs:=λb hb=>by
  have h1:=Ku hs b hb;have h2:=Lu<|List.filter_sublist (l:=DQ b.Xs) (p:=λp=>decide<|(⟨p.1,b.Y0,p.2,b.Y1⟩:aH)∈C)
  rw[DR<|vX hs b hb]at h2;exact List.Pairwise.sublist h2 h1
 have hlow:TA (s.map<|sP C):=by
  refine⟨λb hb=>?_,?_⟩
  ·obtain⟨c,hc,rfl⟩:=dO.1 hb;exact⟨(hs.each (cK c)<|dO.2 ⟨c,hc,rfl⟩).1,hinc c hc,(Ei _).1⟩
  ·have:=hs.ord;rw[List.pairwise_map]at this ⊢;exact List.Pairwise.imp (λh=>h.1) this
 obtain⟨f1,f2,f3⟩:=fold_push (s.map<|sP C) [] hlow fM.nil (λc hc=>by cases hc);have hrow:∀{t:List aA},(∀b∈t,b∈s)->∀x y,qU (rowAt (t.map<|sP C) y) x=true->uH C x y=true:=by
  intro t ht x y h
  induction t with
  |nil=>cases h
  |cons b t ih=>
   rw[fN,oe]at h;split at h
   ·rename_i hy;have hbm:=ht b (by simp);have h1:=hinc b hbm;have h:qU (dT<|(DQ b.Xs).filter<|λp=>decide<|(⟨p.1,b.Y0,p.2,b.Y1⟩:aH)∈C) x=true:=h;rw[vS h1,vR]at h;obtain⟨q,hq,h2⟩:=h;have hq:=lj.1 hq;exact kq.2 ⟨_,of_decide_eq_true hq.2,h2,hy⟩
   grind
 have hrow2:∀x y,uH C x y=true->qU (rowAt (s.map<|sP C) y) x=true:=by
  intro x y h;obtain⟨r,hr,h1,h2⟩:=kq.1 h;obtain⟨b,hb,q,hq,rfl⟩:=ru<|hC r hr
  dsimp only at h1 h2;have key:∀{t:List aA},(∀c∈t,c∈s)->fM (t.map cK)->b∈t->rowAt (t.map<|sP C) y=(sP C b).xs:=by
   intro t ht hc hbt
   induction t with
   |nil=>cases hbt
   |cons c t ih=>
    rw[fN,oe]
    by_cases hy:c.Y0<=y/\y<c.Y1
    ·rw[aG (show(sP C c).y0<=y/\y<(sP C c).y1 from hy)]
     rcases eH.1 hbt with rfl|hbt
     ·rfl
     ·have:=hc.DK (cK b)<|dO.2 ⟨b,hbt,rfl⟩
      grind [cK]
    ·rw[aI (show ¬((sP C c).y0<=y/\y<(sP C c).y1)from hy)]
     rcases eH.1 hbt with rfl|hbt
     ·exact absurd h2 hy
     ·exact ih (λd hd=>ht d<|jo _ hd) hc.tail hbt
  rw[key (λc hc=>hc) hs hb];have h1':=hinc b hb;show qU (dT<|(DQ b.Xs).filter<|λp=>decide<|(⟨p.1,b.Y0,p.2,b.Y1⟩:aH)∈C) x=true;rw[vS h1',vR];exact⟨q,lj.2 ⟨hq,bY hr⟩,h1⟩
 have hsame:p.map cK=(s.map<|sP C).foldl kp []:=wM hp f1 λx y=>by
  rw[hcov,jq];have e:rowAt ((s.map<|sP C).foldl kp []) y=rowAt (s.map<|sP C) y:=by
   rw[f3]
   by_cases h:∃b∈s.map (sP C),b.y0<=y/\y<b.y1
   ·rw[aG h]
   ·rw[aI h]
    exact(mM λb hb=>by
     have:¬(b.y0<=y/\y<b.y1):=λh2=>h ⟨b,hb,h2⟩
     omega).symm
  unfold xF;rw[e];exact⟨hrow2 x y,hrow (λb hb=>hb) x y⟩
 have hc1:(aV p).length=wc (p.map cK):=by
  have:∀p:List aA,(aV p).length=wc (p.map cK):=λp=>by
   induction p with
   |nil=>rfl
   |cons b p ih=>rw[oq,dX,rq,ih];unfold wc;rw[fN,fN,List.sum_cons];rfl
  exact this p
 have hc2:∀s:List aA,wc (s.map<|sP C)=((aV s).filter<|λr=>decide<|r∈C).length:=λs=>by
  induction s with
  |nil=>rfl
  |cons b s ih=>
   rw[oq,List.filter_append,dX,<-ih];unfold wc;rw[fN,fN,List.sum_cons];congr 1;show(dT _).length / 2=_;rw[(Ei _).2];unfold oj;rw[List.filter_map,eB];rfl
 have hc3:((aV s).filter<|λr=>decide<|r∈C).length<=C.length:=gA (List.Nodup.sublist List.filter_sublist<|II hs) λr hr=>of_decide_eq_true (lj.1 hr).2;rw[hc1,hsame];have e0:wc ([]:List Bd)=0:=rfl;have:=hc2 s;omega
section
variable {N:Nat}
theorem zv{all:List aH}(w:aH->Nat):∀(c:List Nat),((c.filterMap<|λi=>all[i]?).map w).sum=(c.map<|λi=>(all[i]?).elim 0 w).sum
 | []=>rfl
 |i::c=>by
  rw[fN,List.sum_cons,<-zv w c]
  cases h:all[i]? with
  |none=>rw[List.filterMap_cons_none (f:=λi=>all[i]?) h];simp
  |some x=>rw[List.filterMap_cons_some (f:=λi=>all[i]?) h,fN,List.sum_cons];rfl
theorem NV{all:List aH}{u:Nat->Nat}(h:∀i,i<all.length->u i∈bP all.length u)(w:aH->Nat):((bP all.length u).map<|λk=>((ot all all.length u k).map w).sum).sum=(all.map w).sum:=by
 have e:(λk=>((ot all all.length u k).map w).sum)=λk=>(((List.range all.length).filter<|λx=>decide<|u x=k).map<|λi=>(all[i]?).elim 0 w).sum:=by
  funext k;unfold ot;rw[zv];rfl
 rw[e,IA (mE _ _) u _<|λx hx=>h x<|lk.1 hx];have:∀m,m<=all.length->((List.range m).map<|λi=>(all[i]?).elim 0 w).sum=((all.take m).map w).sum:=by
  intro m
  induction m with
  |zero=>intro _;rfl
  |succ m ih=>
   grind [Eh,dQ,aN]
 grind
theorem Ej:∀{l m:List Nat},l.length=m.length->(∀(j x y:Nat),l[j]? =some x->m[j]? =some y->x<=y)->l.sum<=m.sum
 | [],[],_,_=>cJ _
 | [],_::_,h,_=>by simp at h
 |_::_,[],h,_=>by simp at h
 |a::l,b::m,h,hle=>by
  have h1:=hle 0 a b rfl rfl;have h2:=Ej (l:=l) (m:=m) (by simpa using h) λj x y hx hy=>hle (j+1) x y (by grind) (by grind);rw[List.sum_cons,List.sum_cons];omega
theorem KA{r hs:List aH}{s:List aA}(h1:∀x∈r,dJ x=true)(h2:∀x∈hs,dJ x=true)(hc:fM (s.map cK))(hl:Ag (vU r++vU hs) (j4 r++j4 hs) (s.map cK)):∀q∈aV s,dJ q=true/\q.X0<q.X1/\q.Y0<q.Y1:=by
 intro q hq;have hp:=v9 hc q hq;obtain⟨b,hb,p,hpm,rfl⟩:=ru hq;have hll:=hl (cK b)<|dO.2 ⟨b,hb,rfl⟩
 have hm:=GA p hpm;have bx:∀c∈vU r++vU hs,-1000000<=c/\c<=1000000:=λc hcm=>by
  rcases dH.1 hcm with h|h
  ·obtain⟨x,hx,h⟩:=vV.1 h;have:=jg<|h1 x hx
   omega
  ·obtain⟨x,hx,h⟩:=vV.1 h;have:=jg<|h2 x hx
   omega
 have by':∀c∈j4 r++j4 hs,-1000000<=c/\c<=1000000:=λc hcm=>by
  rcases dH.1 hcm with h|h
  ·obtain⟨x,hx,h⟩:=oh.1 h;have:=jg<|h1 x hx
   omega
  ·obtain⟨x,hx,h⟩:=oh.1 h;have:=jg<|h2 x hx
   omega
 have g1:=bx _<|hll.2.2 p.1 hm.1
 have g2:=bx _<|hll.2.2 p.2 hm.2
 have g3:=by' _ hll.1
 have g4:=by' _ hll.2.1
 exact⟨D3 ⟨g1,g3,g2,g4⟩,hp⟩
structure sF (r hs:List aH) (s:List aA) (u:Nat->Nat) (ps:List (List aA)):Prop where
 r1:∀x∈r,dJ x=true
 r2:∀x∈hs,dJ x=true
 k1:∀x∈r,EH x
 k2:∀x∈hs,EH x
 dr:wP r hs s
 pt:uI s u ps
 xG:(aV s).length<=2000
theorem sF.part{r hs:List aH}{s:List aA}{u:Nat->Nat}{ps:List (List aA)}(h:sF r hs s u ps){p:List aA}(hp:p∈ps):fM (p.map cK)/\(aV p).length<=2000/\∀q∈aV p,dJ q=true/\q.X0<q.X1/\q.Y0<q.Y1:=by
 obtain⟨sx,sy⟩:=h.dr.small h.k1 h.k2;obtain⟨j,k,g1,g2,g3,g4⟩:=D7 h.pt h.dr.can h.dr.lim sx sy hp
 have:=FP h.dr.can g3.can (λx hx=>by
  grind [mz,fR]) g3.cover
 have h2:=DZ (aV s) (aV s).length u k;have:=h.xG;exact⟨g3.can,by omega,KA h.r1 h.r2 g3.can g4⟩
theorem sF.bP{r hs:List aH}{s:List aA}{u:Nat->Nat}{ps:List (List aA)}(h:sF r hs s u ps):∀i,i<(aV s).length->u i∈Gk.bP (aV s).length u:=λi hi=>iw.2 ⟨by have:=h.pt.join.le i hi;omega,h.pt.join.rr i hi⟩
theorem sF.total{r hs:List aH}{s:List aA}{u:Nat->Nat}{ps:List (List aA)}(h:sF r hs s u ps):(ps.map<|λp=>(aV p).length).sum<=(aV s).length:=by
 have h1:=NV h.bP<|λ_=>1
 have one:∀l:List aH,(l.map<|λ_=>1).sum=l.length:=λl=>by
  induction l with
  |nil=>rfl
  |cons x l ih=>grind
 simp only[one]at h1;rw[<-h1];refine Ej (by simp[h.pt.len]) λj x y hx hy=>?_;rw[il,rB]at hx hy;obtain⟨p,hp,rfl⟩:=hx;obtain⟨k,hk,rfl⟩:=hy;have hs:=h.pt.each j k p hk hp
 exact FP h.dr.can hs.can (λx hx=>by
  grind [mz,fR]) hs.cover
theorem CD{ps:List (List aA)}{x y:Int}:uH (ps.flatMap aV) x y=true↔∃p∈ps,uH (aV p) x y=true:=by
 grind [kq]
theorem sF.cover{r hs:List aH}{s:List aA}{u:Nat->Nat}{ps:List (List aA)}(h:sF r hs s u ps)(x y:Int):uH (ps.flatMap aV) x y=xF (s.map cK) x y:=by
 rw[<-qo h.dr.can,jq,CD];constructor
 ·rintro⟨p,hp,hc⟩;obtain⟨j,hj⟩:=eE hp;have hjl:=(bQ.1 hj).1;have hk:(Gk.bP (aV s).length u)[j]? =some ((Gk.bP (aV s).length u)[j]'(by rw[<-h.pt.len];exact hjl)):=aN _;have hs:=h.pt.each j _ _ hk hj;rw[qo hs.can,hs.cover]at hc
  grind [kq,mz,fR]
 ·intro hc;obtain⟨q,hq,h2⟩:=kq.1 hc;obtain⟨i,hi⟩:=eE hq;have hil:=(bQ.1 hi).1;obtain⟨j,hj⟩:=eE<|h.bP i hil
  have hjl:j<ps.length:=by rw[h.pt.len];grind
  have hs:=h.pt.each j _ _ hj<|aN hjl
  refine⟨_,cH hjl,?_⟩;rw[qo hs.can,hs.cover]
  grind [kq,mz]
section
variable {a:jO}{ke:List (List aA)}{cX:List (List (List aA))}{r:Nat->Nat}{gs:List bW}{ofP ofB jD:List Int}{ji:List eC}
theorem CE(b:jh a ke cX r gs ofP ofB jD ji){i:Nat}(hi:i<a.aK.length):∃s ps u,ke[i]? =some s/\cX[i]? =some ps/\sF a.aK[i] (k9 a.aM ((i:Nat):Int)) s u ps:=by
 have hd:ke[i]? =some (ke[i]'(by rw[b.dr.len];exact hi)):=aN _;have hp:cX[i]? =some (cX[i]'(by rw[b.dr.B4];exact hi)):=aN _;have hdr:=b.dr.dr i _ _ hi (aN hi) hd;obtain⟨u,hu⟩:=b.dr.pt i _ _ hi hd hp;have hreg:=r9.1<|b.xD.Tr _<|cH hi
 exact⟨_,_,u,hd,hp,λx hx=>((va.1 hreg.1).2 x hx).1,λx hx=>(t9 b.xD.gb _ x hx).2,(D4 hreg.1).2,λx hx=>(t9 b.xD.gb _ x hx).1,hdr,hu,b.xG.1 _<|fR hd⟩
end
end
def Ek(a b:aH):Prop:=(0<min a.X1 b.X1 - max a.X0 b.X0/\0<=min a.Y1 b.Y1 - max a.Y0 b.Y0)\/(0<=min a.X1 b.X1 - max a.X0 b.X0/\0<min a.Y1 b.Y1 - max a.Y0 b.Y0)
theorem Lv{all:List aH}(hB:all.Pairwise vc)(hp:∀r∈all,r.X0<r.X1/\r.Y0<r.Y1){i j:Nat}{a c:aH}(ha:all[i]? =some a)(hc:all[j]? =some c):Ek a c↔i=j\/Bp all i j\/Bp all j i:=by
 have h1:Bp all i j↔GF a c:=⟨λ⟨a',c',e1,e2,h⟩=>by grind,λh=>⟨a,c,ha,hc,h⟩⟩;have h2:Bp all j i↔GF c a:=⟨λ⟨a',c',e1,e2,h⟩=>by grind,λh=>⟨c,a,hc,ha,h⟩⟩
 grind [fR,bQ,Ek,GF,Nat.lt_trichotomy,nz,vc]
theorem Cb{α:Type}{q q':List α}(h:q <+:q'){t:Nat}{x:α}(hx:q[t]? =some x):q'[t]? =some x:=by
 obtain⟨r,rfl⟩:=h
 grind
def wW(f:Int->Int->Bool)(x y:Int):Prop:=f x y=true/\∀x' y',f x' y'=true->y<y'\/(y=y'/\x<=x')
theorem wW.unique{f:Int->Int->Bool}{x y x' y':Int}(h:wW f x y)(h':wW f x' y'):x=x'/\y=y':=by
 have h1:=h.2 _ _ h'.1;have h2:=h'.2 _ _ h.1;omega
theorem JM{a:aH}{l:List aH}(hp:∀r∈a::l,r.X0<r.X1/\r.Y0<r.Y1)(hB:∀r∈l,vc a r):wW (uH<|a::l) a.X0 a.Y0:=by
 have pa:=hp a (by simp);refine⟨kq.2 ⟨a,by simp,by omega,by omega⟩,λx' y' h=>?_⟩
 grind [kq,vc]
theorem JN{s:List aA}(hc:fM (s.map cK))(hne:s≠[]):∃r t,aV s=r::t/\wW (λx y=>xF (s.map cK) x y) r.X0 r.Y0/\Ky s= ⟨r.X0,r.Y0⟩:=by
 cases s with
 |nil=>grind
 |cons b s=>
  have hx:=hc.each (cK b) (by simp);have hxs:b.Xs≠[]:=hx.2.1;have he:b.Xs.length % 2=0:=hx.2.2.2;obtain⟨x0,x1,xs,e⟩:∃x0 x1 xs,b.Xs=x0::x1::xs:=by
   match hb:b.Xs with
   | []=>grind
   | [x0]=>grind
   |x0::x1::xs=>simp
  have hr:aV (b::s)= ⟨x0,b.Y0,x1,b.Y1⟩::((DQ xs).map (λp=>(⟨p.1,b.Y0,p.2,b.Y1⟩:aH))++aV s):=by
   rw[oq];unfold oj;rw[e];rfl
  have hB:=tm hc;have hpos:=v9 hc;rw[hr]at hB hpos;refine⟨_,_,hr,?_,by grind [Ky]⟩;have:=JM hpos (pI.1 hB).1;rw[<-hr]at this;refine⟨?_,λx' y' h=>this.2 x' y' ?_⟩
  ·show xF _ _ _=true;rw[<-qo hc];exact this.1
  grind [qo]
theorem FQ{all:List aH}{u:Nat->Nat}(hB:all.Pairwise vc)(hp:∀r∈all,r.X0<r.X1/\r.Y0<r.Y1)(hJ:Joined all u){h:Nat}{a:aH}(ha:all[h]? =some a)(hu:u h=h):wW (uH<|ot all all.length u h) a.X0 a.Y0:=by
 obtain⟨hl,e⟩:=bQ.1 ha;have pa:=hp a<|fR ha
 refine⟨kq.2 ⟨a,mz.2 ⟨h,hl,hu,ha⟩,by omega,by omega⟩,λx' y' hc=>?_⟩;obtain⟨r,hr,hx,hy⟩:=kq.1 hc;obtain⟨k,hk,huk,hrk⟩:=mz.1 hr;have hle:=hJ.le k hk
 grind [bQ,nz,vc]
theorem wX{u:Nat->Nat}:∀(d i:Nat),∃t,bP (i+d) u=bP i u++t
 | 0,i=>⟨[],by simp⟩
 |d+1,i=>by
  obtain⟨t,ht⟩:=wX (u:=u) d i;rw[<-Nat.add_assoc,ij,ht];split
  ·exact⟨t++[i+d],by simp⟩
  ·exact⟨t,rfl⟩
theorem ML{u:Nat->Nat}{i n:Nat}(hi:i<n)(hu:u i=i):(bP n u)[(bP i u).length]? =some i:=by
 obtain⟨t,ht⟩:=wX (u:=u) (n -(i+1))<|i+1
 rw[show i+1+(n -(i+1))=n by omega]at ht
 grind [ij]
section
variable {N:Nat}
theorem Lw{a b:aH}(ha:EH a)(hb:EH b):jF N a b=some (decide<|Ek a b):=by
 have a1:=ha.s1;have a2:=ha.s2;have a3:=ha.s3;have a4:=ha.s4;have b1:=hb.s1;have b2:=hb.s2;have b3:=hb.s3;have b4:=hb.s4;unfold small at a1 a2 a3 a4 b1 b2 b3 b4;unfold jF;rw[yO,yO,rH,rH,gq (x:=min a.X1 b.X1 - max a.X0 b.X0) (by omega) (by omega),gq (x:=min a.Y1 b.Y1 - max a.Y0 b.Y0) (by omega) (by omega)]
 grind [Ek,gt_iff_lt,ge_iff_le]
theorem insert_eq{l:List (List aH)}{r0:aH}{t:List aH}(hl:l.length<=1000000)(hN:4398046511104<=N)(h:∀x,l[l.length - 1]? =some x->∃x0 t',x=x0::t'/\¬(r0.Y0<x0.Y0\/(r0.Y0=x0.Y0/\r0.X0<x0.X0))):j9 N l (r0::t)=some (l++[r0::t]):=by
 refine UU ?_;unfold j9;refine TZ (U5 (Go:=λs=>s=((l.length:Nat):Int)) (Rt:=λ_=>False) (λs=>s=((l.length:Nat):Int)) (λs=>0) ?_ rfl (by omega)) ?_
 ·rintro s rfl
  by_cases h0:l.length=0
  ·grind [cD,aB,Un]
  ·rw[bY (by omega),aO,jU (by omega) (by omega)];have hx:l[l.length - 1]? =some (l[l.length - 1]'(by omega)):=aN _;obtain⟨x0,t',e,hn⟩:=h _ hx;have i1:idx (r0::t) 0=some r0:=rfl;have i2:idx (l[l.length - 1]'(by omega)) 0=some x0:=by rw[e];rfl
   rw[i1,aB,cG hx,aB,i2,aB]
   grind [iZ,aB,decide,Un]
 intro o ho;refine Uo ho ?_<|λr hr=>hr.elim
 rintro s rfl;refine IT (tJ l l.length<|cJ _)<|UJ ?_<|UJ ?_<|IT (rS l l.length<|cJ _)<|UJ ?_<|OF ?_
 all_goals grind
structure BI (all:List aH) (u:Nat->Nat) (i:Nat) (q:List Nat) (done:List Bool) (own:List aH):Prop where
 len:done.length=all.length
 nd:q.Nodup
 lt:∀k∈q,k<all.length/\u k=i
 hd:i∈q
 dn:∀k,k<all.length->done[k]? =some (decide<|u k<i\/k∈q)
 ow:own.map some=q.map (λk=>all[k]?)
theorem BI.RW{all:List aH}{u:Nat->Nat}{i:Nat}{q:List Nat}{done:List Bool}{own:List aH}(h:BI all u i q done own):own.length=q.length:=by
 have:=congrArg List.length h.ow
 grind
theorem BI.xG{all:List aH}{u:Nat->Nat}{i:Nat}{q:List Nat}{done:List Bool}{own:List aH}(h:BI all u i q done own):q.length<=all.length:=by
 have:=gA h.nd (m:=List.range all.length) (λk hk=>by rw[lk];exact(h.lt k hk).1)
 grind
theorem BI.at_{all:List aH}{u:Nat->Nat}{i:Nat}{q:List Nat}{done:List Bool}{own:List aH}(h:BI all u i q done own){p k:Nat}(hk:q[p]? =some k):own[p]? =all[k]? :=by
 have e:=congrArg (λl=>l[p]?) h.ow
 grind
theorem BI.mem{all:List aH}{u:Nat->Nat}{i:Nat}{q:List Nat}{done:List Bool}{own:List aH}(h:BI all u i q done own){r:aH}:r∈own↔∃k∈q,all[k]? =some r:=by
 have:r∈own↔some r∈own.map some:=by simp
 rw[this,h.ow,dO]
theorem IK{s:List aA}{u:Nat->Nat}{ps:List (List aA)}(hc:fM (s.map cK))(hP:uI s u ps)(hn:(aV s).length<=2000)(hok:∀r∈aV s,EH r)(hps:∀p∈ps,(aV p).length<=2000)(hN:4398046511104<=N):
  gu N (aV s)=some (ps.map aV):=by
 refine UU ?_;have hB:=tm hc;have hpos:=v9 hc;have hJ:=hP.join;have hlen:=hP.len;have heach:=hP.each;clear hP hc;generalize aV s=all at *;unfold gu;refine IT (oO false (by omega)) ?_;have hadj:∀a b,(Bp all a b\/Bp all b a)->u a=u b:=λa b h=>h.elim (λh=>hJ.co a b h)<|λh=>(hJ.co b a h).symm
 refine TZ (UE (n:=all.length) (λst=>st.2.2) (λi st=>st.1.length=all.length/\(∀k,k<all.length->st.1[k]? =some (decide (u k<i)))/\st.2.1=(ps.take (bP i u).length).map aV) (Go:=λst=>st.2.1=ps.map aV) (Rt:=λ_=>False) ?_ ?_ (cS _) rfl
  ⟨by simp,λk hk=>by simp[hk],by simp[bP]⟩ (by omega)) ?_
 ·rintro i⟨done,out,ii⟩hi e⟨hdl,hdn,hout⟩;dsimp only at e hdl hdn hout ⊢;subst e;rw[iR hi,aO];refine T6 (hdn i hi)<|Uv (λhb=>?_)<|λhb=>?_
  ·have hlt:u i<i:=of_decide_eq_true hb;refine Uh ⟨bE (by omega),hdl,λk hk=>?_,?_⟩
   ·rw[hdn k hk];congr 1;rw[decide_eq_decide];have hne:u k≠i:=λe=>by have:=hJ.rr k hk;grind
    omega
   grind [ij]
  ·have hge:¬u i<i:=of_decide_eq_false hb;have hui:u i=i:=by have:=hJ.le i hi;omega
   have hx:all[i]? =some all[i]:=aN hi;refine T6 (hdn i hi)<|T6 hx ?_
   refine TZ (U5 (Go:=λst=>st.1.length=all.length/\(∀k,k<all.length->st.1[k]? =some (decide (u k<i+1)))/\(∀r,r∈st.2.1↔r∈ot all all.length u i)/\st.2.1.length<=all.length) (Rt:=λ_=>False)
    (λst=>∃(q:List Nat)(t:Nat),st.2.2=((t:Nat):Int)/\t<=q.length/\BI all u i q st.1 st.2.1/\∀(p k j:Nat),p<t->q[p]? =some k->j<all.length->(Bp all k j\/Bp all j k)->j∈q)
    (λst=>all.length+1 - st.2.2.toNat) ?_ ⟨[i],0,rfl,by simp,?_,λp k j hp=>by omega⟩ (by simp;omega)) ?_
   ·rintro⟨d1,o1,t'⟩⟨q,t,e,ht,hI,hcl⟩;dsimp only at e hI ⊢;subst e;have hql:=hI.xG;have hol:=hI.RW
    by_cases hlt:t<q.length
    ·rw[iR (by omega:t<o1.length),aO];have hqt:q[t]? =some q[t]:=aN hlt;have hkt:=hI.lt _<|cH hlt
     have hya:all[q[t]]? =some all[q[t]]:=aN hkt.1
     refine TZ (UE (n:=all.length) (λst=>st.2.2) (λj st=>∃q',q <+:q'/\BI all u i q' st.1 st.2.1/\∀j',j'<j->(Bp all q[t] j'\/Bp all j' q[t])->j'∈q')
      (Go:=λst=>∃q',q <+:q'/\BI all u i q' st.1 st.2.1/\∀j',j'<all.length->(Bp all q[t] j'\/Bp all j' q[t])->j'∈q') (Rt:=λ_=>False) ?_ ?_ (cS _) rfl ⟨q,List.prefix_refl _,hI,λj' hj=>by omega⟩ (by omega)) ?_
     ·rintro j⟨d2,o2,jj⟩hj e⟨q',hpre,hI',hc'⟩;dsimp only at e hI' ⊢;subst e;rw[iR hj,aO];have hq't:q'[t]? =some q[t]:=by rw[Cb hpre hqt]
      have hy2:o2[t]? =some all[q[t]]:=by rw[hI'.at_ hq't];exact hya
      have hz:all[j]? =some all[j]:=aN hj;have htc:=Lv hB hpos hya hz;have hcond:((idx d2 ((j:Nat):Int)).bind λx1054=>bif(!x1054)then((idx o2 ((t:Nat):Int)).bind λx1056=>(idx all ((j:Nat):Int)).bind λx1058=>(jF N x1056 x1058).bind λx1061=>some x1061)else some false)=some (!decide (u j<i\/j∈q')&&decide (Ek all[q[t]] all[j])):=by
       rw[cG<|hI'.dn j hj,aB]
       cases decide (u j<i\/j∈q')with
       |true=>rfl
       |false=>rw[kh,aO,cG hy2,aB,cG hz,aB,Lw (hok _ (cH hkt.1)) (hok _ (cH hj)),aB,Bool.true_and]
      refine IT hcond ?_;refine TZ (P:=λst:List Bool×List aH=>∃q',q <+:q'/\BI all u i q' st.1 st.2/\∀j',j'<j+1->(Bp all q[t] j'\/Bp all j' q[t])->j'∈q') (Uv (λhb=>?_)<|λhb=>?_)<|λst hst=>Uh ⟨bE (by omega),hst⟩
      ·rw[cQ,Bool.not_eq_true',decide_eq_false_iff_not,cY]at hb;have hju:u j=i:=by
        rcases htc.1 hb.2 with h|h
        ·rw[<-h];exact hkt.2
        ·rw[<-hadj _ _ h];exact hkt.2
       have hjq:j∉q':=λh=>hb.1<|.inr h
       have hol2:=hI'.RW;have hql2:=hI'.xG;refine T6 (hI'.dn j hj)<|T6 hz<|UJ (by simp only[eI,List.length_nil];omega)<|OF ⟨q'++[j],hpre.trans<|List.prefix_append _ _,⟨?_,?_,?_,?_,?_,?_⟩,?_⟩
       ·rw[iC];exact hI'.len
       ·rw[List.nodup_append];exact⟨hI'.nd,by simp,λa ha b hb=>by simp at hb;subst hb;exact λe=>hjq<|e▸ha⟩
       ·intro k hk
        rcases dH.1 hk with hk|hk
        ·exact hI'.lt k hk
        ·simp at hk;subst hk;exact⟨hj,hju⟩
       ·exact List.mem_append_left _ hI'.hd
       ·intro k hk;rw[cO,ll]
        by_cases e:j=k
        ·subst e;rw[aG rfl,aG (by rw[hI'.len];exact hj)];congr 1;exact(bY<|.inr (by simp)).symm
        ·rw[aI e,hI'.dn k hk];congr 1;rw[decide_eq_decide,dH];simp only[lJ];constructor
         ·exact λh=>h.elim .inl<|λh=> .inr<|.inl h
         ·exact λh=>h.elim .inl<|λh=>h.elim .inr<|λh=>absurd h.symm e
       ·rw[fW,fW,hI'.ow];simp[hz]
       ·intro j' hj' ha
        by_cases e:j'=j
        ·subst e;simp
        ·exact List.mem_append_left _<|hc' j' (by omega) ha
      ·refine OF ⟨q',hpre,hI',λj' hj' ha=>?_⟩
       by_cases e:j'=j
       ·subst e;have hj2:u j'=i:=by rw[<-hadj _ _ ha];exact hkt.2
        rw[bY<|htc.2<|.inr ha,Bool.and_true,Bool.not_eq_false',cY]at hb
        rcases hb with hb|hb
        ·omega
        ·exact hb
       ·exact hc' j' (by omega) ha
     ·rintro⟨d2,o2,jj⟩e hI2;dsimp only at e hI2 ⊢;subst e;rw[l6,aR];exact Un hI2
     intro o ho;refine Uo ho ?_<|λr hr=>hr.elim
     rintro⟨d2,o2,jj⟩⟨q',hpre,hI',hc'⟩;dsimp only at hI' ⊢;refine Uh ⟨⟨q',t+1,bE (by omega),?_,hI',λp k j hp hk hj ha=>?_⟩,?_⟩
     ·have:=hpre.length_le;omega
     ·by_cases e:p=t
      ·subst e;rw[Cb hpre hqt]at hk;injection hk with hk;subst hk
       exact hc' j hj ha
      ·have hpq:q[p]? =some (q[p]'(by omega)):=aN _;rw[Cb hpre hpq]at hk;injection hk with hk;subst hk
       exact hpre.subset<|hcl p _ j (by omega) hpq hj ha
     ·rw[bE (by omega)];simp only[cO];omega
    ·rw[Be (by omega:o1.length<=t),aR];have htq:t=q.length:=by omega
     have hcls:∀k,k<all.length->(k∈q↔u k=i):=λk hk=>⟨λh=>(hI.lt k h).2,λh=>by
      have hstep:∀a b,Bp all a b->(a∈q↔b∈q):=λa b hab=>by
       have hab':=hab;obtain⟨ra,rb,e1,e2,_⟩:=hab';have hla:=(bQ.1 e1).1;have hlb:=(bQ.1 e2).1;constructor
       ·intro h';obtain⟨p,hp⟩:=eE h';exact hcl p a b (by rw[htq];exact(bQ.1 hp).1) hp hlb<|.inl hab
       ·intro h';obtain⟨p,hp⟩:=eE h';exact hcl p b a (by rw[htq];exact(bQ.1 hp).1) hp hla<|.inr hab
      exact hJ.fi (λk=>k∈q) hstep i k hi hk (by rw[hui,h]) hI.hd⟩
     refine Un ⟨hI.len,λk hk=>?_,λr=>?_,by rw[hol];exact hql⟩
     ·rw[hI.dn k hk];congr 1;rw[decide_eq_decide,hcls k hk];omega
     ·rw[hI.mem,mz];constructor
      ·rintro⟨k,hk,h⟩;exact⟨k,(hI.lt k hk).1,(hI.lt k hk).2,h⟩
      ·rintro⟨k,hk,h1,h2⟩;exact⟨k,(hcls k hk).2 h1,h2⟩
   ·refine⟨by rw[iC];exact hdl,by simp,λk hk=>by simp at hk;subst hk;exact⟨hi,hui⟩,by simp,λk hk=>?_,by simp[hx]⟩;rw[cO,ll]
    by_cases e:i=k
    ·subst e;rw[aG rfl,aG (by rw[hdl];exact hi)];congr 1;exact(bY<|.inr (by simp)).symm
    ·rw[aI e,hdn k hk];congr 1;rw[decide_eq_decide];simp only[lJ];omega
   intro o ho;refine Uo ho ?_<|λr hr=>hr.elim
   rintro⟨d1,o1,t'⟩⟨g1,g2,g3,g4⟩;dsimp only at g1 g2 g3 g4 ⊢;have hh:=ML hi hui;have hml:(bP i u).length<ps.length:=by rw[hlen];exact(bQ.1 hh).1
   have hpp:ps[(bP i u).length]? =some ps[(bP i u).length]:=aN hml;have oy:=heach _ _ _ hh hpp;have hcov:∀x y,xF (ps[(bP i u).length].map cK) x y=uH o1 x y:=λx y=>by rw[oy.cover];exact(NN g3 x y).symm
   have hpl:=hps _<|cH hml
   refine IT (wV oy.can hcov (by omega) (λr hr=>?_) (by omega) hN) ?_
   ·obtain⟨k,_,_,hk⟩:=mz.1<|(g3 r).1 hr
    exact(hpos r<|fR hk).1
   have hfirst:∀(j h:Nat)p,(bP all.length u)[j]? =some h->ps[j]? =some p->∃r t a,aV p=r::t/\all[h]? =some a/\r.X0=a.X0/\r.Y0=a.Y0:=λj h p hj hp=>by
    have hs:=heach j h p hj hp;obtain⟨hhl,hhu⟩:=iw.1<|fR hj
    have ha:all[h]? =some all[h]:=aN hhl;have hne:p≠[]:=λe=>by
     have hL:=(FQ hB hpos hJ ha hhu).1;rw[<-hs.cover,e]at hL
     cases hL
    obtain⟨r,t,e1,e2,_⟩:=JN hs.can hne;have e2':wW (uH<|ot all all.length u h) r.X0 r.Y0:=⟨by rw[<-hs.cover];exact e2.1,λx' y' hxy=>e2.2 x' y' (by simp only;rw[hs.cover];exact hxy)⟩;obtain⟨e3,e4⟩:=e2'.unique<|FQ hB hpos hJ ha hhu
    exact⟨r,t,all[h],e1,ha,e3,e4⟩
   obtain⟨r,t,a,e1,e2,e3,e4⟩:=hfirst _ _ _ hh hpp;have hheads:(bP i u).length<=i:=lH i u;rw[e1];refine IT (insert_eq (by rw[hout,eB,dS];omega) hN<|λx hxl=>?_)<|Uh ⟨bE (by omega),g1,g2,?_⟩
   ·have hol:out.length=(bP i u).length:=by rw[hout,eB,dS];omega
    have hpos2:0<(bP i u).length:=by
     have:=(bQ.1 hxl).1;omega
    rw[hout,il,eB,dS,show min (bP i u).length ps.length=(bP i u).length by omega,List.getElem?_take_of_lt (by omega)]at hxl;have hp2:ps[(bP i u).length - 1]? =some (ps[(bP i u).length - 1]'(by omega)):=aN _;rw[hp2]at hxl;injection hxl with hxl
    have hh2:(bP i u)[(bP i u).length - 1]? =some ((bP i u)[(bP i u).length - 1]'(by omega)):=aN _;have hm2:=iw.1<|fR hh2
    obtain⟨tl,htl⟩:=wX (u:=u) (all.length - i) i;rw[show i+(all.length - i)=all.length by omega]at htl;have hh3:(bP all.length u)[(bP i u).length - 1]? =some ((bP i u)[(bP i u).length - 1]'(by omega)):=by rw[htl,jI (by omega)];exact hh2
    obtain⟨r',t',a',f1,f2,f3,f4⟩:=hfirst _ _ _ hh3 hp2;refine⟨r',t',by rw[<-hxl];exact f1,?_⟩;obtain⟨l1,q1⟩:=bQ.1 f2;obtain⟨l2,q2⟩:=bQ.1 e2;have hbh:=nz.1 hB _ _ l1 l2 hm2.1;rw[q1,q2]at hbh;have p1:=hpos a'<|fR f2
    unfold vc at hbh;rw[e3,e4,f3,f4];omega
   ·dsimp only;rw[ij,aG hui,dX,hout];simp only[eI,List.length_nil];rw[dQ hml,fW,fN,List.map_nil,e1]
 ·rintro⟨done,out,ii⟩e⟨_,_,hout⟩;dsimp only at e hout ⊢;subst e;rw[l6,aR];refine Un ?_;dsimp only;rw[hout,mF (by rw[hlen];omega)]
 intro o ho;exact Uo ho (λs hs=>OF hs)<|λr hr=>hr.elim
end
section
variable {α β:Type}
theorem MM{N:Nat}{l:List α}{s:β}{φ:α->β->Option Int}(c:α->Int)(hφ:∀x,φ x s=some (c x))(hs:∀(i j:Nat)(x y:α),i<j->l[i]? =some x->l[j]? =some y->0<=c x->0<c y)
  (hl:l.length<=1048576) (hN:4194304<=N):∃r,Ml N l s φ=some r/\r.2=l.any (λx=>c x==0)/\(r.2=true->r.1=K4 l (λx=>c x==0)):=by
 show Ok (Ml N l s φ) (λr=>r.2=l.any (λx=>c x==0)/\(r.2=true->r.1=K4 l (λx=>c x==0)));unfold Ml
 refine TZ (U5 (Go:=λst:Int×Int=>∃a:Nat,st.1=((a:Nat):Int)/\a<=l.length/\(∀j x,j<a->l[j]? =some x->c x<0)/\(∀j x,a<=j->l[j]? =some x->0<=c x)) (Rt:=λ_=>True)
  (λst=>∃a b:Nat,st=(((a:Nat):Int),((b:Nat):Int))/\a<=b/\b<=l.length/\(∀j x,j<a->l[j]? =some x->c x<0)/\(∀j x,b<=j->l[j]? =some x->0<=c x))
  (λst=>(st.2 - st.1).toNat) ?_ ⟨0,l.length,rfl,by omega,cJ _,λj x hj=>by omega,λj x hj hx=>by grind⟩ (by omega)) ?_
 ·rintro st⟨a,b,rfl,hab,hb,h1,h2⟩;dsimp only
  by_cases hlt:a<b
  ·have hm:(a+b) / 2<l.length:=by omega
   have hx:l[(a+b) / 2]? =some l[(a+b) / 2]:=aN hm;rw[show decide (((a:Nat):Int)<((b:Nat):Int))=true by grind,aO,K5 hlt (by omega)];refine T6 hx<|IT (hφ _) ?_
   by_cases hc:c l[(a+b) / 2]<0
   ·rw[bY hc,aO,aB];refine Uh ⟨⟨(a+b) / 2+1,b,?_,by omega,hb,λj x hj hx'=>?_,h2⟩,?_⟩
    ·rw[bE (by omega)]
    ·by_cases e:j=(a+b) / 2
     ·subst e;rw[hx]at hx';injection hx' with hx';rw[<-hx'];exact hc
     ·by_cases h0:c x<0
      ·exact h0
      ·have:=hs j _ x _ (by omega) hx' hx (by omega);omega
    ·rw[bE (by omega)];simp only;omega
   ·rw[cD hc,aR,aB];refine Uh ⟨⟨a,(a+b) / 2,rfl,by omega,by omega,h1,λj x hj hx'=>?_⟩,by simp only;omega⟩
    by_cases e:j=(a+b) / 2
    ·subst e;rw[hx]at hx';injection hx' with hx';rw[<-hx'];omega
    ·have:=hs _ j _ x (by omega) hx hx' (by omega);omega
  ·rw[show decide (((a:Nat):Int)<((b:Nat):Int))=false by rw[decide_eq_false_iff_not];omega,aR];exact Un ⟨a,rfl,by omega,h1,λj x hj hx=>h2 j x (by omega) hx⟩
 intro o ho;refine Uo ho ?_<|λr hr=>r.elim
 rintro⟨st1,st2⟩⟨a,ha,hle,h1,h2⟩;dsimp only at ha ⊢;subst ha
 by_cases hlt:a<l.length
 ·have hx:l[a]? =some l[a]:=aN hlt;rw[show decide (((a:Nat):Int)<((l.length:Nat):Int))=true by rw[cY];omega,aO,cG hx,aB,hφ,aB,aB];refine OF ?_
  by_cases he:c l[a]=0
  ·have hb:(c l[a]==0)=true:=by rw[beq_iff_eq];exact he
   rw[hb];refine⟨(kJ.2 ⟨_,cH hlt,hb⟩).symm,λ_=>?_⟩;rw[Mk hx hb (λj y hj hy=>by have:=h1 j y hj hy;rw[beq_eq_false_iff_ne];omega)]
  ·have hb:(c l[a]==0)=false:=by rw[beq_eq_false_iff_ne];exact he
   rw[hb];refine⟨?_,λh=>by cases h⟩;symm;rw[List.any_eq_false];intro x hx';obtain⟨j,hj⟩:=eE hx';rw[ma,beq_eq_false_iff_ne]
   by_cases hja:j<a
   ·have:=h1 j x hja hj;omega
   ·by_cases e:j=a
    ·subst e;rw[hx]at hj;injection hj with hj;rw[<-hj];exact he
    ·have h3:=h2 a _ (cJ _) hx;have:=hs a j _ x (by omega) hx hj h3;omega
 ·rw[show decide (((a:Nat):Int)<((l.length:Nat):Int))=false by rw[decide_eq_false_iff_not];omega,aR,aB];refine OF ⟨?_,λh=>by cases h⟩;symm;rw[List.any_eq_false];intro x hx';obtain⟨j,hj⟩:=eE hx';have:=(bQ.1 hj).1;have:=h1 j x (by omega) hj;rw[ma,beq_eq_false_iff_ne];omega
end
def Cc(p q:fz):Prop:=eV.lt p.Part q.Part\/(p.Part=q.Part/\eV.lt p.fz q.fz)
theorem KB{p q:fz}(h1:p.Part=q.Part)(h2:p.fz=q.fz):p=q:=by cases p;simp_all
theorem Cc.irrefl(p:fz):¬Cc p p:=λh=>by
 rcases h with h|⟨_,h⟩
 ·exact eV.lt_irrefl _ h
 ·exact eV.lt_irrefl _ h
theorem Cc.trans{p q r:fz}(h1:Cc p q)(h2:Cc q r):Cc p r:=by
 rcases h1 with h1|⟨e1,h1⟩ <;> rcases h2 with h2|⟨e2,h2⟩
 ·exact .inl<|eV.lt_trans h1 h2
 ·exact .inl (by grind)
 ·exact .inl (by grind)
 ·exact .inr ⟨e1.trans e2,eV.lt_trans h1 h2⟩
theorem Cc.total(p q:fz):Cc p q\/p=q\/Cc q p:=by
 rcases eV.H8 p.Part q.Part with h|h|h
 ·exact .inl<|.inl h
 ·rcases eV.H8 p.fz q.fz with h'|h'|h'
  ·exact .inl<|.inr ⟨h,h'⟩
  ·grind [KB]
  ·exact .inr<|.inr<|.inr ⟨h.symm,h'⟩
 ·exact .inr<|.inr<|.inl h
theorem Cc.asymm{p q:fz}(h:Cc p q):¬Cc q p:=λh'=>Cc.irrefl p<|h.trans h'
theorem Cc.ne{p q:fz}(h:Cc p q):p≠q:=by grind [Cc.irrefl]
theorem Cd{a b:eV}:Lib.compareBytes a.dP b.dP=0↔a=b:=by grind [eV.ext',Dx]
theorem qT{p q:fz}:kr p q=0↔p=q:=by
 grind [kr,Lib.compareBytes,Cd,KB]
theorem z9{p q:fz}:kr p q<0↔Cc p q:=by
 unfold kr Cc
 by_cases h:Lib.compareBytes p.Part.dP q.Part.dP=0
 ·rw[aI (by simpa using h),zP];have e:=Cd.1 h;constructor
  ·exact λh'=> .inr ⟨e,h'⟩
  ·rintro(h'|⟨_,h'⟩)
   ·grind [eV.lt_irrefl]
   ·exact h'
 ·rw[aG h,zP];constructor
  ·exact λh'=> .inl h'
  ·rintro(h'|⟨e,_⟩)
   ·exact h'
   grind [Cd]
theorem Aa{p q:fz}:0<kr p q↔Cc q p:=by
 constructor
 ·intro h
  rcases Cc.total p q with h'|h'|h'
  ·have:=z9.2 h';omega
  all_goals grind [qT]
 ·intro h
  by_cases h1:kr p q<0
  ·exact absurd (z9.1 h1) h.asymm
  ·by_cases h2:kr p q=0
   ·exact absurd (qT.1 h2).symm h.ne
   ·omega
section
variable {N:Nat}
structure JO (a:jO) (x:dE):Prop where
 name:o8 x.Part=true/\isWord x.fz=true
 RT:0<=x.cL/\x.cL<((a.aK.length:Nat):Int)
 at_:t8 x.At=true
structure we (a:jO):Prop where
 xG:a.bV.length<=1000
 each:∀x∈a.bV,JO a x
 up:a.bV.Pairwise (λx y=>Cc (l8 x)<|l8 y)
theorem GS{a:jO}{k:Nat}{x:dE}(hx:a.bV[k]? =some x)(h:lx a k=none):JO a x/\∀y,0<k->a.bV[k - 1]? =some y->Cc (l8 y) (l8 x):=by
 unfold lx at h;rw[hx,Option.bind_some]at h;split at h
 ·rename_i h1;split at h
  ·rename_i h2;split at h
   ·cases h
   ·rename_i h3;rw[cQ]at h1 h2;unfold gY at h2;rw[cQ,cY,cY]at h2;refine⟨⟨h1,⟨by omega,by omega⟩,h2.2⟩,λy hk hy=>?_⟩
    grind [kr,Aa]
  ·cases h
 ·cases h
theorem El{a:jO}{k:Nat}{e:Int}(h:lx a k=some e):e≠0:=by
 unfold lx at h
 cases hx:a.bV[k]? with
 |none=>grind
 |some x=>
  rw[hx,Option.bind_some]at h
  repeat' split at h
  all_goals grind
theorem Lx{a:jO}(h:mY a=0):we a:=by
 unfold mY at h;split at h
 ·omega
 rename_i hl;have hn:wD a.bV.length (lx a)=none:=by
  cases hf:wD a.bV.length (lx a)with
  |none=>rfl
  |some e=>
   grind [oN,El]
 rw[mw]at hn;have hg:∀(k:Nat)x,a.bV[k]? =some x->JO a x/\∀y,0<k->a.bV[k - 1]? =some y->Cc (l8 y) (l8 x):=λk x hx=>GS hx<|hn k (bQ.1 hx).1
 refine⟨by omega,λx hx=>?_,?_⟩
 ·grind [eE]
 ·have hstep:∀(n i:Nat)x y,a.bV[i]? =some x->a.bV[i+n+1]? =some y->Cc (l8 x) (l8 y):=by
   intro n
   induction n with
   |zero=>grind
   |succ n ih=>
    intro i x y hx hy;have hz:i+n+1<a.bV.length:=by grind
    have h1:=ih i x _ hx<|aN hz
    exact h1.trans<|(hg (i+(n+1)+1) y hy).2 _ (by omega) (by grind)
  rw[nz];intro i j hi hj hij;exact hstep (j - i - 1) i _ _ (aN hi) (by rw[show i+(j - i - 1)+1=j by omega];exact aN hj)
theorem we.inj{a:jO}(h:we a){i j:Nat}{x y:dE}(hx:a.bV[i]? =some x)(hy:a.bV[j]? =some y)(e:l8 x=l8 y):i=j:=by
 obtain⟨h1,rfl⟩:=bQ.1 hx;obtain⟨h2,rfl⟩:=bQ.1 hy;have hp:=nz.1 h.up
 rcases Nat.lt_trichotomy i j with h3|h3|h3
 ·exact absurd e (hp i j h1 h2 h3).ne
 ·exact h3
 ·exact absurd e.symm (hp j i h2 h1 h3).ne
theorem IL{l:List dE}{p:fz}(hu:l.Pairwise (λx y=>Cc (l8 x)<|l8 y))(hl:l.length<=1048576)(hN:4194304<=N){φ:dE->fz->Option Int}(hφ:∀x,φ x p=some (kr (l8 x) p)):
  ∃r,Ml N l p φ=some r/\(bif(!r.2)then some (-1)else some r.1)=some (K4 l<|λx=>decide<|l8 x=p):=by
 obtain⟨r,h1,h2,h3⟩:=MM (N:=N) (l:=l) (s:=p) (φ:=φ) (λx=>kr (l8 x) p) hφ (λi j x y hij hx hy hc=>by
  obtain⟨g1,rfl⟩:=bQ.1 hx;obtain⟨g2,rfl⟩:=bQ.1 hy;have hlt:=nz.1 hu i j g1 g2 hij;refine Aa.2 ?_
  by_cases h0:kr (l8 l[i]) p=0
  ·rw[<-qT.1 h0];exact hlt
  ·exact(Aa.1 (by omega)).trans hlt) hl hN
 have e:(λx=>kr (l8 x) p==0)=(λx=>decide<|l8 x=p):=by
  funext x;rw[jq,beq_iff_eq,cY,qT]
 rw[e]at h2 h3;refine⟨r,h1,?_⟩
 cases hr:r.2 with
 |true=>simp only[ln,aR];rw[h3 hr]
 |false=>
  simp only[kh,aO];rw[hr]at h2;rw[Mj h2.symm]
def KC(a:jO)(p:fz):Int:=K4 a.bV<|λx=>decide<|l8 x=p
end
theorem yt{α β:Type}{l:List α}{f:α->Option β}{k:Nat}{x:α}{c:β}(hx:l[k]? =some x)(hn:∀(j:Nat)y,j<k->l[j]? =some y->f y=none)(hc:f x=some c):l.findSome? f=some c:=by
 obtain⟨hk,rfl⟩:=bQ.1 hx;rw[List.findSome?_eq_some_iff];refine⟨l.take k,l[k],l.drop<|k+1,?_,hc,λy hy=>?_⟩
 ·rw[List.getElem_cons_drop,List.take_append_drop]
 grind [eE,bQ,dS,List.getElem?_take_of_lt]
theorem CF{α β:Type}{l:List α}{f:α->Option β}(h:∀(j:Nat)y,j<l.length->l[j]? =some y->f y=none):l.findSome? f=none:=by
 grind [List.findSome?_eq_none_iff,eE,bQ]
section
variable {N:Nat}
theorem RX(c:UInt8):(bif(!(((decide (((c.toNat:Nat):Int)>=97)&&decide (((c.toNat:Nat):Int)<=122))||(decide (((c.toNat:Nat):Int)>=65)&&decide (((c.toNat:Nat):Int)<=90)))||(decide (((c.toNat:Nat):Int)>=48)&&decide (((c.toNat:Nat):Int)<=57))))then((iE N (⟨[95,43,45,35]⟩) ((c.toNat:Nat):Int)).bind λx50=>some<|decide<|x50<0)else some false)=some (Ik c):=by
 rw[wO,aB];unfold Ik;generalize decide (Lib.indexByte (⟨[95,43,45,35]⟩:eV).dP c<0)=p;have e:(!(((decide (((c.toNat:Nat):Int)>=97)&&decide (((c.toNat:Nat):Int)<=122))||(decide (((c.toNat:Nat):Int)>=65)&&decide (((c.toNat:Nat):Int)<=90)))||(decide (((c.toNat:Nat):Int)>=48)&&decide (((c.toNat:Nat):Int)<=57))))=(((decide (((c.toNat:Nat):Int)<65)||decide (((c.toNat:Nat):Int)>90))&&(decide (((c.toNat:Nat):Int)<97)||decide (((c.toNat:Nat):Int)>122)))&&(decide (((c.toNat:Nat):Int)<48)||decide (((c.toNat:Nat):Int)>57))):=by
  grind
 grind
theorem CG{s:eV}(h:s.dP.length<=2097152)(hN:4194304<=N):g8 N s=some (isWord s):=by
 refine UU ?_;unfold g8 isWord;refine TZ (UE (n:=s.dP.length) (λs=>s) (λk _=>∀(j:Nat)x,j<k->s.dP[j]? =some x->Ik x=false) (Go:=λ_=>s.dP.any Ik=false) (Rt:=λr=>r=false/\s.dP.any Ik=true) ?_ ?_ (cS _) rfl (λj x hj=>by omega) (by omega)) ?_
 ·rintro k i hk e hI;subst e;rw[iR hk,aO];refine IT (H7 s k hk)<|IT (RX _)<|Uv (λhb=>UZ ⟨rfl,kJ.2 ⟨_,cH hk,hb⟩⟩)<|λhb=>Uh ⟨bE (by omega),λj x hj hx=>?_⟩
  grind
 ·grind [Un,List.any_eq_false,eE,bQ]
 intro o ho;refine Uo ho (λs' hs'=>?_)<|λr hr=>OF (by grind)
 rw[hs'];show Ok ((some _).bind _) _
 grind [OF,kh]
theorem IM{s:eV}(h:s.dP.length<=2097152)(hN:4194304<=N):j8 N s=some (o8 s):=by
 refine UU ?_;unfold j8 o8;refine IT (Im 47 h hN) ?_;have hsn:=FH s 47;refine TZ (UE (n:=(pR s 47).length) (λs=>s) (λk _=>∀(j:Nat)x,j<k->(pR s 47)[j]? =some x->isWord x=true) (Go:=λ_=>(pR s 47).all isWord=true) (Rt:=λr=>r=false/\(pR s 47).all isWord=false) ?_ ?_ (cS _) rfl (λj x hj=>by omega) (by omega)) ?_
 ·rintro k i hk e hI;subst e;rw[iR hk,aO];have hx:(pR s 47)[k]? =some (pR s 47)[k]:=aN hk;have hl:=FG<|cH hk
  refine T6 hx<|IT (CG (by omega) hN)<|Uv (λhb=>UZ ⟨rfl,?_⟩)<|λhb=>Uh ⟨bE (by omega),λj x hj hx'=>?_⟩
  ·grind
  grind
 ·grind [Un,lL,eE,bQ]
 intro o ho;refine Uo ho (λs' hs'=>OF ?_)<|λr hr=>OF (by grind)
 grind
theorem uN(n lo hi:Int):eP N n lo hi=some (gY n lo hi):=rfl
theorem pH{b:bU}(h:sN b=true):cP N b=some (yj b):=ov (N:=N) h
theorem Ce{b:bU}:iz N b=some (nJ b).2:=by
 have e1:(bif(!(gY b.dV 1 10000))then some true else some (!(t8 b.At)))=some (!sN b):=by unfold sN;cases gY b.dV 1 10000 <;> rfl
 have e2:∀n,dA N n=some (ou n):=λ_=>rfl;unfold iz nJ;rw[uN,aB,Cw,aB,e1,aB]
 cases hf:sN b with
 |false=>rfl
 |true=>
  rw[ln,aR,pH hf,aB];simp only[e2,aB];unfold dJ
  cases ou (yj b).X0 <;> cases ou (yj b).Y0 <;> cases ou (yj b).X1 <;> cases ou (yj b).Y1 <;> rfl
theorem PH{x y:dE}:(x.Part.wj y.Part||(x.Part.wi y.Part&&(x.fz.wj y.fz||x.fz.wi y.fz)))=decide (kr (l8 x) (l8 y)<=0):=by
 have hle:kr (l8 x) (l8 y)<=0↔Cc (l8 x) (l8 y)\/l8 x=l8 y:=by
  rw[<-z9,<-qT];omega
 rw[jq,cY,hle,iB,cQ,iB,Gr,Gr];unfold Cc l8;simp only[fz.mk.injEq];constructor
 ·rintro(h|⟨h1,h2|h2⟩)
  ·exact .inl<|.inl h
  ·exact .inl<|.inr ⟨h1,h2⟩
  grind
 ·rintro((h|⟨h1,h2⟩)|⟨h1,h2⟩)
  ·exact .inl h
  ·exact .inr ⟨h1, .inl h2⟩
  grind
theorem Em{a:jO}(hc:a.aK.length<=1073741824)(hl:a.bV.length<=1073741824){k:Nat}{x:dE}(hx:a.bV[k]? =some x)(hn:x.Part.dP.length<=2097152/\x.fz.dP.length<=2097152)(hN:4194304<=N):i6 N a ((k:Nat):Int)=some ((lx a k).getD 0):=by
 have hk:=(bQ.1 hx).1;have hw:wrap .i64 (((a.aK.length:Nat):Int) - 1)=((a.aK.length:Nat):Int) - 1:=gq (by omega) (by omega);unfold i6 lx;rw[cG hx,aB,IM hn.1 hN,aB,hx,Option.bind_some];have e1:(bif(!(o8 x.Part))then some true else((g8 N x.fz).bind λx44=>some<|!x44))=some (!(o8 x.Part&&isWord x.fz)):=by
  grind [CG,aB,o8]
 rw[e1,aB]
 cases h1:(o8 x.Part&&isWord x.fz)with
 |false=>rfl
 |true=>
  rw[ln,aR,aG rfl,hw,uN,aB];have e2:(bif(!(gY x.cL 0<|((a.aK.length:Nat):Int) - 1))then some true else((gL N x.At).bind λx57=>some<|!x57))=some (!(gY x.cL 0 (((a.aK.length:Nat):Int) - 1)&&t8 x.At)):=by
   grind [Cw,aB]
  rw[e2,aB]
  cases h2:(gY x.cL 0 (((a.aK.length:Nat):Int) - 1)&&t8 x.At)with
  |false=>rfl
  |true=>
   rw[ln,aR,aG rfl]
   by_cases h0:0<k
   ·have hy:a.bV[k - 1]? =some (a.bV[k - 1]'(by omega)):=aN _;rw[bY (by omega),aO,jU h0 (by omega),cG hy,aB,PH]
    by_cases h3:kr (l8 x) (l8<|a.bV[k - 1]'(by omega))<=0
    ·rw[bY h3,aO,aG ⟨h0,_,hy,h3⟩];rfl
    grind
   grind
noncomputable def mZ(a:jO):Int:=if a.aK.length=0 then 9 else if 16<a.aK.length then 2 else match a.aK.findSome? yo with
 |some e=>e
 |none=>if jW a.cU≠0 then jW a.cU else if 2000<a.cU.length+(a.aK.map List.length).sum then 2 else if jC a≠0 then jC a else mY a
theorem IP(a:jO):kG a=if mZ a≠0 then mZ a else if sO a then 12 else 0:=by
 unfold kG mZ Lp GL
 by_cases h0:a.aK.length=0
 ·rw[aG h0,aG h0,aG (by decide)]
 rw[aI h0,aI h0]
 by_cases h1:16<a.aK.length
 ·rw[aG h1,aG h1,aG (by decide)]
 rw[aI h1,aI h1]
 cases hf:a.aK.findSome? yo with
 |some e=>
  have he:e≠0:=by
   obtain⟨_,x,_,_,hx,_⟩:=List.findSome?_eq_some_iff.1 hf;unfold yo at hx;split at hx
   ·rename_i h;injection hx with hx;rw[<-hx];exact h
   ·cases hx
  dsimp only;rw[aG he]
 |none=>
  dsimp only
  by_cases h2:jW a.cU≠0
  ·rw[aG h2,aG h2,aG h2]
  rw[aI h2,aI h2]
  by_cases h3:2000<a.cU.length+(a.aK.map List.length).sum
  ·rw[aG h3,aG h3,aG (by decide)]
  rw[aI h3,aI h3]
  by_cases h4:jC a≠0
  ·rw[aG h4,aG h4,aG h4]
  rw[aI h4,aI h4]
theorem En{a:jO}(h:mZ a=0):jC a=0:=by
 unfold mZ at h
 grind [yo,List.findSome?_eq_some_iff,jW,List.length,jC]
theorem CU{a:jO}(hs:vY a)(hN:4398046511104<=N):iN N a=some (mZ a):=by
 refine UU ?_;have c1:=hs.cs;have c2:=hs.out;have c3:=hs.bs;have c4:=hs.ls;unfold iN mZ;refine Uv (λh=>OF ?_)<|λh=>?_
 ·grind
 have h0:¬a.aK.length=0:=by grind
 rw[aI h0];refine Uv (λh=>OF ?_)<|λh=>?_
 ·grind
 have h1:¬16<a.aK.length:=by grind
 rw[aI h1];have sumle:∀k,k<=a.aK.length->((a.aK.take k).map List.length).sum<=k*1048576:=by
  intro k
  induction k with
  |zero=>intro _;simp
  |succ k ih=>
   intro hk;have:=ih (by omega);have h2:=hs.each _<|cH (show k<a.aK.length by omega)
   rw[dQ (by omega),fW,List.sum_append]
   grind
 refine TZ (UE (n:=a.aK.length) (λs=>s.2) (λk s=>s.1=((a.cU.length+((a.aK.take k).map List.length).sum:Nat):Int)/\∀(j:Nat)r,j<k->a.aK[j]? =some r->yo r=none)
  (Go:=λs=>s.1=((a.cU.length+(a.aK.map List.length).sum:Nat):Int)/\a.aK.findSome? yo=none) (Rt:=λr=>a.aK.findSome? yo=some r) ?_ ?_ (cS _) rfl ⟨by simp,λj r hj=>by omega⟩ (by omega)) ?_
 ·rintro k⟨m,i⟩hk e⟨hm,hI⟩;dsimp only at e hm ⊢;subst e;subst hm;have hx:a.aK[k]? =some a.aK[k]:=aN hk;have he:=hs.each _<|cH hk
  have hsl:=sumle k (by omega);rw[iR hk,aO];refine T6 hx<|IT (xl (by omega) hN)<|Uv (λhb=>UZ ?_)<|λhb=>T6 hx<|Uh ⟨bE (by omega),?_,λj r hj hr=>?_⟩
  ·grind [yt,yo]
  ·dsimp only;rw[wrap_add (by omega),dQ hk,fW,List.sum_append]
   grind
  grind [yo]
 ·rintro⟨m,i⟩e⟨hm,hI⟩;dsimp only at e hm ⊢;subst e;rw[l6,aR];rw[eM]at hm;exact Un ⟨hm,CF hI⟩
 intro o ho;refine Uo ho ?_<|λr hr=>OF (by rw[hr])
 rintro⟨m,i⟩⟨hm,hf⟩;dsimp only at hm ⊢;subst hm;rw[hf];dsimp only;refine IT (xl (by omega) hN)<|Uv (λh=>OF ?_)<|λh=>?_
 ·rw[aG (by simpa using h)]
 rw[aI (by simpa using h)];have hmr:Ok (bif decide (((a.cU.length+(a.aK.map List.length).sum:Nat):Int)>2000)then some true else some (decide<|((a.aM.length:Nat):Int)>500)) (λb=>b=decide (2000<a.cU.length+(a.aK.map List.length).sum\/500<a.aM.length)):=by
  by_cases h2:2000<a.cU.length+(a.aK.map List.length).sum
  ·rw[bY (by omega),aO];exact OF (bY<|.inl h2).symm
  ·rw[cD (by omega),aR];refine OF ?_;rw[decide_eq_decide];omega
 refine TZ hmr λb hb=>?_;subst hb;refine Uv (λh=>OF ?_)<|λh=>?_
 ·have h:=of_decide_eq_true h
  by_cases h2:2000<a.cU.length+(a.aK.map List.length).sum
  ·rw[aG h2]
  ·rw[aI h2];have hb:jC a=2:=by unfold jC;rw[aG (by omega)]
   rw[hb,aG (by decide)]
 have h:=of_decide_eq_false h;rw[aI (by omega)];have hbe:jC a=(a.aM.findSome?<|mP a.aK.length).getD 0:=by unfold jC;rw[aI (by omega)]
 have hw:wrap .i64 (((a.aK.length:Nat):Int) - 1)=((a.aK.length:Nat):Int) - 1:=gq (by omega) (by omega);refine TZ (UE (n:=a.aM.length) (λs=>s) (λk _=>∀(j:Nat)b,j<k->a.aM[j]? =some b->mP a.aK.length b=none) (Go:=λ_=>a.aM.findSome? (mP a.aK.length)=none) (Rt:=λr=>a.aM.findSome? (mP a.aK.length)=some r/\r≠0) ?_ ?_ (cS _) rfl (λj b hj=>by omega) (by omega)) ?_
 ·rintro k i hk e hI;subst e;rw[iR hk,aO];have hx:a.aM[k]? =some a.aM[k]:=aN hk;refine T6 hx<|IT Ce<|Uv (λhb=>UZ ?_)<|λhb=>?_
  ·have hb:(nJ a.aM[k]).2≠0:=by simpa using hb
   exact⟨yt hx hI (by unfold mP;rw[aG hb]),hb⟩
  ·have hb:¬(nJ a.aM[k]).2≠0:=by simpa using hb
   rw[hw];have e2:((eP N a.aM[k].cB 0<|((a.aK.length:Nat):Int) - 1).bind λx135=>bif(!x135)then some true else((eP N a.aM[k].To a.aM[k].cB<|((a.aK.length:Nat):Int) - 1).bind λx138=>some<|!x138))=some (!(gY a.aM[k].cB 0 (((a.aK.length:Nat):Int) - 1)&&gY a.aM[k].To a.aM[k].cB (((a.aK.length:Nat):Int) - 1))):=by
    rw[uN,aB,uN,aB]
    cases gY a.aM[k].cB 0 (((a.aK.length:Nat):Int) - 1) <;> rfl
   refine IT e2<|Uv (λh3=>UZ ⟨yt hx hI ?_,by decide⟩)<|λh3=>Uh ⟨bE (by omega),λj b hj hb'=>?_⟩
   ·unfold mP;rw[aI hb,aI (by rintro⟨g1,g2⟩;rw[g1,g2]at h3;cases h3)]
   ·by_cases e:j=k
    ·subst e;rw[hx]at hb';injection hb' with hb';rw[<-hb']
     rw[Bool.not_eq_false',cQ]at h3;unfold mP;rw[aI hb,aG h3]
    ·exact hI j b (by omega) hb'
 ·rintro i e hI;subst e;rw[l6,aR];exact Un<|CF hI
 intro o ho;refine Uo ho ?_<|λr hr=>OF ?_
 rotate_left
 ·rw[hbe,hr.1,Option.getD_some,aG hr.2]
 intro _ hbn;rw[hbe,hbn,Option.getD_none,aI (by decide)];unfold mY;refine Uv (λh=>OF ?_)<|λh=>?_
 ·rw[aG (by have:=of_decide_eq_true h;omega)]
 have h5:¬1000<a.bV.length:=by have:=of_decide_eq_false h;omega
 rw[aI h5];refine TZ (UE (n:=a.bV.length) (λs=>s) (λk _=>∀j,j<k->lx a j=none) (Go:=λ_=>wD a.bV.length (lx a)=none) (Rt:=λr=>wD a.bV.length (lx a)=some r) ?_ ?_ (cS _) rfl (λj hj=>by omega) (by omega)) ?_
 ·rintro k i hk e hI;subst e;rw[iR hk,aO];have hx:a.bV[k]? =some a.bV[k]:=aN hk;refine IT (Em (by omega) (by omega) hx (hs.nm _<|cH hk) (by omega))<|Uv (λhb=>UZ ?_)<|λhb=>Uh ⟨bE (by omega),λj hj=>?_⟩
  ·cases hl:lx a k with
   |none=>rw[hl]at hb;cases hb
   |some e=>exact oN.2 ⟨k,hk,hl,hI⟩
  ·by_cases e:j=k
   ·subst e
    cases hl:lx a j with
    |none=>rfl
    |some e=>rw[hl]at hb;exact absurd (by simpa using hb) (El hl)
   ·exact hI j (by omega)
 ·rintro i e hI;subst e;rw[l6,aR];exact Un<|mw.2 hI
 intro o ho;exact Uo ho (λ_ h=>OF (by rw[h];rfl))<|λr hr=>OF (by rw[hr];rfl)
theorem wY(b:bU)(k:Int):fT N b k=some (mA b k):=rfl
theorem yu{a:jO}{i:Nat}{r:List aH}{s:List aA}(hb:kQ a.aM)(hr:a.aK[i]? =some r)(hrl:r.length<=2000)(hro:∀x∈r,EH x)(hd:wP r (k9 a.aM ((i:Nat):Int)) s)(hN:4398046511104<=N):gW N a ((i:Nat):Int)=some (aV s):=by
 refine UU ?_;have hbl:=hb.len;have hhl:=B3 hb ((i:Nat):Int);have hho:=t9 hb ((i:Nat):Int);unfold gW;refine TZ (UE (n:=a.aM.length) (λs=>s.2) (λk st=>st.1=k9 (a.aM.take k) ((i:Nat):Int)) (Go:=λst=>st.1=k9 a.aM ((i:Nat):Int)) (Rt:=λ_=>False) ?_ ?_ (cS _) rfl rfl (by omega)) ?_
 ·rintro k⟨out,ii⟩hk e hI;dsimp only at e hI ⊢;subst e;subst hI;have hx:a.aM[k]? =some a.aM[k]:=aN hk;have hts:k9 (a.aM.take<|k+1) ((i:Nat):Int)=if mA a.aM[k] ((i:Nat):Int)=true then k9 (a.aM.take k) ((i:Nat):Int)++[yj a.aM[k]]else k9 (a.aM.take k) ((i:Nat):Int):=by
   grind [k9,dQ]
  have hlen:(k9 (a.aM.take k) ((i:Nat):Int)).length<=k:=by
   unfold k9
   grind
  rw[iR hk,aO];refine T6 hx<|IT (wY _ _)<|TZ (P:=λst:List aH=>st=k9 (a.aM.take<|k+1) ((i:Nat):Int)) (Uv (λh=>?_)<|λh=>OF ?_)<|λst hst=>Uh ⟨bE (by omega),hst⟩
  ·refine T6 hx<|IT (pH (hb.ok _<|cH hk).1)<|UJ (by grind)<|OF ?_
   rw[hts,aG h]
  grind
 ·simp[l6,aR,Un,eM]
 intro o ho;refine Uo ho ?_<|λr hr=>hr.elim
 rintro⟨hs,ii⟩hI;dsimp only at hI ⊢;subst hI;obtain⟨t,_,ht⟩:=rp (N:=N) (l:=k9 a.aM ((i:Nat):Int)) (by omega) (λx hx=>(hho x hx).1) (by omega);obtain⟨z1,z2,z3⟩:=ht.Ip;have z4:2*(k9 a.aM ((i:Nat):Int)).length*(2*(k9 a.aM ((i:Nat):Int)).length)<=1000*1000:=Nat.mul_le_mul (by omega) (by omega);refine T6 hr<|IT (wV ht.can ht.cover (by omega) (λx hx=>(hho x hx).1.x) (by omega) hN) ?_
 unfold lr;have hsz:=(yL (A:=5000) hd.can hd.lim (by grind [dX,tY]) (by grind [dX,mW])).2.2
 have hc:ir N r (aV t) 3=some (aV s):=IH hd.can (λx y=>by
  rw[hd.cover,qo ht.can,ht.cover];rfl) (by omega) (by omega) (λx hx=>(hro x hx).x) (λx hx=>(v9 ht.can x hx).1) (by omega) hN
 grind [aB,OF]
theorem Cf:∀(cX:List (List<|List aA))(k:Nat),(bM k cX).length=(cX.map List.length).sum
 | [],k=>rfl
 |ps::cX,k=>by
  show(ps.map _++bM (k+1) cX).length=_;rw[dX,eB,Cf cX<|k+1,fN,List.sum_cons]
theorem Ly{a:jO}{ke:List (List aA)}{cX:List (List<|List aA)}(hg:rG a)(hD:ym a.aK a.aM a.aK.length ke cX){i:Nat}{s:List aA}(hi:i<a.aK.length)(hd:ke[i]? =some s)(hf:(aV s).length<=2000):∃ps u,cX[i]? =some ps/\sF a.aK[i] (k9 a.aM ((i:Nat):Int)) s u ps:=by
 have hp:cX[i]? =some (cX[i]'(by rw[hD.B4];exact hi)):=aN _;have hdr:=hD.dr i _ _ hi (aN hi) hd;obtain⟨u,hu⟩:=hD.pt i _ _ hi hd hp;have hreg:=r9.1<|hg.Tr _<|cH hi
 exact⟨_,u,hp,λx hx=>((va.1 hreg.1).2 x hx).1,λx hx=>(t9 hg.gb _ x hx).2,(D4 hreg.1).2,λx hx=>(t9 hg.gb _ x hx).1,hdr,hu,hf⟩
theorem sF.pieces{r hs:List aH}{s:List aA}{u:Nat->Nat}{ps:List (List aA)}(h:sF r hs s u ps)(hN:4398046511104<=N):gu N (aV s)=some (ps.map aV):=by
 refine IK h.dr.can h.pt h.xG (λq hq=>?_) (λp hp=>(h.part hp).2.1) hN;obtain⟨h1,h2,h3⟩:=KA h.r1 h.r2 h.dr.can h.dr.lim q hq
 grind [GG]
theorem JP{a b:aH}(ha:a.X0<a.X1/\a.Y0<a.Y1)(hb:b.X0<b.X1/\b.Y0<b.Y1):gM N a b=some (Iy a b):=by
 unfold gM
 grind [yO,rH,decide,Min.min,Max.max,Ix,Iy]
theorem sq_pos{b:bU}(h:sN b=true):(yj b).X0<(yj b).X1/\(yj b).Y0<(yj b).Y1:=by
 obtain⟨h1,_,_⟩:=uJ h;simp only[yj];omega
inductive Checked (N:Nat) (a:jO):Prop
 |err (e:Int) (he:e≠0) (h1:gG N a=some (none,e)) (h2:dB N a=some e)
 |ok {ke:List (List aA)} {cX:List (List (List aA))} {r:Nat->Nat} {gs:List bW} {ofP ofB jD:List Int} {ji:List eC} (b:jh a ke cX r gs ofP ofB jD ji)
  (h1:gG N a=some (some (a.aK,a.cU,a.aM,a.bV,ke,bM 0 cX,cT a.aM<|bM 0 cX,gs,ofP,ofB,jD,ji),0)) (h2:dB N a=some 0)
theorem KD{a:jO}(hb:kQ a.aM)(hN:4398046511104<=N){f:Int->Option Int}{Q:Int->Prop}(hc:sO a->Q 12)(hn:¬sO a->∀s,Ok (f s) Q):
  Ok ((iD (λ(s35:Int)=>(bif decide (s35<(a.aM.length:Int))then((iD (λ(s622:Int)=>(bif decide (s622<s35)then(((idx a.aM s35).bind λx869=>(idx a.aM s622).bind λx873=>(i7 N x869 x873).bind λx876=>bif x876 then((idx a.aM s35).bind λx879=>(cP N x879).bind λx882=>(idx a.aM s622).bind λx885=>(cP N x885).bind λx888=>(gM N x882 x888).bind λx890=>some x890)else some false).bind λs867=>bif s867 then some (.rt 12)else some (.nx<|wrap .i64<|s622+1))else(some<|.br s622):Option (Fl Int Int))) N 0).bind λo911=>o911.cs (λ(s622:Int)=>some<|.nx<|wrap .i64<|s35+1)<|λr=>some<|.rt r)else(some<|.br s35):Option (Fl Int Int))) N 0).bind λo933=>o933.cs f<|λr=>some r) Q:=by
 have hbl:=hb.len;refine TZ (UE (n:=a.aM.length) (λs=>s) (λk _=>∀(i j:Nat)(x y:bU),i<k->j<i->a.aM[i]? =some x->a.aM[j]? =some y->¬ud x y=true) (Go:=λ_=>¬sO a) (Rt:=λr=>r=12/\sO a) ?_ ?_ (cS _) rfl (λi j x y hi=>by omega) (by omega)) ?_
 ·rintro k s hk e hI;subst e;rw[iR hk,aO];have hx:a.aM[k]? =some a.aM[k]:=aN hk;have fx:=(hb.ok _<|cH hk).1;refine TZ (UE (n:=k) (λs=>s) (λt _=>∀(j:Nat)(y:bU),j<t->a.aM[j]? =some y->¬ud a.aM[k] y=true) (Go:=λ_=>∀(j:Nat)(y:bU),j<k->a.aM[j]? =some y->¬ud a.aM[k] y=true) (Rt:=λr=>r=12/\sO a) ?_ ?_ (cS _) rfl (λj y hj=>by omega) (by omega)) ?_
  ·rintro t s ht e hI2;subst e;rw[iR ht,aO];have hy:a.aM[t]? =some (a.aM[t]'(by omega)):=aN _;have fy:=(hb.ok _<|cH (show t<a.aM.length by omega)).1;have hcond:((idx a.aM ((k:Nat):Int)).bind λx869=>(idx a.aM ((t:Nat):Int)).bind λx873=>(i7 N x869 x873).bind λx876=>bif x876 then((idx a.aM ((k:Nat):Int)).bind λx879=>(cP N x879).bind λx882=>(idx a.aM ((t:Nat):Int)).bind λx885=>(cP N x885).bind λx888=>(gM N x882 x888).bind λx890=>some x890)else some false)=some (ud a.aM[k]<|a.aM[t]'(by omega)):=by
    rw[cG hx,aB,cG hy,aB];unfold i7 ud;rw[aB]
    cases(decide (a.aM[k].cB<=(a.aM[t]'(by omega)).To)&&decide ((a.aM[t]'(by omega)).cB<=a.aM[k].To))with
    |false=>rfl
    |true=>grind [aB,pH,JP,sq_pos]
   refine IT hcond<|Uv (λh=>UZ ⟨rfl,k,t,_,_,ht,hx,hy,h⟩)<|λh=>Uh ⟨bE (by omega),λj y hj hjy=>?_⟩
   grind
  ·grind [Un]
  intro o ho;refine Uo ho (λs hs=>Uh ⟨bE (by omega),λi j x y hi hj hix hjy=>?_⟩)<|λr hr=>UZ hr
  grind
 ·rintro s e hI;subst e;rw[l6,aR];refine Un ?_;rintro⟨i,j,x,y,hij,hx,hy,hc⟩;exact hI i j x y (bQ.1 hx).1 hij hx hy hc
 intro o ho;exact Uo ho (λs hs=>hn hs s)<|λr hr=>OF (by rw[hr.1];exact hc hr.2)
theorem checked{a:jO}(hs:vY a)(hN:4398046511104<=N):Checked N a:=by
 obtain⟨x,hx,hI⟩:=B8 (N:=N) hs hN;have hbe:=IP a;have hcp:=CU (N:=N) hs hN
 rcases hI with⟨he,rfl⟩|⟨h0,hg,hcl,ke,cX,D,hI⟩
 ·refine .err _ he hx<|UU ?_
  unfold dB;refine IT hcp ?_
  by_cases h:mZ a≠0
  ·rw[aG h]at hbe;rw[show(mZ a != 0)=true by simpa using h,aO,hbe];exact OF rfl
  ·rw[aI h]at hbe;have hp0:mZ a=0:=by simpa using h
   have hc:sO a:=by
    by_cases hc:sO a
    ·exact hc
    ·rw[aI hc]at hbe;exact absurd hbe he
   rw[aG hc]at hbe;rw[hp0,show((0:Int) != 0)=false by rfl,aR];have hbo:=En hp0;refine KD ⟨(ng hbo).1,λb hb=>⟨((ng hbo).2 b hb).1,((ng hbo).2 b hb).2.1⟩⟩ hN (λ_=>hbe.symm)<|λh=>absurd hc h
 ·have hp0:mZ a=0:=by
   by_cases h:mZ a≠0
   ·rw[aG h]at hbe;rw[hbe]at h0;exact h0
   ·simpa using h
  have key:dB N a=some (if P4 ke cX then 0 else 2):=by
   refine UU ?_;unfold dB;refine IT hcp ?_;rw[hp0,show((0:Int) != 0)=false by rfl,aR];refine KD hg.gb hN (λh=>absurd h hcl)<|λ_ _=>?_
   have hc16:=hg.xG.2
   refine TZ (UE (n:=a.aK.length) (λs=>s.2) (λk st=>st.1=((((cX.take k).map List.length).sum:Nat):Int)/\((cX.take k).map List.length).sum<=k*2000/\∀(j:Nat)s,j<k->ke[j]? =some s->(aV s).length<=2000)
    (Go:=λst=>st.1=(((cX.map List.length).sum:Nat):Int)/\∀s∈ke,(aV s).length<=2000) (Rt:=λr=>r=2/\¬P4 ke cX) ?_ ?_ (cS _) rfl ⟨by simp,by simp,λj s hj=>by omega⟩ (by omega)) ?_
   ·rintro k⟨m,i⟩hk e⟨hm,hml,hI2⟩;dsimp only at e hm ⊢;subst e;subst hm;rw[iR hk,aO];have hcx:a.aK[k]? =some a.aK[k]:=aN hk;have hd:ke[k]? =some (ke[k]'(by rw[D.len];exact hk)):=aN _;have hcs:=hg.cs _<|cH hk
    refine IT (yu hg.gb hcx hcs.1 hcs.2 (D.dr k _ _ hk hcx hd) hN)<|Uv (λh=>UZ ⟨rfl,λhf=>?_⟩)<|λh=>?_
    ·have:=hf.1 _<|fR hd
     have:=of_decide_eq_true h;omega
    ·have hf:(aV<|ke[k]'(by rw[D.len];exact hk)).length<=2000:=by have:=of_decide_eq_false h;omega
     obtain⟨ps,u,hp,L⟩:=Ly hg D hk hd hf;have hpl:=L.pt.xG;have hkp:k<cX.length:=by rw[D.B4];exact hk
     have hpe:cX[k]=ps:=by rw[aN hkp]at hp;injection hp
     refine IT (L.pieces hN)<|Uh ⟨bE (by omega),?_,?_,λj s hj hjs=>?_⟩
     ·dsimp only;rw[eB,wrap_add (by omega),dQ hkp,fW,List.sum_append,hpe];simp
     ·rw[dQ hkp,fW,List.sum_append,hpe];simp only[fN,List.map_nil,List.sum_cons,List.sum_nil];rw[Nat.add_mul];omega
     ·by_cases e:j=k
      ·subst e;rw[hd]at hjs;injection hjs with hjs;rw[<-hjs];exact hf
      ·exact hI2 j s (by omega) hjs
   ·rintro⟨m,i⟩e⟨hm,hml,hI2⟩;dsimp only at e hm ⊢;subst e;rw[l6,aR];rw[mF (by rw[D.B4];exact cJ _)]at hm;refine Un ⟨hm,λs hs'=>?_⟩;obtain⟨j,hj⟩:=eE hs';exact hI2 j s (by have:=(bQ.1 hj).1;rw[D.len]at this;exact this) hj
   intro o ho;refine Uo ho ?_<|λr hr=>OF (by rw[hr.1,aI hr.2])
   rintro⟨m,i⟩⟨hm,hf⟩;dsimp only at hm ⊢;subst hm;have hpl:=Cf cX 0;refine Uv (λh=>OF ?_)<|λh=>OF ?_
   ·rw[aI];rintro⟨_,h2⟩;have:=of_decide_eq_true h;omega
   ·rw[aG];exact⟨hf,by have:=of_decide_eq_false h;omega⟩
  rcases hI with⟨hf,rfl⟩|⟨hf,r,gs,ofP,ofB,jD,ji,hC,rfl⟩
  ·rw[aI hf]at key;exact .err 2 (by decide) hx key
  ·rw[aG hf]at key;exact .ok ⟨hg,hcl,D,hf,hC⟩ hx key
end
theorem C5:∀{l m:List Int},j5 l->j5 m->(∀x,x∈l↔x∈m)->l=m
 | [],[],_,_,_=>rfl
 | [],b::m,_,_,h=>absurd ((h b).2 (by simp)) (by simp)
 |a::l,[],_,_,h=>absurd ((h a).1 (by simp)) (by simp)
 |a::l,b::m,hl,hm,h=>by
  have h1:a=b:=by
   have ha:=(h a).1 (by simp);have hb:=(h b).2 (by simp)
   rcases eH.1 ha with e|ha
   ·exact e
   ·rcases eH.1 hb with e|hb
    ·exact e.symm
    ·have:=hl.head b hb;have:=hm.head a ha;omega
  subst h1;rw[C5 hl.tail hm.tail λx=>?_];have hx:=h x;rw[eH,eH]at hx;constructor
  ·intro hxl
   rcases hx.1 (.inr hxl)with e|h'
   ·have:=hl.head x hxl;omega
   ·exact h'
  ·intro hxm
   rcases hx.2 (.inr hxm)with e|h'
   ·have:=hm.head x hxm;omega
   ·exact h'
theorem IQ{l:List Nat}(h:l.Pairwise (· < ·)):j5 (ints l):=by
 unfold j5 ints
 grind
section
variable {N:Nat}
theorem Eo{l:List Int}{c:Int}(h:j5 l)(hl:l.length<=1000000000)(hN:4398046511104<=N):i9 N l c=some (tj l c):=by
 refine UU ?_;unfold i9
 refine TZ (U5 (Go:=λs=>∃a:Nat,s=((a:Nat):Int)/\a<=l.length/\(∀(j:Nat)x,a<=j->l[j]? =some x->c<x)/\(∀x,0<a->l[a - 1]? =some x->¬c<x)) (Rt:=λ_=>False)
  (λs=>∃a:Nat,s=((a:Nat):Int)/\a<=l.length/\∀(j:Nat)x,a<=j->l[j]? =some x->c<x) (λs=>s.toNat) ?_ ⟨l.length,rfl,cJ _,λj x hj hx=>by grind⟩ (by omega)) ?_
 ·rintro s⟨a,rfl,ha,hI⟩
  by_cases h0:0<a
  ·have hx:l[a - 1]? =some (l[a - 1]'(by omega)):=aN _;rw[bY (by omega),aO,jU h0 (by omega),cG hx,aB,aB]
   grind [Uh,cO,of_decide_eq_false,Un]
  grind [cD,aB,Un]
 intro o ho;refine Uo ho ?_<|λr hr=>hr.elim
 rintro s⟨a,rfl,ha,hI,hE⟩;have hlow:∀(j:Nat)x,j<a->l[j]? =some x->x<=c:=λj x hj hx=>by
  have hy:l[a - 1]? =some (l[a - 1]'(by omega)):=aN _;have h1:=hE _ (by omega) hy
  by_cases e:j=a - 1
  ·grind
  ·have:=h.lt (i:=j) (j:=a - 1) (by omega) hx hy;omega
 have hout:c∉l->tj l c=l.take a++c::l.drop a:=λhc=>by
  grind [tj,ti,decide,bY,fR,cD]
 have hrest:c∉l->Ok ((vh l 0 ((a:Nat):Int)).bind λx61=>(app 8 ([]:List Int) x61).bind λx63=>(app 8 x63 ([c]:List Int)).bind λx66=>(vh l ((a:Nat):Int) ((l.length:Nat):Int)).bind λx68=>(app 8 x66 x68).bind λx70=>some x70) (λr=>r=tj l c):=λhc=>by
  have htk:(l.take a).length=a:=by rw[dS];omega
  refine IT (tJ l a ha)<|UJ (by simp only[List.length_nil];omega)<|UJ (by rw[List.nil_append];simp only[eI,List.length_nil];omega)<|IT (rS l a ha)<|UJ ?_<|OF ?_
  ·rw[List.nil_append,dX,l9];simp only[eI,List.length_nil];omega
  ·rw[hout hc];simp
 by_cases h0:0<a
 ·have hx:l[a - 1]? =some (l[a - 1]'(by omega)):=aN _;rw[bY (by omega),aO,jU h0 (by omega),cG hx,aB,aB];refine Uv (λhb=>OF ?_)<|λhb=>hrest ?_
  ·rw[beq_iff_eq]at hb;unfold tj;rw[aG (by rw[<-hb];exact fR hx)]
  ·rw[beq_eq_false_iff_ne]at hb;intro hc;obtain⟨j,hj⟩:=eE hc
   by_cases h1:a<=j
   ·have:=hI j c h1 hj;omega
   ·by_cases e:j=a - 1
    ·subst e;rw[hx]at hj;injection hj with hj;exact hb hj
    ·have:=h.lt (i:=j) (j:=a - 1) (by omega) hj hx;have:=hlow (a - 1) _ (by omega) hx;omega
 ·rw[cD (by omega),aR,aB,aR];refine hrest λhc=>?_;obtain⟨j,hj⟩:=eE hc;have:=hI j c (by omega) hj;omega
theorem wZ{l:List Int}{c:Int}(hl:l.length<=1099511627776)(hN:4398046511104<=N):cN N l c=some (decide<|c∈l):=by
 refine UU ?_;unfold cN;refine TZ (UE (n:=l.length) (λs=>s) (λk _=>∀(j:Nat)x,j<k->l[j]? =some x->x≠c) (Go:=λ_=>c∉l) (Rt:=λr=>r=true/\c∈l) ?_ ?_ (cS _) rfl (λj x hj=>by omega) (by omega)) ?_
 ·rintro k s hk e hI;subst e;rw[iR hk,aO];have hx:l[k]? =some l[k]:=aN hk
  grind [T6,UZ,Uh,bE,cH]
 ·grind [Un,eE,bQ]
 intro o ho;exact Uo ho (λs hs=>OF (cD hs).symm)<|λr hr=>OF (by grind)
theorem MN{p q:aH}(hp:p.X0<p.X1/\p.Y0<p.Y1)(hq:q.X0<q.X1/\q.Y0<q.Y1):th p q=decide ((0<min p.X1 q.X1 - max p.X0 q.X0/\min p.Y1 q.Y1 - max p.Y0 q.Y0=0)\/(min p.X1 q.X1 - max p.X0 q.X0=0/\0<min p.Y1 q.Y1 - max p.Y0 q.Y0)):=by
 unfold th
 grind
theorem NW{l:List aH}{q:aH}(hl:l.length<=1000000000)(ho:∀r∈l,EH r)(hq:EH q)(hN:4398046511104<=N):jQ N l q=some (l.any<|λr=>th r q):=by
 refine UU ?_;unfold jQ;refine TZ (UE (n:=l.length) (λs=>s) (λk _=>∀(j:Nat)x,j<k->l[j]? =some x->th x q=false) (Go:=λ_=>l.any (λr=>th r q)=false) (Rt:=λr=>r=true/\l.any (λr=>th r q)=true) ?_ ?_ (cS _) rfl (λj x hj=>by omega) (by omega)) ?_
 ·rintro k s hk e hI;subst e;rw[iR hk,aO];have hx:l[k]? =some l[k]:=aN hk;have hr:=ho _<|cH hk
  have hb:=MN (p:=l[k]) (q:=q) ⟨hr.x,hr.y⟩ ⟨hq.x,hq.y⟩;have a1:=hr.s1;have a2:=hr.s2;have a3:=hr.s3;have a4:=hr.s4;have b1:=hq.s1;have b2:=hq.s2;have b3:=hq.s3;have b4:=hq.s4;unfold small at a1 a2 a3 a4 b1 b2 b3 b4;refine T6 hx<|T6 hx<|T6 hx<|T6 hx ?_
  rw[yO,yO,rH,rH,gq (x:=min l[k].X1 q.X1 - max l[k].X0 q.X0) (by omega) (by omega),gq (x:=min l[k].Y1 q.Y1 - max l[k].Y0 q.Y0) (by omega) (by omega)];have e:((decide (min l[k].X1 q.X1 - max l[k].X0 q.X0>0)&&(min l[k].Y1 q.Y1 - max l[k].Y0 q.Y0==0))||((min l[k].X1 q.X1 - max l[k].X0 q.X0==0)&&decide (min l[k].Y1 q.Y1 - max l[k].Y0 q.Y0>0)))=th l[k] q:=by
   grind
  grind [UZ,kJ,cH,Uh,bE]
 ·grind [Un,List.any_eq_false,eE,bQ]
 intro o ho;exact Uo ho (λs hs=>OF hs.symm)<|λr hr=>OF (by grind)
theorem Cg(r:List aH)(p:dU):Cx r p=uH r p.X p.Y:=by
 grind [Cx,uH,ge_iff_le]
theorem CH{r:List aH}{p:dU}(hl:r.length<=134217728)(hr:∀x∈r,x.X0<x.X1)(hN:4398046511104<=N):fH N r p=some (Cx r p):=by
 refine UU ?_;unfold fH
 grind [TZ,GM,v8,eB,IT,B9,OF,yP,Cg]
def MO(bs:List bU)(pcs:List aD)(l:dE):Option eC:=match pcs.findIdx? (lV l)with
 |some k=>some ⟨false,((k:Nat):Int)⟩
 |none=>(bs.findIdx? (mQ l)).map λk=>⟨true,((k:Nat):Int)⟩
theorem KE{bs:List bU}{pcs:List aD}{l:dE}(hd:∀b∈bs,∀p∈pcs,mQ l b=true->lV l p=true->False):MO bs pcs l=qw bs pcs l:=by
 unfold MO qw
 grind
theorem Ep{α:Type}{l:List α}{p:α->Bool}{k:Nat}{x:α}(hx:l[k]? =some x)(hp:p x=true)(hn:∀(j:Nat)y,j<k->l[j]? =some y->p y=false):l.findIdx? p=some k:=by
 grind [bQ,List.findIdx?_eq_some_iff_getElem,aN]
theorem Er{α:Type}{l:List α}{p:α->Bool}(hn:∀(j:Nat)y,j<l.length->l[j]? =some y->p y=false):l.findIdx? p=none:=by
 grind [List.findIdx?_eq_none_iff,eE,bQ]
theorem FR{bs:List bU}{pcs:List aD}(hb:kQ bs)(hp:pcs.length<=1000000)(hr:∀p∈pcs,p.dY.length<=1000000/\∀x∈p.dY,x.X0<x.X1)(l:dE)(hN:4398046511104<=N):
  gl N bs (pcs.map aD.cL) (pcs.map aD.dY) l=some ((MO bs pcs l).getD ⟨false,0⟩,(MO bs pcs l).isSome):=by
 refine UU ?_;have hbl:=hb.len;unfold gl MO;rw[eB];refine TZ (UE (n:=pcs.length) (λs=>s) (λk _=>∀(j:Nat)x,j<k->pcs[j]? =some x->lV l x=false) (Go:=λ_=>pcs.findIdx? (lV l)=none) (Rt:=λr=>∃k:Nat,pcs.findIdx? (lV l)=some k/\r=(⟨false,((k:Nat):Int)⟩,true)) ?_ ?_ (cS _) rfl (λj x hj=>by omega) (by omega)) ?_
 ·rintro k s hk e hI;subst e;rw[iR hk,aO];have hx:pcs[k]? =some pcs[k]:=aN hk;have hlx:(pcs.map aD.cL)[k]? =some pcs[k].cL:=by grind
  have hrx:(pcs.map aD.dY)[k]? =some pcs[k].dY:=by grind
  have hrl:=hr _<|cH hk
  have hcond:((idx (pcs.map aD.cL) ((k:Nat):Int)).bind λx88=>bif x88==l.cL then((idx (pcs.map aD.dY) ((k:Nat):Int)).bind λx91=>(fH N x91 l.At).bind λx95=>some x95)else some false)=some (lV l pcs[k]):=by
   grind [cG,aB,CH,lV]
  grind [IT,UZ,Ep,Uh,bE]
 ·grind [Un,Er]
 intro o ho;refine Uo ho ?_ (λr hr=>by grind [OF]);intro _ hno;rw[hno];dsimp only;refine TZ (UE (n:=bs.length) (λs=>s) (λk _=>∀(j:Nat)x,j<k->bs[j]? =some x->mQ l x=false) (Go:=λ_=>bs.findIdx? (mQ l)=none) (Rt:=λr=>∃k:Nat,bs.findIdx? (mQ l)=some k/\r=(⟨true,((k:Nat):Int)⟩,true)) ?_ ?_ (cS _) rfl (λj x hj=>by omega) (by omega)) ?_
 ·rintro k s hk e hI;subst e;rw[iR hk,aO];have hx:bs[k]? =some bs[k]:=aN hk;have hg:=hb.ok _<|cH hk
  have hcond:((idx bs ((k:Nat):Int)).bind λx301=>bif x301.fD then((idx bs ((k:Nat):Int)).bind λx305=>(fT N x305 l.cL).bind λx308=>bif x308 then((idx bs ((k:Nat):Int)).bind λx310=>(cP N x310).bind λx313=>(fH N ([x313]:List aH) l.At).bind λx317=>some x317)else some false)else some false)=some (mQ l bs[k]):=by
   rw[cG hx,aB,aB,wY,aB,aB,pH hg.1,aB,CH (by simp) (λx hx=>by simp_all[sq_pos]) hN,aB]
   grind [mQ]
  grind [IT,UZ,Ep,Uh,bE]
 ·grind [Un,Er]
 intro o ho;exact Uo ho (λ_ h=>OF (by rw[h];rfl)) (λr hr=>by grind [OF])
end
section
variable {N:Nat}{a:jO}{ke:List (List aA)}{cX:List (List (List aA))}{r:Nat->Nat}{gs:List bW}{ofP ofB jD:List Int}{ji:List eC}
theorem sf(b:jh a ke cX r gs ofP ofB jD ji){p:aD}(hp:p∈bM 0 cX):p.dY.length<=2000/\(∀q∈p.dY,dJ q=true/\q.X0<q.X1/\q.Y0<q.Y1)/\∃i:Nat,p.cL=((i:Nat):Int)/\∀x y,uH p.dY x y=true->uH (k9 a.aM ((i:Nat):Int)) x y=false:=by
 obtain⟨i,ps,q,h1,h2,rfl⟩:=B7 hp;have hil:i<a.aK.length:=by have:=(bQ.1 h1).1;rw[b.dr.B4]at this;exact this
 obtain⟨s,ps',u,g1,g2,L⟩:=CE b hil;rw[h1]at g2;injection g2 with g2;subst g2
 obtain⟨k1,k2,k3⟩:=L.part h2;refine⟨k2,k3,i,by simp,λx y h=>?_⟩;have h3:uH (ps.flatMap aV) x y=true:=CD.2 ⟨q,h2,h⟩;rw[L.cover,L.dr.cover,cQ,Bool.not_eq_true']at h3;exact h3.2
theorem KF(b:jh a ke cX r gs ofP ofB jD ji)(l:dE):∀x∈a.aM,∀p∈bM 0 cX,mQ l x=true->lV l p=true->False:=λx hx p hp h1 h2=>by
 obtain⟨_,_,i,e,hc⟩:=sf b hp;unfold mQ at h1;unfold lV at h2;rw[cQ,cQ,Cg]at h1;rw[cQ,Cg,beq_iff_eq]at h2;have h3:=hc _ _ h2.2;rw[<-e,h2.1]at h3;obtain⟨q,hq,hxy⟩:=kq.1 h1.2.2;simp at hq;subst hq;have h4:uH (k9 a.aM l.cL) l.At.X l.At.Y=true:=kq.2 ⟨yj x,dO.2 ⟨x,lj.2 ⟨hx,h1.2.1⟩,rfl⟩,hxy⟩;rw[h3]at h4;cases h4
end
structure PS (n:Nat) (r:Nat->Nat) (h:Nat) (q:List Nat) (seen:List Bool) (pieces todo:List Int):Prop where
 sl:seen.length=n
 sn:∀p,p<n->seen[p]? =some (decide<|r p<h\/p∈q)
 qn:q.Nodup
 qi:∀p∈q,p<n/\r p=h
 q0:h∈q
 td:todo=ints q
 pi:j5 pieces
 pm:∀x,x∈pieces↔∃p∈q,x=((p:Nat):Int)
structure QS (n m:Nat) (tch:List (List Int)) (r:Nat->Nat) (h:Nat) (q qb:List Nat) (Bc:List Int) (used:List Bool):Prop where
 ul:used.length=m
 un:∀k,k<m->used[k]? =some (decide<|k∈qb)
 bi:j5 Bc
 bm:∀x,x∈Bc↔∃k∈qb,x=((k:Nat):Int)
 bk:∀k∈qb,k<m/\r (n+k)=h/\∀l,tch[k]? =some l->∀p:Nat,((p:Nat):Int)∈l->p∈q
theorem PS.xG{n:Nat}{r:Nat->Nat}{h:Nat}{q:List Nat}{seen:List Bool}{pieces todo:List Int}(H:PS n r h q seen pieces todo):q.length<=n/\pieces.length<=n:=by
 have h1:=gA H.qn (m:=List.range n) (λk hk=>by rw[lk];exact(H.qi k hk).1);rw[List.length_range]at h1;have h2:=gA H.pi.nodup (m:=ints q)<|λx hx=>pF.2<|(H.pm x).1 hx
 grind [lf]
theorem QS.xG{n m:Nat}{tch:List (List Int)}{r:Nat->Nat}{h:Nat}{q qb:List Nat}{Bc:List Int}{used:List Bool}(H:QS n m tch r h q qb Bc used):Bc.length<=m:=by
 have h2:=gA H.bi.nodup (m:=ints (List.range m)) (λx hx=>by
  obtain⟨k,hk,e⟩:=(H.bm x).1 hx
  exact pF.2 ⟨k,lk.2 (H.bk k hk).1,e⟩)
 grind [lf,List.length_range]
theorem PI(n t:Nat)(r:Nat->Nat)(h:Nat):j5 (ints<|gP n<|cls t r h):=IQ<|List.Pairwise.sublist (List.filter_sublist.trans List.filter_sublist)<|List.pairwise_lt_range (n:=t)
theorem MP(bs:List bU)(n t:Nat)(r:Nat->Nat)(h:Nat):j5 (ints<|gB bs n<|cls t r h):=by
 refine IQ ?_;unfold gB;rw[List.pairwise_map];have hp:(List.filter (λi=> !decide (i<n)&&ry bs (i - n))<|cls t r h).Pairwise (· < ·):=List.Pairwise.sublist (List.filter_sublist.trans List.filter_sublist)<|List.pairwise_lt_range (n:=t)
 grind
theorem Ch{n t:Nat}{r:Nat->Nat}{h p:Nat}:p∈gP n (cls t r h)↔p<n/\p<t/\r p=h:=by
 unfold gP
 grind [rF]
theorem Ci{bs:List bU}{n t:Nat}{r:Nat->Nat}{h k:Nat}:k∈gB bs n (cls t r h)↔n+k<t/\r (n+k)=h/\ry bs k=true:=by
 unfold gB;rw[dO];constructor
 ·grind [rF,Bool.not_eq_true',decide_eq_false_iff_not]
 ·rintro⟨h1,h2,h3⟩;refine⟨n+k,?_,by omega⟩
  grind [rF,Bool.not_eq_true',decide_eq_false_iff_not,Nat.add_sub_cancel_left]
section
variable {N:Nat}
theorem IU{bs:List bU}{n m:Nat}{tch:List (List Int)}{r:Nat->Nat}(hC:CT n m tch r)(hm:tch.length=m)(ht:∀l∈tch,l.length<=1073741824/\∀x∈l,∃i:Nat,i<n/\x=((i:Nat):Int))(hn:n<=1000000)(hm2:m<=1000000)
  (hpl:∀(k:Nat)l,tch[k]? =some l->l≠[]->ry bs k=true) {h:Nat} (hh:h<n) (hr:r h=h) {seen:List Bool} (hsl:seen.length=n) (hsn:∀p,p<n->seen[p]? =some (decide<|r p<h)) (hN:4398046511104<=N):
  Ok (hU N tch ((h:Nat):Int) seen) (λx=>x.1.1=ints (gP n<|cls (n+m) r h)/\x.1.2.1=ints (gB bs n<|cls (n+m) r h)/\x.1.2.2= []/\x.2.length=n/\∀p,p<n->x.2[p]? =some (decide<|r p<h+1)):=by
 unfold hU;refine T6 (hsn h hh)<|IT (oO false (by omega)) ?_
 refine TZ (U5 (Go:=λst=>st.2.1=ints (gP n (cls (n+m) r h))/\st.2.2.1=ints (gB bs n (cls (n+m) r h))/\st.1.length=n/\∀p,p<n->st.1[p]? =some (decide (r p<h+1))) (Rt:=λ_=>False)
  (λst=>∃(q qb:List Nat)(t:Nat),st.2.2.2.2.2=((t:Nat):Int)/\t<=q.length/\PS n r h q st.1 st.2.1 st.2.2.2.2.1/\QS n m tch r h q qb st.2.2.1 st.2.2.2.1/\∀(j p k:Nat)l,j<t->q[j]? =some p->tch[k]? =some l->((p:Nat):Int)∈l->k∈qb)
  (λst=>n+1 - st.2.2.2.2.2.toNat) ?_ ⟨[h],[],0,rfl,by simp,?_,?_,λj p k l hj=>by omega⟩ (by simp;omega)) ?_
 ·rintro⟨sn,pi,bo,us,td,t'⟩⟨q,qb,t,e,htq,hP,hQ,hcl⟩;dsimp only at e hP hQ ⊢;subst e;have htl:td.length=q.length:=by rw[hP.td,lf]
  have hqf:=hP.xG
  by_cases hlt:t<q.length
  ·rw[iR (by omega),aO];have hqt:q[t]? =some q[t]:=aN hlt;have hqi:=hP.qi _<|cH hlt
   refine TZ (UE (n:=tch.length) (λst=>st.2.2.2.2.2) (λi st=>∃q' qb',q <+:q'/\(∀k∈qb,k∈qb')/\PS n r h q' st.1 st.2.1 st.2.2.2.2.1/\QS n m tch r h q' qb' st.2.2.1 st.2.2.2.1/\∀k l,k<i->tch[k]? =some l->((q[t]:Nat):Int)∈l->k∈qb')
    (Go:=λst=>∃q' qb',q <+:q'/\(∀k∈qb,k∈qb')/\PS n r h q' st.1 st.2.1 st.2.2.2.2.1/\QS n m tch r h q' qb' st.2.2.1 st.2.2.2.1/\∀k l,tch[k]? =some l->((q[t]:Nat):Int)∈l->k∈qb') (Rt:=λ_=>False) ?_ ?_ (cS _) rfl
    ⟨q,qb,List.prefix_refl _,λk hk=>hk,hP,hQ,λk l hk=>by omega⟩ (by omega)) ?_
   ·rintro k⟨sn1,pi1,bo1,us1,td1,i'⟩hk e⟨q1,qb1,hpre,hsub,hP1,hQ1,hc1⟩;dsimp only at e hP1 hQ1 ⊢;subst e;rw[iR hk,aO];have hkm:k<m:=by omega
    have htk:tch[k]? =some tch[k]:=aN hk;have htk2:=ht _<|cH hk
    have hq1t:td1[t]? =some ((q[t]:Nat):Int):=by
     rw[hP1.td];unfold ints;rw[il,Cb hpre hqt];rfl
    have hcond:((idx us1 ((k:Nat):Int)).bind λx948=>bif x948 then some true else((idx tch ((k:Nat):Int)).bind λx950=>(idx td1 ((t:Nat):Int)).bind λx953=>(cN N x950 x953).bind λx954=>some<|!x954))=some (decide (k∈qb1)|| !decide (((q[t]:Nat):Int)∈tch[k])):=by
     rw[cG<|hQ1.un k hkm,aB,cG htk,aB,cG hq1t,aB,wZ (l:=tch[k]) (c:=((q[t]:Nat):Int)) (by have:=htk2.1;omega) hN,aB]
     cases decide (k∈qb1) <;> rfl
    refine IT hcond<|Uv (λhb=>Uh ⟨bE (by omega),q1,qb1,hpre,hsub,hP1,hQ1,λk' l hk' hl hm'=>?_⟩)<|λhb=>?_
    ·by_cases e:k'=k
     ·subst e;rw[htk]at hl;injection hl with hl
      rw[hl,bY hm',ln,Bool.or_false,cY]at hb;exact hb
     ·exact hc1 k' l (by omega) hl hm'
    ·rw[Bool.or_eq_false_iff,decide_eq_false_iff_not,Bool.not_eq_false',cY]at hb;obtain⟨hkn,hqm⟩:=hb;have hrk:r (n+k)=h:=by rw[<-hC.co q[t] (n+k) ⟨k,_,htk,hqm,rfl⟩];exact hqi.2
     have hbf:=hQ1.xG;refine T6 (hQ1.un k hkm)<|IT (Eo hQ1.bi (by omega) hN) ?_
     refine TZ (UE (n:=tch[k].length) (λst=>st.2.2.2) (λi st=>∃q2,q1 <+:q2/\PS n r h q2 st.1 st.2.1 st.2.2.1/\∀(j p:Nat),j<i->tch[k][j]? =some ((p:Nat):Int)->p∈q2)
      (Go:=λst=>∃q2,q1 <+:q2/\PS n r h q2 st.1 st.2.1 st.2.2.1/\∀(p:Nat),((p:Nat):Int)∈tch[k]->p∈q2) (Rt:=λ_=>False) ?_ ?_ (cS _) rfl ⟨q1,List.prefix_refl _,hP1,λj p hj=>by omega⟩ (by omega)) ?_
     ·rintro j⟨sn2,pi2,td2,jj⟩hj e⟨q2,hpre2,hP2,hc2⟩;dsimp only at e hP2 ⊢;subst e;have hlj:tch[k][j]? =some tch[k][j]:=aN hj;obtain⟨p,hpn,hpe⟩:=htk2.2 _<|cH hj
      rw[hpe]at hlj;have hpf:=hP2.xG;have hrp:r p=h:=by rw[hC.co p (n+k) ⟨k,_,htk,fR hlj,rfl⟩];exact hrk
      refine T6 htk ?_;rw[iR hj,aO];refine T6 htk<|T6 hlj<|T6 (hP2.sn p hpn) ?_
      refine TZ (P:=λst:List Bool×List Int×List Int=>∃q2,q1 <+:q2/\PS n r h q2 st.1 st.2.1 st.2.2/\∀(j' p:Nat),j'<j+1->tch[k][j']? =some ((p:Nat):Int)->p∈q2) (Uv (λhb=>?_)<|λhb=>OF ⟨q2,hpre2,hP2,λj' p' hj' hp'=>?_⟩)<|λst hst=>Uh ⟨bE (by omega),hst⟩
      ·have hpq:p∉q2:=by
        rw[Bool.not_eq_true',decide_eq_false_iff_not]at hb;exact λh=>hb<|.inr h
       refine T6 (hP2.sn p hpn)<|IT (Eo hP2.pi (by omega) hN)<|UJ (by rw[hP2.td,lf];simp only[eI,List.length_nil];omega)<|OF ⟨q2++[p],hpre2.trans<|List.prefix_append _ _,⟨?_,?_,?_,?_,?_,?_,?_,?_⟩,?_⟩
       ·rw[iC];exact hP2.sl
       ·intro p' hp';rw[cO,ll]
        by_cases e:p=p'
        ·subst e;rw[aG rfl,aG (by rw[hP2.sl];exact hpn)];congr 1;exact(bY<|.inr (by simp)).symm
        ·rw[aI e,hP2.sn p' hp'];congr 1;rw[decide_eq_decide,dH];simp only[lJ];constructor
         ·exact λh=>h.elim .inl<|λh=> .inr<|.inl h
         ·exact λh=>h.elim .inl<|λh=>h.elim .inr<|λh=>absurd h.symm e
       ·rw[List.nodup_append];exact⟨hP2.qn,by simp,λa ha b hb=>by simp at hb;subst hb;exact λe=>hpq<|e▸ha⟩
       ·intro p' hp'
        rcases dH.1 hp' with hp'|hp'
        ·exact hP2.qi p' hp'
        ·simp at hp';subst hp';exact⟨hpn,hrp⟩
       ·exact List.mem_append_left _ hP2.q0
       ·dsimp only;rw[hP2.td,sd];rfl
       ·exact vZ hP2.pi
       ·intro x;rw[Eb,hP2.pm];constructor
        ·rintro(⟨p',h1,h2⟩|h1)
         ·exact⟨p',List.mem_append_left _ h1,h2⟩
         ·exact⟨p,by simp,h1⟩
        ·rintro⟨p',h1,h2⟩
         rcases dH.1 h1 with h1|h1
         ·exact .inl ⟨p',h1,h2⟩
         ·simp at h1;subst h1;exact .inr h2
       ·intro j' p' hj' hp'
        by_cases e:j'=j
        ·subst e;rw[hlj]at hp';injection hp' with hp'
         have:p'=p:=by omega
         subst this;simp
        ·exact List.mem_append_left _<|hc2 j' p' (by omega) hp'
      ·by_cases e:j'=j
       ·subst e;rw[hlj]at hp';injection hp' with hp'
        have:p'=p:=by omega
        subst this;rw[Bool.not_eq_false',cY]at hb
        rcases hb with hb|hb
        ·omega
        ·exact hb
       ·exact hc2 j' p' (by omega) hp'
     ·rintro⟨sn2,pi2,td2,jj⟩e⟨q2,hpre2,hP2,hc2⟩;dsimp only at e hP2 ⊢;subst e;refine T6 htk ?_;rw[l6,aR];refine Un ⟨q2,hpre2,hP2,λp hp=>?_⟩;obtain⟨j,hj⟩:=eE hp;exact hc2 j p (bQ.1 hj).1 hj
     intro o ho;refine Uo ho ?_<|λr hr=>hr.elim
     rintro⟨sn2,pi2,td2,jj⟩⟨q2,hpre2,hP2,hc2⟩;dsimp only at hP2 ⊢;refine Uh ⟨bE (by omega),q2,qb1++[k],hpre.trans hpre2,λk' hk'=>List.mem_append_left _<|hsub k' hk',hP2,⟨?_,?_,?_,?_,?_⟩,λk' l hk' hl hm'=>?_⟩
     ·rw[iC];exact hQ1.ul
     ·intro k' hk';rw[cO,ll]
      by_cases e:k=k'
      ·subst e;rw[aG rfl,aG (by rw[hQ1.ul];exact hkm)];congr 1;exact(bY (by simp)).symm
      ·rw[aI e,hQ1.un k' hk'];congr 1;rw[decide_eq_decide,dH];simp only[lJ];exact⟨.inl,λh=>h.elim id<|λh=>absurd h.symm e⟩
     ·exact vZ hQ1.bi
     ·intro x;rw[Eb,hQ1.bm];constructor
      ·rintro(⟨p',h1,h2⟩|h1)
       ·exact⟨p',List.mem_append_left _ h1,h2⟩
       ·exact⟨k,by simp,h1⟩
      ·rintro⟨p',h1,h2⟩
       rcases dH.1 h1 with h1|h1
       ·exact .inl ⟨p',h1,h2⟩
       ·simp at h1;subst h1;exact .inr h2
     ·intro k' hk'
      rcases dH.1 hk' with hk'|hk'
      ·obtain⟨h1,h2,h3⟩:=hQ1.bk k' hk';exact⟨h1,h2,λl hl p hp=>hpre2.subset<|h3 l hl p hp⟩
      ·simp at hk';subst hk';refine⟨hkm,hrk,λl hl p hp=>?_⟩;rw[htk]at hl;injection hl with hl
       exact hc2 p (by rw[hl];exact hp)
     ·by_cases e:k'=k
      ·subst e;simp
      ·exact List.mem_append_left _<|hc1 k' l (by omega) hl hm'
   ·rintro⟨sn1,pi1,bo1,us1,td1,i'⟩e⟨q1,qb1,hpre,hsub,hP1,hQ1,hc1⟩;dsimp only at e hP1 hQ1 ⊢;subst e;rw[l6,aR];exact Un ⟨q1,qb1,hpre,hsub,hP1,hQ1,λk l hl=>hc1 k l (bQ.1 hl).1 hl⟩
   intro o ho;refine Uo ho ?_<|λr hr=>hr.elim
   rintro⟨sn1,pi1,bo1,us1,td1,i'⟩⟨q1,qb1,hpre,hsub,hP1,hQ1,hc1⟩;dsimp only at hP1 hQ1 ⊢;refine Uh ⟨⟨q1,qb1,t+1,bE (by omega),by have:=hpre.length_le;omega,hP1,hQ1,λj p k l hj hjp hl hm'=>?_⟩,?_⟩
   ·by_cases e:j=t
    ·subst e;rw[Cb hpre hqt]at hjp;injection hjp with hjp;subst hjp
     exact hc1 k l hl hm'
    ·have hjq:q[j]? =some (q[j]'(by omega)):=aN _;rw[Cb hpre hjq]at hjp;injection hjp with hjp;subst hjp
     exact hsub k<|hcl j _ k l (by omega) hjq hl hm'
   ·rw[bE (by omega)];simp only[cO];omega
  ·rw[Be (by omega:td.length<=t),aR];have htq':t=q.length:=by omega
   have hclosed:∀i j,Lk n tch i j->(((i<n/\i∈q)\/∃k,k∈qb/\i=n+k)↔((j<n/\j∈q)\/∃k,k∈qb/\j=n+k)):=by
    rintro i j⟨k,l,hl,hil,rfl⟩;obtain⟨i',hi',ei⟩:=(ht l<|fR hl).2 _ hil;have:i'=i:=by omega
    subst this;constructor
    ·rintro(⟨_,h1⟩|⟨k',_,h1⟩)
     ·obtain⟨p,hp⟩:=eE h1;exact .inr ⟨k,hcl p i' k l (by rw[htq'];exact(bQ.1 hp).1) hp hl hil,rfl⟩
     ·omega
    ·rintro(⟨h1,_⟩|⟨k',h1,h2⟩)
     ·omega
     ·have:k'=k:=by omega
      subst this;exact .inl ⟨hi',(hQ.bk k' h1).2.2 l hl i' hil⟩
   have hall:∀x,x<n+m->r x=h->(x<n/\x∈q)\/∃k,k∈qb/\x=n+k:=λx hx hrx=>hC.fi _ hclosed h x (by omega) hx (by rw[hr,hrx])<|.inl ⟨hh,hP.q0⟩
   refine Un ⟨?_,?_,hP.sl,λp hp=>?_⟩
   ·refine C5 hP.pi (PI _ _ _ _) λx=>?_;rw[hP.pm,pF];constructor
    ·rintro⟨p,h1,h2⟩;exact⟨p,Ch.2 ⟨(hP.qi p h1).1,by have:=(hP.qi p h1).1;omega,(hP.qi p h1).2⟩,h2⟩
    ·rintro⟨p,h1,h2⟩;obtain⟨g1,g2,g3⟩:=Ch.1 h1
     rcases hall p g2 g3 with⟨_,g4⟩|⟨k,_,g4⟩
     ·exact⟨p,g4,h2⟩
     ·omega
   ·refine C5 hQ.bi (MP _ _ _ _ _) λx=>?_;rw[hQ.bm,pF];constructor
    ·rintro⟨k,h1,h2⟩;obtain⟨g1,g2,g3⟩:=hQ.bk k h1;refine⟨k,Ci.2 ⟨by omega,g2,?_⟩,h2⟩;have hk:tch[k]? =some (tch[k]'(by omega)):=aN _;refine hpl k _ hk λhemp=>?_;have ri:∀i j,Lk n tch i j->((i=n+k)↔(j=n+k)):=by
      rintro i j⟨k',l,hl,hil,rfl⟩;obtain⟨i',hi',ei⟩:=(ht l<|fR hl).2 _ hil;constructor
      ·intro;omega
      ·intro e;have:k'=k:=by omega
       subst this;rw[hk]at hl;injection hl with hl
       rw[<-hl,hemp]at hil;cases hil
     have:=hC.fi (λx=>x=n+k) ri (n+k) h (by omega) (by omega) (by rw[g2,hr]) rfl;omega
    ·rintro⟨k,h1,h2⟩;obtain⟨g1,g2,_⟩:=Ci.1 h1
     rcases hall (n+k) g1 g2 with⟨g4,_⟩|⟨k',g3,g4⟩
     ·omega
     ·have:k'=k:=by omega
      subst this;exact⟨k',g3,h2⟩
   ·rw[hP.sn p hp];congr 1;rw[decide_eq_decide];constructor
    ·rintro(h1|h1)
     ·omega
     ·have:=(hP.qi p h1).2;omega
    ·intro h1
     by_cases e:r p=h
     ·rcases hall p (by omega) e with⟨_,g4⟩|⟨k,_,g4⟩
      ·exact .inr g4
      ·omega
     ·exact .inl (by omega)
 ·refine⟨by rw[iC];exact hsl,λp hp=>?_,by simp,λp hp=>by simp at hp;subst hp;exact⟨hh,hr⟩,by simp,rfl,List.pairwise_singleton _ _,λx=>by simp⟩;rw[cO,ll]
  by_cases e:h=p
  ·subst e;rw[aG rfl,aG (by rw[hsl];exact hh)];congr 1;exact(bY<|.inr (by simp)).symm
  ·rw[aI e,hsn p hp];congr 1;rw[decide_eq_decide];simp only[lJ];omega
 ·exact⟨by rw[List.length_replicate];exact hm,λk hk=>by simp[hm,hk],kg,λx=>by simp,λk hk=>by cases hk⟩
 intro o ho;refine Uo ho ?_<|λr hr=>hr.elim
 rintro⟨sn,pi,bo,us,td,t'⟩⟨h1,h2,h3,h4⟩;exact OF ⟨h1,h2,rfl,h3,h4⟩
end
theorem FT(bs:List bU)(n t:Nat)(r:Nat->Nat)(hs:List Nat)(h:Nat):mB bs n t r (hs++[h])=if Is bs n (cls t r h)=true then mB bs n t r hs++[OR bs n<|cls t r h]else mB bs n t r hs:=by
 grind [mB,FJ]
def MQ(bs:List bU)(n m:Nat)(r:Nat->Nat)(h:eC):Nat:=gi bs n (n+m) r<|r<|dW n h
structure PK (G G':List bW):Prop where
 len:G'.length=G.length
 each:∀(g:Nat)x,G[g]? =some x->∃y,G'[g]? =some y/\y.fF=x.fF/\y.aM=x.aM
theorem zw(G:List bW)(lg:dE->Option Nat)(ls:List dE):PK G (gV G lg ls):=
 ⟨wR _ _ _,λg x hx=>⟨{x with fw:=(ls.filter<|λl=>decide<|lg l=some g).map l8},by grind [lW],rfl,rfl⟩⟩
section
variable {N:Nat}
theorem yv{bs:List bU}{n m:Nat}{r:Nat->Nat}(hbm:bs.length=m)(hn:n<=1000000)(hm:m<=1000000)(hle:∀i,i<n+m->r i<=i)(hrr:∀i,i<n+m->r (r i)=r i){G:List bW}(hG:PK (mB bs n (n+m) r<|bP (n+m) r) G){h:eC}(hh:D8 bs n m h)(hN:4398046511104<=N):
  dR N G h=some ((MQ bs n m r h:Nat):Int)/\MQ bs n m r h<G.length:=by
 obtain⟨k,hk,hkb,hkp⟩:=hh.num;have hx:dW n h<n+m:=by
  grind [dW]
 have hhead:r (dW n h)∈bP (n+m) r:=iw.2 ⟨by grind,hrr _ hx⟩;have hne:Is bs n (cls (n+m) r<|r<|dW n h)=true:=by
  unfold dW at hx ⊢
  by_cases hb:h.bU=true
  all_goals grind [cO,Iv,Iu]
 obtain⟨g1,g2⟩:=FK (bs:=bs) (n:=n) hhead hne;have hlen:G.length=(live bs n (n+m) r<|bP (n+m) r).length:=by rw[hG.len,uc]
 have hlive:(live bs n (n+m) r<|bP (n+m) r).Nodup:=List.Nodup.sublist List.filter_sublist<|mE _ _
 have hll:(live bs n (n+m) r<|bP (n+m) r).length<=n+m:=by
  grind [qS,bP,lH]
 have hval:∀(g:Nat)y,G[g]? =some y->Ok (bif h.bU then((idx G ((g:Nat):Int)).bind λx241=>(cN N x241.aM h.Number).bind λx250=>bif x250 then some true else(bif(!h.bU)then((idx G ((g:Nat):Int)).bind λx253=>(cN N x253.fF h.Number).bind λx262=>some x262)else some false))else(bif(!h.bU)then((idx G ((g:Nat):Int)).bind λx264=>(cN N x264.fF h.Number).bind λx273=>some x273)else some false))
   (λb=>b=true↔(live bs n (n+m) r<|bP (n+m) r)[g]? =some (r<|dW n h)):=λg y hy=>by
  have hgl:g<(live bs n (n+m) r<|bP (n+m) r).length:=by have:=(bQ.1 hy).1;omega
  have hlx:(live bs n (n+m) r<|bP (n+m) r)[g]? =some (live bs n (n+m) r<|bP (n+m) r)[g]:=aN hgl;have hgx:(mB bs n (n+m) r<|bP (n+m) r)[g]? =some (OR bs n<|cls (n+m) r (live bs n (n+m) r<|bP (n+m) r)[g]):=by unfold mB;rw[il,hlx];rfl
  obtain⟨y',hy',e1,e2⟩:=hG.each g _ hgx;rw[hy]at hy';injection hy' with hy';subst hy'
  generalize hhd:(live bs n (n+m) r<|bP (n+m) r)[g]=hd at *;have hpl:y.fF.length<=n+m/\y.aM.length<=n+m:=by
   have:=GI n<|cls (n+m) r hd
   have:=GJ bs n<|cls (n+m) r hd
   have:=A5 (n+m) r hd;rw[e1,e2];unfold OR;simp only[lf];omega
  rw[hlx]
  cases hb:h.bU with
  |true=>
   rw[aO,cG hy,aB,wZ (by omega) hN,aB];have hix:dW n h=n+k:=by unfold dW;rw[aG hb,hk,cO]
   have hiff:(h.Number∈y.aM)↔hd=r (dW n h):=by
    rw[e2,hix];unfold OR;dsimp only;rw[pF,hk];constructor
    ·rintro⟨i,hi,e⟩;have:i=k:=by omega
     subst this;exact(Ci.1 hi).2.1.symm
    ·intro e;exact⟨k,Ci.2 ⟨by omega,e.symm,(hkb hb).2⟩,rfl⟩
   by_cases hin:h.Number∈y.aM
   ·rw[bY hin,aO];exact OF ⟨λ_=>by rw[hiff.1 hin],λ_=>rfl⟩
   ·rw[cD hin,aR,ln,aR];refine OF ⟨λh=>(by cases h),λh=>?_⟩;injection h with h
    exact absurd (hiff.2 h) hin
  |false=>
   rw[aR,kh,aO,cG hy,aB,wZ (by omega) hN,aB];have hix:dW n h=k:=by unfold dW;rw[aI (by grind),hk,cO]
   have hiff:(h.Number∈y.fF)↔hd=r (dW n h):=by
    rw[e1,hix];unfold OR;dsimp only;rw[pF,hk];constructor
    ·rintro⟨i,hi,e⟩;have:i=k:=by omega
     subst this;exact(Ch.1 hi).2.2.symm
    ·intro e;exact⟨k,Ch.2 ⟨hkp hb,by omega,e.symm⟩,rfl⟩
   refine OF ?_;rw[cY,hiff];exact⟨λh=>by rw[h],λh=>by injection h⟩
 refine⟨UU ?_,by grind [MQ]⟩;unfold dR MQ;refine TZ (UE (n:=G.length) (λs=>s) (λk _=>∀g,g<k->(live bs n (n+m) r<|bP (n+m) r)[g]? ≠some (r<|dW n h)) (Go:=λ_=>False) (Rt:=λs=>s=((gi bs n (n+m) r (r<|dW n h):Nat):Int)) ?_ ?_ (cS _) rfl (λg hg=>by omega) (by omega)) ?_
 ·rintro g s hg e hI;subst e;rw[iR hg,aO];refine TZ (hval g _<|aN hg) λb hb=>?_
  grind [UZ,yM,Uh,bE]
 ·grind
 intro o ho;exact Uo ho (λ_ h=>h.elim)<|λr hr=>OF hr
theorem IV{bs:List bU}{pcs:List aD}{r:Nat->Nat}(hb:kQ bs)(hp:pcs.length<=1000000)(hpr:∀p∈pcs,p.dY.length<=1000000/\∀x∈p.dY,x.X0<x.X1)(hd:∀l:dE,∀b∈bs,∀p∈pcs,mQ l b=true->lV l p=true->False)
  (hle:∀i,i<pcs.length+bs.length->r i<=i) (hrr:∀i,i<pcs.length+bs.length->r (r i)=r i) {G:List bW} (hG:PK (mB bs pcs.length (pcs.length+bs.length) r<|bP (pcs.length+bs.length) r) G) (l:dE) (hN:4398046511104<=N):
  fB N bs (pcs.map aD.cL) (pcs.map aD.dY) G l=some (E2 bs pcs r l)/\∀g,uy bs pcs r l=some g->g<G.length:=by
 have hbl:=hb.len;unfold fB E2 uy;rw[FR hb hp hpr l hN,aB,KE<|hd l]
 cases hh:qw bs pcs l with
 |none=>simp
 |some h=>
  obtain⟨e1,e2⟩:=yv (N:=N) rfl hp (by omega) hle hrr hG (B6 hh) hN;refine⟨?_,λg hg=>?_⟩
  ·dsimp only[Option.getD_some,Option.isSome_some];rw[ln,aR,e1,aB];rfl
  ·rw[Option.map_some]at hg;injection hg with hg
   rw[<-hg];exact e2
theorem MR{bs:List bU}{pcs:List aD}:∀(k:Nat)l,(cT bs pcs)[k]? =some l->l≠[]->ry bs k=true:=λk l hl hne=>by
 unfold cT at hl;rw[il,rB]at hl;obtain⟨b,hb,rfl⟩:=hl;unfold ry;rw[hb]
 cases hp:b.fD with
 |true=>simpa using hp
 |false=>
  exfalso;refine hne ?_;have:qp (iP b) pcs pcs.length= []:=by
   unfold qp;rw[List.filter_eq_nil_iff];intro j _;rw[ma,Option.any_eq_false];intro p _;unfold iP;rw[hp];rfl
  rw[this];rfl
theorem Lz{bs:List bU}{ls:List dE}{pcs:List aD}{r:Nat->Nat}(hb:kQ bs)(hp:pcs.length<=2000)(hl:ls.length<=1000000)(hpr:∀p∈pcs,p.dY.length<=1000000/\∀x∈p.dY,x.X0<x.X1)(hd:∀l:dE,∀b∈bs,∀p∈pcs,mQ l b=true->lV l p=true->False)
  (hC:CT pcs.length bs.length (cT bs pcs) r) (hN:4398046511104<=N):
  fQ N bs ls (pcs.map aD.cL) (pcs.map aD.dY) (cT bs pcs)=some (gV (mB bs pcs.length (pcs.length+bs.length) r<|bP (pcs.length+bs.length) r) (uy bs pcs r) ls):=by
 refine UU ?_;have hbl:=hb.len;have htl:(cT bs pcs).length=bs.length:=by simp[cT,eB]
 have hto:=yn (bs:=bs) (pcs:=pcs) (by omega);have hgl:∀hs:List Nat,(mB bs pcs.length (pcs.length+bs.length) r hs).length<=hs.length:=λhs=>by simp[uc,qS]
 unfold fQ;rw[eB];refine IT (oO false (by omega)) ?_
 refine TZ (UE (n:=pcs.length) (λst=>st.2.2) (λi st=>st.1=mB bs pcs.length (pcs.length+bs.length) r (bP i r)/\st.2.1.length=pcs.length/\∀p,p<pcs.length->st.2.1[p]? =some (decide (r p<i)))
  (Go:=λst=>st.1=mB bs pcs.length (pcs.length+bs.length) r (bP pcs.length r)) (Rt:=λ_=>False) ?_ ?_ (cS _) rfl ⟨by rfl,by simp,λp hp=>by simp[hp]⟩ (by omega)) ?_
 ·rintro i⟨G,sn,ii⟩hi e⟨hG,hsl,hsn⟩;dsimp only at e hG hsl hsn ⊢;subst e;subst hG;rw[iR hi,aO];refine T6 (hsn i hi) ?_;refine TZ (P:=λst:List bW×List Bool=>st.1=mB bs pcs.length (pcs.length+bs.length) r (bP (i+1) r)/\st.2.length=pcs.length/\∀p,p<pcs.length->st.2[p]? =some (decide<|r p<i+1)) (Uv (λhb=>?_)<|λhb=>OF ⟨?_,hsl,λp hp=>?_⟩)<|λst hst=>Uh ⟨bE (by omega),hst⟩
  ·rw[Bool.not_eq_true',decide_eq_false_iff_not]at hb;have hri:r i=i:=by have:=hC.le i (by omega);omega
   refine TZ (IU (bs:=bs) hC htl hto (by omega) (by omega) MR hi hri hsl hsn hN) λx hx=>?_;obtain⟨x1,x2,x3,x4,x5⟩:=hx;have h1:=hgl<|bP i r
   have h2:=lH i r;refine UJ (by grind)<|OF ⟨?_,x4,x5⟩
   dsimp only;have hne:Is bs pcs.length (cls (pcs.length+bs.length) r i)=true:=by
    grind [Iu]
   rw[ij,aG hri,FT,aG hne,x1,x2,x3];rfl
  ·grind [Bool.not_eq_false',ij]
  ·rw[Bool.not_eq_false',cY]at hb;rw[hsn p hp];congr 1;rw[decide_eq_decide];have hne:r p≠i:=λe=>by have:=hC.rr p (by omega);rw[e]at this;omega
   omega
 ·rintro⟨G,sn,ii⟩e⟨hG,_,_⟩;dsimp only at e hG ⊢;subst e;rw[l6,aR];exact Un hG
 intro o ho;refine Uo ho ?_<|λr hr=>hr.elim
 rintro⟨G,sn,ii⟩hG;dsimp only at hG ⊢;subst hG;rw[htl];have halone:∀k,k<bs.length->(cT bs pcs)[k]? =some []->∀x,x<pcs.length+bs.length->(r x=r (pcs.length+k)↔x=pcs.length+k):=λk hk hemp x hx=>by
  constructor
  ·intro e;refine hC.fi (λy=>y=pcs.length+k) ?_ (pcs.length+k) x (by omega) hx e.symm rfl;rintro i j⟨k',l,hl,hil,rfl⟩;obtain⟨i',hi',ei⟩:=(hto l<|fR hl).2 _ hil;constructor
   ·intro;omega
   ·intro e;have:k'=k:=by omega
    subst this;rw[hemp]at hl;injection hl with hl
    rw[<-hl]at hil;cases hil
  ·intro e;rw[e]
 refine TZ (UE (n:=bs.length) (λst=>st.2) (λi st=>st.1=mB bs pcs.length (pcs.length+bs.length) r (bP (pcs.length+i) r))
  (Go:=λst=>st.1=mB bs pcs.length (pcs.length+bs.length) r (bP (pcs.length+bs.length) r)) (Rt:=λ_=>False) ?_ ?_ (cS _) rfl rfl (by omega)) ?_
 ·rintro i⟨G,ii⟩hi e hG;dsimp only at e hG ⊢;subst e;subst hG;rw[iR hi,aO];have hx:bs[i]? =some bs[i]:=aN hi;have htx:(cT bs pcs)[i]? =some ((cT bs pcs)[i]'(by omega)):=aN _;have hpi:ry bs i=bs[i].fD:=by unfold ry;rw[hx];rfl
  have hlen:=hgl<|bP (pcs.length+i) r
  have hhl:=lH (pcs.length+i) r;have hcond:((idx bs ((i:Nat):Int)).bind λx210=>bif x210.fD then((idx (cT bs pcs) ((i:Nat):Int)).bind λx214=>some<|(x214.length:Int)==0)else some false)=some (ry bs i&&decide ((cT bs pcs)[i]'(by omega)= [])):=by
   rw[cG hx,aB,cG htx,aB,hpi]
   cases bs[i].fD with
   |false=>rfl
   |true=>
    rw[aO,Bool.true_and];congr 1;rw[jq,cY,beq_iff_eq];constructor
    ·intro h;exact List.eq_nil_of_length_eq_zero (by omega)
    ·intro h;rw[h];rfl
  refine IT hcond ?_;have hstep:mB bs pcs.length (pcs.length+bs.length) r (bP (pcs.length+(i+1)) r)=if(ry bs i&&decide ((cT bs pcs)[i]'(by omega)= []))=true then mB bs pcs.length (pcs.length+bs.length) r (bP (pcs.length+i) r)++[⟨[],[((i:Nat):Int)],[]⟩]else mB bs pcs.length (pcs.length+bs.length) r (bP (pcs.length+i) r):=by
   rw[<-Nat.add_assoc,ij]
   by_cases hemp:(cT bs pcs)[i]'(by omega)= []
   ·rw[hemp]at htx;have ri:=halone i hi htx;have hri:r (pcs.length+i)=pcs.length+i:=by
     have h1:=hC.le (pcs.length+i) (by omega);exact(ri _ (by omega)).1<|hC.rr _ (by omega)
    rw[aG hri,FT];have hcl:∀x,x∈cls (pcs.length+bs.length) r (pcs.length+i)↔x=pcs.length+i:=λx=>by
     rw[rF];constructor
     ·rintro⟨h1,h2⟩;exact(ri x h1).1 (by rw[h2,hri])
     ·intro h;subst h;exact⟨by omega,hri⟩
    have hgp:gP pcs.length (cls (pcs.length+bs.length) r<|pcs.length+i)= []:=by
     unfold gP;rw[List.filter_eq_nil_iff];intro x hx;rw[(hcl x).1 hx];simp
    by_cases hpl:ry bs i=true
    ·have hne:Is bs pcs.length (cls (pcs.length+bs.length) r<|pcs.length+i)=true:=by
      have:=Iv (bs:=bs) (n:=pcs.length) (r:=r) hpl (show pcs.length+i<pcs.length+bs.length by omega);rwa[hri]at this
     rw[aG hne,aG (by rw[hpl,bY hemp];rfl)];congr 2;unfold OR;rw[hgp];have hgb:ints (gB bs pcs.length<|cls (pcs.length+bs.length) r<|pcs.length+i)= [((i:Nat):Int)]:=by
      refine C5 (MP _ _ _ _ _) (List.pairwise_singleton _ _) λx=>?_;rw[pF];simp only[lJ];constructor
      ·rintro⟨k,h1,h2⟩;obtain⟨g1,g2,_⟩:=Ci.1 h1;have:=(ri _ g1).1 (by rw[g2,hri]);omega
      ·intro h;exact⟨i,Ci.2 ⟨by omega,hri,hpl⟩,h⟩
     rw[hgb];rfl
    ·have hne:¬Is bs pcs.length (cls (pcs.length+bs.length) r<|pcs.length+i)=true:=by
      unfold Is;have hgb:gB bs pcs.length (cls (pcs.length+bs.length) r<|pcs.length+i)= []:=by
       unfold gB;rw[List.map_eq_nil_iff,List.filter_eq_nil_iff];intro x hx;rw[(hcl x).1 hx,Nat.add_sub_cancel_left];simp[hpl]
      rw[hgp,hgb];simp
     rw[aI hne,aI (by rw[ma]at hpl ⊢;rw[hpl];rfl)]
   ·have hri:¬r (pcs.length+i)=pcs.length+i:=λe=>by
     obtain⟨x,hxm⟩:=List.exists_mem_of_ne_nil _ hemp;obtain⟨p,hp1,hp2⟩:=(hto _<|cH (show i<(cT bs pcs).length by omega)).2 x hxm;have h1:=hC.co p (pcs.length+i) ⟨i,_,htx,by rw[<-hp2];exact hxm,rfl⟩;have h2:=hC.le p (by omega);omega
    rw[aI hri,aI (by rw[cD hemp,Bool.and_false];exact lK)]
  refine TZ (P:=λst:List bW=>st=mB bs pcs.length (pcs.length+bs.length) r (bP (pcs.length+(i+1)) r)) (Uv (λhb=>?_)<|λhb=>OF ?_)<|λst hst=>Uh ⟨bE (by omega),hst⟩
  ·refine UJ (by simp only[eI,List.length_nil];omega)<|OF ?_
   rw[hstep,aG hb]
  ·rw[hstep,aI (by rw[ma];exact hb)]
 ·rintro⟨G,ii⟩e hG;dsimp only at e hG ⊢;subst e;rw[l6,aR];exact Un hG
 intro o ho;refine Uo ho ?_<|λr hr=>hr.elim
 rintro⟨G,ii⟩hG;dsimp only at hG ⊢;subst hG;have hGl:=hgl<|bP (pcs.length+bs.length) r
 have hhl:=lH (pcs.length+bs.length) r;generalize hGG:mB bs pcs.length (pcs.length+bs.length) r (bP (pcs.length+bs.length) r)=G at *;refine TZ (UE (n:=ls.length) (λst=>st.2) (λi st=>st.1=gV G (uy bs pcs r) (ls.take i)) (Go:=λst=>st.1=gV G (uy bs pcs r) ls) (Rt:=λ_=>False) ?_ ?_ (cS _) rfl ?_ (by omega)) ?_
 ·rintro i⟨W,ii⟩hi e hW;dsimp only at e hW ⊢;subst e;subst hW;rw[iR hi,aO];have hx:ls[i]? =some ls[i]:=aN hi;have hts:ls.take (i+1)=ls.take i++[ls[i]]:=dQ hi;obtain⟨e1,e2⟩:=IV (N:=N) (r:=r) hb (by omega) hpr hd hC.le hC.rr (G:=gV G (uy bs pcs r)<|ls.take i) (by rw[hGG];exact zw _ _ _) ls[i] hN;refine T6 hx<|IT e1 ?_
  refine TZ (P:=λst:List bW=>st=gV G (uy bs pcs r) (ls.take<|i+1)) ?_<|λst hst=>Uh ⟨bE (by omega),hst⟩
  unfold E2
  cases hg:uy bs pcs r ls[i]with
  |none=>
   dsimp only;rw[show decide ((-1:Int)>=0)=false by decide,aR];refine OF ?_;rw[hts,zp hg]
  |some g=>
   have hgW:=e2 g hg;have hWg:(gV G (uy bs pcs r)<|ls.take i)[g]? =some (gV G (uy bs pcs r)<|ls.take i)[g]:=aN hgW;dsimp only;rw[bY (by omega),aO];have hpl:(gV G (uy bs pcs r)<|ls.take i)[g].fw.length<=ls.length:=by
    have:=hWg;rw[lW,rB]at this;obtain⟨y,_,hy⟩:=this;rw[<-hy];dsimp only;rw[eB];have:=nA (λl=>decide<|uy bs pcs r l=some g)<|ls.take i
    rw[dS]at this;omega
   refine T6 hWg<|UJ (by simp only[eI,List.length_nil];omega)<|T6 hWg<|OF ?_
   rw[cO,hts];exact Bb hg hWg
 ·rintro⟨W,ii⟩e hW;dsimp only at e hW ⊢;subst e;rw[l6,aR];exact Un (by rw[eM]at hW;exact hW)
 ·apply List.ext_getElem?;intro g;rw[lW]
  cases hGg:G[g]? with
  |none=>rfl
  |some x=>
   have hx0:x.fw= []:=by
    rw[<-hGG]at hGg;unfold mB at hGg;rw[il,rB]at hGg;obtain⟨hd',_,rfl⟩:=hGg;rfl
   simp only[Option.map_some,List.take_zero,List.filter_nil,List.map_nil,Option.some.injEq];rw[<-hx0]
 intro o ho;exact Uo ho (λst hst=>OF hst)<|λr hr=>hr.elim
end
section
variable {N:Nat}{a:jO}{ke:List (List aA)}{cX:List (List (List aA))}{r:Nat->Nat}{gs:List bW}{ofP ofB jD:List Int}{ji:List eC}
theorem jh.zq(b:jh a ke cX r gs ofP ofB jD ji):we a:=Lx b.xD.zq
theorem IW(b:jh a ke cX r gs ofP ofB jD ji)(hN:4398046511104<=N):
  jL N a=some (a.aK,a.cU,a.aM,a.bV,(bM 0 cX).map aD.cL,(bM 0 cX).map aD.dY,gs,cT a.aM<|bM 0 cX):=by
 refine UU ?_;have hc16:=b.xD.xG.2;have hfew:=b.xG.2;have hbl:=b.xD.gb.len;have hll:=b.zq.xG;unfold jL;have hpl:∀k,(bM 0<|cX.take k).length<=2000:=λk=>by
  grind [Cf,List.length,List.take_append_drop]
 refine TZ (UE (n:=a.aK.length) (λst=>st.2.2) (λi st=>st.1=(bM 0<|cX.take i).map aD.cL/\st.2.1=(bM 0<|cX.take i).map aD.dY) (Go:=λst=>st.1=(bM 0 cX).map aD.cL/\st.2.1=(bM 0 cX).map aD.dY) (Rt:=λ_=>False) ?_ ?_ (cS _) rfl ⟨rfl,rfl⟩ (by omega)) ?_
 ·rintro i⟨La,Re,ii⟩hi e⟨h1,h2⟩;dsimp only at e h1 h2 ⊢;subst e;subst h1;subst h2;rw[iR hi,aO];obtain⟨s,ps,u,hd,hp,L⟩:=CE b hi;have hcx:a.aK[i]? =some a.aK[i]:=aN hi;have hcs:=b.xD.cs _<|cH hi
  have hip:=(bQ.1 hp).1;have hts:bM 0 (cX.take<|i+1)=bM 0 (cX.take i)++ps.map (λp=>⟨((i:Nat):Int),p,aV p⟩):=by
   grind [dQ,bQ,wQ,dS,Min.min]
  have hl1:=hpl i;have hl2:=hpl<|i+1
  rw[hts,dX,eB]at hl2;refine IT (yu b.xD.gb hcx hcs.1 hcs.2 L.dr hN)<|IT (L.pieces hN) ?_
  rw[eB]
  refine TZ (UE (n:=ps.length) (λst=>st.2.2) (λj st=>st.1=(bM 0 (cX.take i)).map aD.cL++(ps.take j).map (λ_=>((i:Nat):Int))/\st.2.1=(bM 0 (cX.take i)).map aD.dY++(ps.take j).map aV)
   (Go:=λst=>st.1=(bM 0 (cX.take (i+1))).map aD.cL/\st.2.1=(bM 0 (cX.take (i+1))).map aD.dY) (Rt:=λ_=>False) ?_ ?_ (cS _) rfl ⟨by simp,by simp⟩ (by omega)) ?_
  ·rintro j⟨La,Re,jj⟩hj e⟨h1,h2⟩;dsimp only at e h1 h2 ⊢;subst e;subst h1;subst h2;rw[iR hj,aO];have hx:(ps.map aV)[j]? =some (aV ps[j]):=by grind
   refine UJ ?_<|T6 hx<|UJ ?_<|Uh ⟨bE (by omega),?_,?_⟩
   ·grind
   ·grind
   all_goals grind [dQ,kI]
  ·rintro⟨La,Re,jj⟩e⟨h1,h2⟩;dsimp only at e h1 h2 ⊢;subst e;subst h1;subst h2;rw[l6,aR];refine Un ⟨?_,?_⟩
   ·dsimp only;rw[hts,fW,List.map_map,eM];rfl
   ·dsimp only;rw[hts,fW,List.map_map,eM];rfl
  intro o ho;exact Uo ho (λst hst=>Uh ⟨bE (by omega),hst⟩)<|λr hr=>hr.elim
 ·rintro⟨La,Re,ii⟩e⟨h1,h2⟩;dsimp only at e h1 h2 ⊢;subst e;rw[l6,aR];rw[mF (by rw[b.dr.B4];exact cJ _)]at h1 h2;exact Un ⟨h1,h2⟩
 intro o ho;refine Uo ho ?_<|λr hr=>hr.elim
 rintro⟨La,Re,ii⟩⟨h1,h2⟩;dsimp only at h1 h2 ⊢;subst h1;subst h2;rw[eB];have hpf:=λp hp=>sf b (p:=p) hp;generalize hpcs:bM 0 cX=pcs at *;refine TZ (UE (n:=a.aM.length) (λst=>st.2) (λi st=>st.1=cT (a.aM.take i) pcs) (Go:=λst=>st.1=cT a.aM pcs) (Rt:=λ_=>False) ?_ ?_ (cS _) rfl rfl (by omega)) ?_
 ·rintro i⟨T,ii⟩hi e hT;dsimp only at e hT ⊢;subst e;subst hT;rw[iR hi,aO];have hx:a.aM[i]? =some a.aM[i]:=aN hi;have hg:=b.xD.gb.ok _<|cH hi
  have hsq:=OQ hg.1 hg.2;have hplain:¬a.aM[i].fD=true->qp (iP a.aM[i]) pcs pcs.length= []:=λhp=>by
   unfold qp;rw[List.filter_eq_nil_iff];intro j _;rw[ma,Option.any_eq_false];intro p _;unfold iP;rw[ma]at hp;rw[hp];rfl
  refine TZ (U5 (Go:=λst=>st.1=ints (qp (iP a.aM[i]) pcs pcs.length)) (Rt:=λ_=>False) (λst=>∃j:Nat,st.2=((j:Nat):Int)/\j<=pcs.length/\st.1=ints (qp (iP a.aM[i]) pcs j)) (λst=>pcs.length - st.2.toNat) ?_ ⟨0,rfl,cS _,rfl⟩ (by simp;omega)) ?_
  ·rintro⟨ow,jj⟩⟨j,e,hj,ho⟩;dsimp only at e ho ⊢;subst e;subst ho
   by_cases hlt:j<pcs.length
   ·rw[iR hlt,aO,cG hx,aB,aB];refine Uv (λhpl=>?_)<|λhpl=>Un ?_
    ·have hpx:pcs[j]? =some pcs[j]:=aN hlt;have hlx:(pcs.map aD.cL)[j]? =some pcs[j].cL:=by rw[il,hpx];rfl
     have hrx:(pcs.map aD.dY)[j]? =some pcs[j].dY:=by rw[il,hpx];rfl
     obtain⟨f1,f2,_⟩:=hpf _<|cH hlt
     have hil:=B5 (iP a.aM[i]) pcs j;have hcond:((some a.aM[i]).bind λx932=>(idx (pcs.map aD.cL) ((j:Nat):Int)).bind λx935=>(fT N x932 x935).bind λx936=>bif x936 then((idx (pcs.map aD.dY) ((j:Nat):Int)).bind λx938=>(some a.aM[i]).bind λx941=>(cP N x941).bind λx944=>(jQ N x938 x944).bind λx946=>some x946)else some false)=some (iP a.aM[i] pcs[j]):=by
      rw[aB,cG hlx,aB,wY,aB,cG hrx,aB,aB,pH hg.1,aB,NW (by omega) (λq hq=>GG (f2 q hq).1 (f2 q hq).2.1 (f2 q hq).2.2) hsq hN,aB];unfold iP;rw[hpl,Bool.true_and]
      cases mA a.aM[i] pcs[j].cL <;> rfl
     refine IT hcond ?_;refine TZ (P:=λst:List Int=>st=ints (qp (iP a.aM[i]) pcs<|j+1)) (Uv (λhb=>?_)<|λhb=>OF ?_)<|λst hst=>Uh ⟨⟨j+1,bE (by omega),hlt,hst⟩,?_⟩
     ·refine UJ (by rw[lf];simp only[eI,List.length_nil];omega)<|OF ?_
      rw[z7 hpx,aG hb,sd];rfl
     ·rw[z7 hpx,aI (by rw[ma];exact hb)]
     ·dsimp only;rw[bE (by omega)];simp only[cO];omega
    ·have hn:=hplain (by rw[hpl];exact lK);have hj0:qp (iP a.aM[i]) pcs j= []:=by
      unfold qp;rw[List.filter_eq_nil_iff];intro j' hj';rw[ma,Option.any_eq_false];intro p _;unfold iP;rw[hpl];rfl
     dsimp only;rw[hn,hj0]
   ·have:j=pcs.length:=by omega
    subst this;rw[l6,aR,aB,aR];exact Un rfl
  intro o ho;refine Uo ho ?_<|λr hr=>hr.elim
  rintro⟨ow,jj⟩ho2;dsimp only at ho2 ⊢;subst ho2;refine UJ ?_<|Uh ⟨bE (by omega),?_⟩
  ·unfold cT;rw[eB,dS];simp only[eI,List.length_nil];omega
  ·dsimp only;unfold cT;rw[dQ hi,fW];rfl
 ·rintro⟨T,ii⟩e hT;dsimp only at e hT ⊢;subst e;rw[l6,aR];exact Un (by rw[eM]at hT;exact hT)
 intro o ho;refine Uo ho ?_<|λr hr=>hr.elim
 rintro⟨T,ii⟩hT;dsimp only at hT ⊢;subst hT;have hcon:=b.yp;rw[hpcs]at hcon;have hnb:=λl=>KF b l;rw[hpcs]at hnb;refine IT (Lz (r:=r) b.xD.gb (by omega) (by omega) (λp hp=>⟨by have:=(hpf p hp).1;omega,λx hx=>((hpf p hp).2.1 x hx).2.1⟩) hnb hcon.conn hN)<|OF ?_
 rw[<-hcon.gs]
end
section
variable {bs:List bU}{ls:List dE}{pcs:List aD}{r:Nat->Nat}{gs:List bW}{ofP ofB jD:List Int}{ji:List eC}
theorem JQ(hc:wS bs ls pcs r gs ofP ofB jD ji){g:Nat}{x:bW}(hg:gs[g]? =some x):
  ∃hd,(live bs pcs.length (pcs.length+bs.length) r<|bP (pcs.length+bs.length) r)[g]? =some hd/\x.fF=ints (gP pcs.length<|cls (pcs.length+bs.length) r hd)/\
   x.aM=ints (gB bs pcs.length<|cls (pcs.length+bs.length) r hd)/\x.fw=(ls.filter<|λl=>decide<|uy bs pcs r l=some g).map l8:=by
 rw[hc.gs,lW]at hg;obtain⟨y,hy,rfl⟩:=rB.1 hg;unfold mB at hy;rw[il]at hy;obtain⟨hd,h1,rfl⟩:=rB.1 hy;exact⟨hd,h1,rfl,rfl,rfl⟩
theorem GU(hc:wS bs ls pcs r gs ofP ofB jD ji):gs.length=(live bs pcs.length (pcs.length+bs.length) r<|bP (pcs.length+bs.length) r).length/\gs.length<=pcs.length+bs.length:=by
 have e:gs.length=(live bs pcs.length (pcs.length+bs.length) r<|bP (pcs.length+bs.length) r).length:=by
  rw[hc.gs,wR,uc]
 refine⟨e,?_⟩;rw[e];have:=qS bs pcs.length (pcs.length+bs.length) r<|bP (pcs.length+bs.length) r
 have:=lH (pcs.length+bs.length) r;omega
theorem MS(hc:wS bs ls pcs r gs ofP ofB jD ji){k:Nat}(hk:k<pcs.length):
  ∃g:Nat,ofP[k]? =some ((g:Nat):Int)/\g<gs.length/\(live bs pcs.length (pcs.length+bs.length) r<|bP (pcs.length+bs.length) r)[g]? =some (r k):=by
 have hm:r k∈bP (pcs.length+bs.length) r:=iw.2 ⟨by have:=hc.conn.le k (by omega);omega,hc.conn.rr k (by omega)⟩;obtain⟨g1,g2⟩:=FK (bs:=bs) (n:=pcs.length) hm<|Iu hk (by omega)
 exact⟨_,hc.of.pc k hk hm,by rw[(GU hc).1];exact g1,g2⟩
theorem PL(hc:wS bs ls pcs r gs ofP ofB jD ji){g:Nat}{x:bW}(hg:gs[g]? =some x)(k:Nat):
  ((k:Nat):Int)∈x.fF↔k<pcs.length/\ofP[k]? =some ((g:Nat):Int):=by
 obtain⟨hd,h1,h2,_⟩:=JQ hc hg;rw[h2,pF];constructor
 ·rintro⟨i,hi,e⟩;have:k=i:=by omega
  subst this;obtain⟨a1,a2,a3⟩:=Ch.1 hi;obtain⟨g',b1,b2,b3⟩:=MS hc a1;have:=yM (List.Nodup.sublist List.filter_sublist<|mE _ _) h1<|a3▸b3
  exact⟨a1,by rw[b1,this]⟩
 ·rintro⟨a1,a2⟩;obtain⟨g',b1,b2,b3⟩:=MS hc a1;rw[a2]at b1;injection b1 with b1
  have:g=g':=by omega
  subst this;rw[h1]at b3;injection b3 with b3
  exact⟨k,Ch.2 ⟨a1,by omega,b3.symm⟩,rfl⟩
theorem NX(hc:wS bs ls pcs r gs ofP ofB jD ji){g:Nat}{x:bW}(hg:gs[g]? =some x):∀c∈x.fF,∃k:Nat,c=((k:Nat):Int):=by
 obtain⟨hd,h1,h2,_⟩:=JQ hc hg;intro c hc';rw[h2,pF]at hc';obtain⟨i,_,e⟩:=hc';exact⟨i,e⟩
theorem NY(hc:wS bs ls pcs r gs ofP ofB jD ji){g:Nat}{x:bW}(hg:gs[g]? =some x):x.fF.length<=pcs.length+bs.length/\x.aM.length<=pcs.length+bs.length/\x.fw.length<=ls.length:=by
 obtain⟨hd,h1,h2,h3,h4⟩:=JQ hc hg;have a1:=GI pcs.length<|cls (pcs.length+bs.length) r hd
 have a2:=GJ bs pcs.length<|cls (pcs.length+bs.length) r hd
 have a3:=A5 (pcs.length+bs.length) r hd;rw[h2,h3,h4,lf,lf,eB];have:=nA (λl=>decide<|uy bs pcs r l=some g) ls;omega
end
section
variable {N:Nat}{a:jO}{ke:List (List aA)}{cX:List (List (List aA))}{r:Nat->Nat}{gs:List bW}{ofP ofB jD:List Int}{ji:List eC}
theorem FU(g:we a)(p:fz)(hN:4398046511104<=N):m9 N a p=some (KC a p):=by
 obtain⟨r,h1,h2⟩:=IL (N:=N) (p:=p) g.up (by have:=g.xG;omega) (by omega) (φ:=jS N) (λx=>by unfold jS;rw[B2,aB,xk,aB]);unfold m9;have e:gT N a.bV p (jS N)=Ml N a.bV p (jS N):=rfl;rw[e,h1,aB];exact h2
end
theorem CT.uniq{n m:Nat}{tch:List (List Int)}{r1 r2:Nat->Nat}(h1:CT n m tch r1)(h2:CT n m tch r2){i j:Nat}(hi:i<n+m)(hj:j<n+m):r1 i=r1 j↔r2 i=r2 j:=by
 have key:∀{r1 r2:Nat->Nat},CT n m tch r1->CT n m tch r2->r1 i=r1 j->r2 i=r2 j:=λ{r1 r2}h1 h2 e=>
  (h1.fi (λx=>r2 i=r2 x) (λa b hab=>by rw[h2.co a b hab]) i j hi hj e) rfl
 grind
section
variable {N:Nat}{a:jO}{ke:List (List aA)}{cX:List (List (List aA))}{r:Nat->Nat}{gs:List bW}{ofP ofB jD:List Int}{ji:List eC}
theorem PM(x y:Int)(u:List Int):jR N x y [] u=fL N u x y:=by
 show(((fL N u x y).bind λx38=>some x38).bind λs36=>some s36)=_;simp
theorem GV{bs:List bU}{pcs:List aD}{l:dE}{h:eC}(hh:qw bs pcs l=some h)(hn:pcs.length+bs.length<=1000000000):
  ja N h ((pcs.length:Nat):Int)=some ((dW pcs.length h:Nat):Int)/\dW pcs.length h<pcs.length+bs.length:=by
 obtain⟨k,e,h1,h2⟩:=(B6 hh).num
 grind [ja,dW,cO,wrap_add]
structure NZ (bs:List bU) (pcs:List aD) (ls:List dE) (r2:Nat->Nat) (j:Nat) (up:List Int) (fm:List (Int×Int)) (out:List Int):Prop where
 uf:UF (pcs.length+bs.length) up r2
 len:out.length=ls.length
 no:∀i l,i<j->ls[i]? =some l->qw bs pcs l=none->out[i]? =some (-1)
 yes:∀i l h,i<j->ls[i]? =some l->qw bs pcs l=some h->lZ fm ((r2 (dW pcs.length h):Nat):Int)=true/\out[i]? =some (fK fm ((r2 (dW pcs.length h):Nat):Int) 0)
 low:∀x,lZ fm x=true->∃v:Nat,fK fm x 0=((v:Nat):Int)/\v<j
 inj:∀x y,lZ fm x=true->lZ fm y=true->fK fm x 0=fK fm y 0->x=y
theorem JR{bs:List bU}{pcs:List aD}{ls:List dE}(hn:pcs.length+bs.length<=1000000000)(hp:pcs.length<=1073741824)(hbl:bs.length<=1073741824)(hl:ls.length<=1073741824)(hof:jD=ls.map (E2 bs pcs r))(hat:ji=ls.map (λl=>(qw bs pcs l).getD ⟨false,0⟩))(hN:4398046511104<=N):
  ∃r2 c up fm,f9 N bs ls pcs (cT bs pcs) jD ji []=some c/\CT pcs.length bs.length (cT bs pcs) r2/\NZ bs pcs ls r2 ls.length up fm c:=by
 suffices h:Ok (f9 N bs ls pcs (cT bs pcs) jD ji []) (λc=>∃r2 up fm,CT pcs.length bs.length (cT bs pcs) r2/\NZ bs pcs ls r2 ls.length up fm c)by
  obtain⟨c,h1,r2,up,fm,h2,h3⟩:=h
  grind
 unfold f9;refine IT (x:=[]) rfl ?_;rw[wrap_add (by omega)];obtain⟨up0,u1,u2⟩:=yg (N:=N) (n:=pcs.length+bs.length) (by omega);refine IT u1 ?_;simp only[PM];refine TZ (FI (n:=pcs.length) (m:=bs.length) (by simp[cT]) (yn (by omega)) (by omega) (by omega) u2 hN) ?_;rintro up1⟨r2,v1,v2⟩;refine IT (x:=up1) rfl<|IT (oO 0 (by omega)) ?_
 have ri:ji.length=ls.length:=by rw[hat,eB]
 refine TZ (UX (λj(st:List Int×List (Int×Int)×List Int)=>NZ bs pcs ls r2 j st.1 st.2.1 st.2.2) (by omega) ⟨v1,by simp,λi l h=>by omega,λi l h h1=>by omega,λx hx=>(by cases hx),λx y hx=>(by cases hx)⟩ ?_)<|λst I=>OF ⟨r2,st.1,st.2.1,v2,by grind⟩
 rintro j⟨up,fm,out⟩hj I;rw[ri]at hj;dsimp only at I ⊢;have hx:ls[j]? =some ls[j]:=aN hj;have h1:ji[j]? =some ((qw bs pcs ls[j]).getD ⟨false,0⟩):=by grind
 have h2:jD[j]? =some (E2 bs pcs r ls[j]):=by grind
 have h3:out[j]? =some (out[j]'(by rw[I.len];exact hj)):=aN _;have hjo:j<out.length:=by grind
 refine T6 h1 ?_
 cases hh:qw bs pcs ls[j]with
 |none=>
  have e1:E2 bs pcs r ls[j] = -1:=by grind [E2,uy]
  refine IT (x:=0) rfl<|IT (x:=true) (by grind [cG,aB]) ?_
  refine T6 h3<|OF ?_
  dsimp only;rw[cO];refine⟨I.uf,by rw[iC];exact I.len,λi l hi hil hn=>?_,λi l h hi hil hs=>?_,λx hx=>?_,I.inj⟩
  ·by_cases e:i=j
   ·grind
   ·rw[List.getElem?_set_ne<|Ne.symm e];exact I.no i l (by omega) hil hn
  ·by_cases e:i=j
   ·grind
   ·rw[List.getElem?_set_ne<|Ne.symm e];exact I.yes i l h (by omega) hil hs
  ·obtain⟨v,q1,q2⟩:=I.low x hx;grind
 |some h=>
  obtain⟨c1,c2⟩:=GV (N:=N) hh hn;have e1:∃g:Nat,E2 bs pcs r ls[j]=((g:Nat):Int):=by grind [E2,uy]
  obtain⟨g,e1⟩:=e1;refine IT c1<|IT (x:=false) (by rw[cG h2,aB,e1,cD (show ¬((g:Nat):Int)<0 by omega),aR];rfl) ?_
  rw[aR];obtain⟨up2,t1,t2⟩:=sE (N:=N) I.uf c2 (by omega);refine IT t1 ?_;dsimp only;have fin:∀(up3:List Int)(fm2:List (Int×Int)),UF (pcs.length+bs.length) up3 r2->(∀x,lZ fm x=true->lZ fm2 x=true/\fK fm2 x 0=fK fm x 0)->lZ fm2 ((r2 (dW pcs.length h):Nat):Int)=true->(∀x,lZ fm2 x=true->∃v:Nat,fK fm2 x 0=((v:Nat):Int)/\v<j+1)->(∀x y,lZ fm2 x=true->lZ fm2 y=true->fK fm2 x 0=fK fm2 y 0->x=y)->
    NZ bs pcs ls r2 (j+1) up3 fm2 (out.set j<|fK fm2 ((r2 (dW pcs.length h):Nat):Int) 0):=λup3 fm2 g1 g2 g3 g4 g5=>by
   refine⟨g1,by rw[iC];exact I.len,λi l hi hil hn=>?_,λi l h' hi hil hs=>?_,g4,g5⟩
   ·by_cases e:i=j
    ·subst e;rw[hx]at hil;injection hil with hil;subst hil;rw[hh]at hn;cases hn
    ·rw[List.getElem?_set_ne<|Ne.symm e];exact I.no i l (by omega) hil hn
   ·by_cases e:i=j
    ·subst e;rw[hx]at hil;injection hil with hil;subst hil;rw[hh]at hs;injection hs with hs;subst hs
     exact⟨g3,by grind⟩
    ·obtain⟨q1,q2⟩:=I.yes i l h' (by omega) hil hs;rw[List.getElem?_set_ne<|Ne.symm e,q2,(g2 _ q1).2];exact⟨(g2 _ q1).1,rfl⟩
  cases hm:lZ fm ((r2 (dW pcs.length h):Nat):Int)with
  |true=>
   rw[ln,aR];obtain⟨up3,t3,t4⟩:=sE (N:=N) t2 c2 (by omega);refine IT (x:=(up2,fm)) rfl<|IT t3<|T6 h3<|OF ?_
   dsimp only;rw[cO];exact fin up3 fm t4 (λx hx=>⟨hx,rfl⟩) hm (λx hx=>by obtain⟨v,q1,q2⟩:=I.low x hx;exact⟨v,q1,by omega⟩) I.inj
  |false=>
   rw[kh,aO];obtain⟨up3,t3,t4⟩:=sE (N:=N) t2 c2 (by omega);obtain⟨up4,t5,t6⟩:=sE (N:=N) t4 c2 (by omega);refine IT (x:=(up3,rJ fm ((r2 (dW pcs.length h):Nat):Int) ((j:Nat):Int))) (by rw[t3,aB])<|IT t5<|T6 h3<|OF ?_
   dsimp only;rw[cO];refine fin up4 _ t6 (λx hx=>?_) (by rw[oR];simp) (λx hx=>?_)<|λx y hx hy e=>?_
   ·have hne:x≠((r2 (dW pcs.length h):Nat):Int):=λe=>by rw[e,hm]at hx;cases hx
    rw[oR,lG,aI hne,hx];exact⟨by simp,rfl⟩
   ·rw[lG]
    by_cases e:x=((r2 (dW pcs.length h):Nat):Int)
    ·rw[aG e];exact⟨j,rfl,by omega⟩
    ·rw[aI e];rw[oR,cD e,Bool.false_or]at hx;obtain⟨v,q1,q2⟩:=I.low x hx;exact⟨v,q1,by omega⟩
   ·rw[lG,lG]at e;rw[oR]at hx hy
    by_cases ex:x=((r2 (dW pcs.length h):Nat):Int)
    ·by_cases ey:y=((r2 (dW pcs.length h):Nat):Int)
     ·rw[ex,ey]
     ·rw[aG ex,aI ey]at e;rw[cD ey,Bool.false_or]at hy;obtain⟨v,q1,q2⟩:=I.low y hy;omega
    ·rw[cD ex,Bool.false_or]at hx
     by_cases ey:y=((r2 (dW pcs.length h):Nat):Int)
     ·rw[aI ex,aG ey]at e;obtain⟨v,q1,q2⟩:=I.low x hx;omega
     ·rw[aI ex,aI ey]at e;rw[cD ey,Bool.false_or]at hy;exact I.inj x y hx hy e
theorem N0(b:jh a ke cX r gs ofP ofB jD ji){x y:dE}{h h':eC}(hx:qw a.aM (bM 0 cX) x=some h)(hy:qw a.aM (bM 0 cX) y=some h'):(uy a.aM (bM 0 cX) r x=uy a.aM (bM 0 cX) r y)↔r (dW (bM 0 cX).length h)=r (dW (bM 0 cX).length h'):=by
 have gp:∀{z:dE}{h:eC},qw a.aM (bM 0 cX) z=some h->(live a.aM (bM 0 cX).length ((bM 0 cX).length+a.aM.length) r<|bP ((bM 0 cX).length+a.aM.length) r)[gi a.aM (bM 0 cX).length ((bM 0 cX).length+a.aM.length) r<|r<|dW (bM 0 cX).length h]? =some (r<|dW (bM 0 cX).length h):=by
  intro z h hz;obtain⟨k,e,g1,g2⟩:=(B6 hz).num;have hle:=b.yp.conn.le;have hrr:=b.yp.conn.rr;have hd:∀i,i<(bM 0 cX).length+a.aM.length->r i∈bP ((bM 0 cX).length+a.aM.length) r:=λi hi=>lj.2 ⟨lk.2 (by grind),by grind⟩;unfold dW
  cases hB:h.bU with
  |true=>
   grind [cO,FK,Iv]
  |false=>
   have k1:=g2 hB;rw[aI lK,e,cO]
   grind [FK,Iu]
 unfold uy
 grind
theorem GW(b:jh a ke cX r gs ofP ofB jD ji)(h1:gG N a=some (some (a.aK,a.cU,a.aM,a.bV,ke,bM 0 cX,cT a.aM<|bM 0 cX,gs,ofP,ofB,jD,ji),0)){p q:fz}{i k:Nat}{x y:dE}(ep:KC a p=((i:Nat):Int))(hx:a.bV[i]? =some x)(eq:KC a q=((k:Nat):Int))(hy:a.bV[k]? =some y)(hN:4398046511104<=N):
  kA N a [] p q=some ((uy a.aM (bM 0 cX) r x).isSome&&decide (uy a.aM (bM 0 cX) r x=uy a.aM (bM 0 cX) r y),0):=by
 have hf:=b.xG.2;have hbl:=b.xD.gb.len;have hlf:=b.zq.xG;obtain⟨r2,c,up,fm,c1,c2,c3⟩:=JR (N:=N) (r:=r) (jD:=jD) (ji:=ji) (bs:=a.aM) (pcs:=bM 0 cX) (ls:=a.bV) (by omega) (by omega) (by omega) (by omega) b.yp.jD b.yp.ji hN;have hil:=(bQ.1 hx).1;have hkl:=(bQ.1 hy).1;unfold kA;rw[h1,aB,FU b.zq p hN,FU b.zq q hN];simp only[G7,bne_self_eq_false,aR,aB];have hz:∀(p0:List (List aH))(p1:List aH)(p2:List bU)(p3:List dE)(p4:List (List aA))(p5:List aD)(p6:List (List Int))(p7:List bW)(p8 p9 p10:List Int)(p11:List eC),oI N p0 p1 p2 p3 p4 p5 p6 p7 p8 p9 p10 p11 []=some 0:=λ_ _ _ _ _ _ _ _ _ _ _ _=>rfl;rw[hz,aB,bne_self_eq_false,aR,ep,eq,cD (show ¬((i:Nat):Int)<0 by omega),cD (show ¬((k:Nat):Int)<0 by omega),Bool.or_false,aR,c1,aB]
 cases hhx:qw a.aM (bM 0 cX) x with
 |none=>
  have e1:uy a.aM (bM 0 cX) r x=none:=by grind [uy]
  rw[cG<|c3.no i x hil hx hhx,aB,e1];rfl
 |some h=>
  obtain⟨q1,q2⟩:=c3.yes i x h hil hx hhx;obtain⟨v,v1,_⟩:=c3.low _ q1;have e1:(uy a.aM (bM 0 cX) r x).isSome=true:=by grind [uy]
  rw[cG q2,aB,v1,bY (show((v:Nat):Int)>=0 by omega),aO,aB,e1,Bool.true_and]
  cases hhy:qw a.aM (bM 0 cX) y with
  |none=>
   have e2:uy a.aM (bM 0 cX) r y=none:=by grind [uy]
   rw[cG<|c3.no k y hkl hy hhy,aB,aB,cD (λe=>by grind),show(((v:Nat):Int)== -1)=false from by rfl]
  |some h'=>
   obtain⟨s1,s2⟩:=c3.yes k y h' hkl hy hhy;obtain⟨w,w1,_⟩:=c3.low _ s1;rw[cG s2,aB,w1,aB];have t1:=(GV (N:=N) hhx (by omega)).2;have t2:=(GV (N:=N) hhy (by omega)).2;have key:(((v:Nat):Int)=((w:Nat):Int))↔uy a.aM (bM 0 cX) r x=uy a.aM (bM 0 cX) r y:=by
    rw[N0 b hhx hhy,CT.uniq b.yp.conn c2 t1 t2];constructor
    ·intro e;have:=c3.inj _ _ q1 s1 (by omega);omega
    grind
   grind
end
def Ab:jO:=⟨[[⟨0,0,1,1⟩]],[],[],[⟨⟨[97]⟩,⟨[49]⟩,0,⟨0,0⟩⟩]⟩
def PN:fz:=⟨⟨[97]⟩,⟨[49]⟩⟩
def xm:aA:=⟨0,1,[0,1]⟩
theorem N1:tZ [⟨0,0,1,1⟩] [xm]where
 can:=⟨λb hb=>by
  grind [cK,xm,decide,j5],List.pairwise_singleton _ _⟩
 cover:=λx y=>by
  show qU (if(0:Int)<=y/\y<1 then [0,1]else []) x=((decide ((0:Int)<=x)&&decide (x<1))&&(decide ((0:Int)<=y)&&decide (y<1))||false)
  by_cases h:(0:Int)<=y/\y<1
  ·rw[aG h,bY h.1,bY h.2];unfold qU;rw[pD,pD,Gv]
   by_cases h0:(0:Int)<=x
   ·by_cases h1:(1:Int)<=x
    ·rw[aG h0,aG h1,cD (show ¬x<1 by omega)];simp
    ·rw[aG h0,aI h1,bY h0,bY (show x<1 by omega)];rfl
   ·rw[aI h0,aI (show ¬(1:Int)<=x by omega),cD h0];rfl
  ·rw[aI h];have:(decide ((0:Int)<=y)&&decide (y<1))=false:=by
    rw[Bool.eq_false_iff];intro h';rw[cQ,cY,cY]at h';exact h h'
   rw[this,Bool.and_false];rfl
 lim:=λb hb=>by
  have e:b=cK xm:=by simpa using hb
  subst e;exact⟨by decide,by decide,by decide⟩
theorem Ts:tZ [] []:=⟨fM.nil,λ_ _=>rfl,λb hb=>by cases hb⟩
theorem Tt:jW [⟨0,0,1,1⟩]=0:=r9.2 ⟨by decide,λk a b h1 h2=>(by grind),⟨_,N1,rfl⟩⟩
theorem Tu:jW []=0:=r9.2 ⟨by decide,λk a b h1 h2=>(by simp at h2),⟨_,Ts,rfl⟩⟩
theorem PO:vY Ab:=⟨by decide,by decide,by decide,by decide,by decide,by
 intro x hx
 grind [Ab,decide]⟩
theorem PQ:kG Ab=0:=by
 have e1:Ab.aK.findSome? yo=none:=by
  show [[(⟨0,0,1,1⟩:aH)]].findSome? yo=none;simp[yo,Tt]
 have e2:jC Ab=0:=by decide
 have e3:mY Ab=0:=by
  rfl
 grind [sO,Ab,kG,decide,Lp,jW,GL,Tu]
theorem RY{ke:List (List aA)}{cX:List (List<|List aA)}(D:ym Ab.aK Ab.aM Ab.aK.length ke cX):ke= [[xm]]/\cX= [[[xm]]]:=by
 obtain⟨s,rfl⟩:=List.length_eq_one_iff.1 D.len;obtain⟨ps,rfl⟩:=List.length_eq_one_iff.1 D.B4;have hd:=D.dr 0 [⟨0,0,1,1⟩] s (by decide) rfl rfl;have hs:s= [xm]:=Io hd.can N1.can λx y=>by
  rw[hd.cover,N1.cover];show(_&& !uH [] x y)=_;simp[uH]
 subst hs;obtain⟨u,hu⟩:=D.pt 0 [xm] ps (by decide) rfl rfl;have u0:u 0=0:=Nat.le_zero.1<|hu.join.le 0 (by decide)
 have hh:bP (aV [xm]).length u= [0]:=by
  show(List.range 1).filter (λk=>decide<|u k=k)= [0]
  grind
 obtain⟨p,rfl⟩:=List.length_eq_one_iff.1 (show ps.length=1 by rw[hu.len,hh];rfl);have hp:=hu.each 0 0 p (by rw[hh];rfl) rfl;have hc:ot (aV [xm]) (aV [xm]).length u 0= [⟨0,0,1,1⟩]:=by
  show((List.range 1).filter<|λi=>decide<|u i=0).filterMap (λi=>(aV [xm])[i]?)=_;simp[List.range_succ,u0];rfl
 rw[hc]at hp;exact⟨rfl,by rw[hp.unique N1]⟩
section
variable {N:Nat}
theorem N2(hN:4398046511104<=N):kb N=some true:=by
 have key:kA N Ab [] PN PN=some (true,0):=by
  obtain⟨x,hx,hI⟩:=B8 (N:=N) PO hN
  rcases hI with⟨he,_⟩|⟨_,hg,hcl,ke,cX,D,⟨hf,_⟩|⟨hf,r,gs,ofP,ofB,jD,ji,hC,rfl⟩⟩
  ·grind [PQ]
  ·obtain⟨rfl,rfl⟩:=RY D;exact absurd ⟨by decide,by decide⟩ hf
  ·have b:jh Ab ke cX r gs ofP ofB jD ji:=⟨hg,hcl,D,hf,hC⟩;have e:KC Ab PN=((0:Nat):Int):=by
    rfl
   have hl:Ab.bV[0]? =some ⟨⟨[97]⟩,⟨[49]⟩,0,⟨0,0⟩⟩:=rfl;rw[GW b hx e hl e hl hN];obtain⟨rfl,rfl⟩:=RY D;have hh:qw Ab.aM (bM 0 [[[xm]]]) ⟨⟨[97]⟩,⟨[49]⟩,0,⟨0,0⟩⟩=some ⟨false,0⟩:=by decide
   grind [uy]
 unfold kb;have e:kA N (⟨([([(⟨0,0,1,1⟩:aH)]:List aH)]:List (List aH)),([]:List aH),([]:List bU),([(⟨⟨[97]⟩,⟨[49]⟩,0,⟨0,0⟩⟩:dE)]:List dE)⟩:jO) ([]:List bN) (⟨⟨[97]⟩,⟨[49]⟩⟩:fz) (⟨⟨[97]⟩,⟨[49]⟩⟩:fz)=some (true,0):=key
 grind
end
def lX(n:Nat)(fl:List bN)(v:Nat):Prop:=∃x∈fl,x.Open=true/\dW n x.eC=v
structure PR (bs:List bU) (n m:Nat) (fl:List bN):Prop where
 op:∀x∈fl,x.Open=true->D8 bs n m x.eC
 br:∀x∈fl,x.Open=false->∃i k:Nat,x.A=((i:Nat):Int)/\x.B=((k:Nat):Int)/\i<k/\k<n
def Ha(n:Nat)(tch:List (List Int))(fl:List bN)(i j:Nat):Prop:=Lk n tch i j\/∃x∈fl,x.Open=false/\x.A=((i:Nat):Int)/\x.B=((j:Nat):Int)
def N3(n:Nat)(tch:List (List Int))(fl:List bN)(i j:Nat):Prop:=Ha n tch fl i j/\¬lX n fl i/\¬lX n fl j
structure zx (t:Nat) (L:Nat->Nat->Prop) (r:Nat->Nat):Prop where
 le:∀i,i<t->r i<=i
 rr:∀i,i<t->r (r i)=r i
 co:∀i j,L i j->r i=r j
 fi:∀S:Nat->Prop,(∀i j,L i j->(S i↔S j))->∀i j,i<t->j<t->r i=r j->S i->S j
theorem zx.uniq{t:Nat}{L:Nat->Nat->Prop}{r1 r2:Nat->Nat}(h1:zx t L r1)(h2:zx t L r2){i j:Nat}(hi:i<t)(hj:j<t):r1 i=r1 j↔r2 i=r2 j:=by
 have key:∀{r1 r2:Nat->Nat},zx t L r1->zx t L r2->r1 i=r1 j->r2 i=r2 j:=λ{r1 r2}h1 h2 e=>
  (h1.fi (λx=>r2 i=r2 x) (λa b hab=>by rw[h2.co a b hab]) i j hi hj e) rfl
 grind
noncomputable def lh(bs:List bU)(pcs:List aD)(fl:List bN)(l:dE):Option Nat:=(qw bs pcs l).bind λh=>if lX pcs.length fl (dW pcs.length h)then none else some (dW pcs.length h)
section
variable {N:Nat}{r:Nat->Nat}{jD:List Int}{ji:List eC}
theorem PT{bs:List bU}{n m:Nat}{h:eC}(hh:D8 bs n m h)(hn:n+m<=1000000000):ja N h ((n:Nat):Int)=some ((dW n h:Nat):Int)/\dW n h<n+m:=by
 obtain⟨k,e,h1,h2⟩:=hh.num
 grind [ja,dW,cO,wrap_add]
def Ng(t:Nat)(L:Nat->Nat->Prop)(op:Nat->Prop)(done:Nat->Nat->Prop)(u:List Int):Prop:=
 ∃r E,UF t u r/\nv r E/\xC t r E/\(∀p∈E,L p.1 p.2/\¬op p.1/\¬op p.2)/\∀i j,done i j->¬op i->¬op j->(i,j)∈E
theorem Ng.mono{t:Nat}{L:Nat->Nat->Prop}{op:Nat->Prop}{d d':Nat->Nat->Prop}{u:List Int}(h:Ng t L op d u)(hd:∀i j,d' i j->d i j):Ng t L op d' u:=by
 obtain⟨r,E,h1,h2,h3,h4,h5⟩:=h;exact⟨r,E,h1,h2,h3,h4,λi j hij=>h5 i j<|hd i j hij⟩
theorem MT{t:Nat}{L:Nat->Nat->Prop}{op:Nat->Prop}{done:Nat->Nat->Prop}{u:List Int}{om:List (Int×Bool)}(hom:∀v:Nat,fK om ((v:Nat):Int) false=true↔op v)(hI:Ng t L op done u){i k:Nat}(hi:i<t)(hk:k<t)(ht:t<N)(hL:L i k):
  Ok (jR N ((i:Nat):Int) ((k:Nat):Int) om u) (Ng t L op<|λa b=>done a b\/(a=i/\b=k)):=by
 obtain⟨r,E,h1,h2,h3,h4,h5⟩:=hI
 have skip:op i\/op k->Ng t L op (λa b=>done a b\/(a=i/\b=k)) u:=λho=>⟨r,E,h1,h2,h3,h4,λa b hab ha hb=>by
  grind⟩
 unfold jR
 by_cases ho:op i
 ·grind [IT,OF]
 ·have e1:fK om ((i:Nat):Int) false=false:=by grind
  by_cases hp:op k
  ·grind [IT,OF]
  ·have e2:fK om ((k:Nat):Int) false=false:=by grind
   refine IT (x:=true) (by grind) ?_;obtain⟨u2,a1,a2⟩:=Kr (N:=N) h1 hi hk ht;rw[aO,a1];refine OF ⟨_,_,a2,h2.join i k<|h1.rr i hi,h3.join hi hk,λp hp'=>?_,λa b hab ha hb=>?_⟩
   ·grind
   grind
structure E3 (bs:List bU) (pcs:List aD) (fl:List bN) (ls:List dE) (r2:Nat->Nat) (j:Nat) (up:List Int) (fm:List (Int×Int)) (out:List Int):Prop where
 uf:UF (pcs.length+bs.length) up r2
 len:out.length=ls.length
 no:∀i l,i<j->ls[i]? =some l->lh bs pcs fl l=none->out[i]? =some (-1)
 yes:∀i l v,i<j->ls[i]? =some l->lh bs pcs fl l=some v->lZ fm ((r2 v:Nat):Int)=true/\out[i]? =some (fK fm ((r2 v:Nat):Int) 0)
 low:∀x,lZ fm x=true->∃(v:Nat)(l:dE)(u:Nat),fK fm x 0=((v:Nat):Int)/\v<j/\ls[v]? =some l/\lh bs pcs fl l=some u/\((r2 u:Nat):Int)=x
 inj:∀x y,lZ fm x=true->lZ fm y=true->fK fm x 0=fK fm y 0->x=y
 le:∀(i v:Nat),out[i]? =some ((v:Nat):Int)->v<=i
theorem IX{bs:List bU}{pcs:List aD}{ls:List dE}{fl:List bN}(hfl:PR bs pcs.length bs.length fl)(hfn:fl.length<=1073741824)(hn:pcs.length+bs.length<=1000000000)(hp:pcs.length<=1073741824)(hbl:bs.length<=1073741824)(hl:ls.length<=1073741824)(hof:jD=ls.map (E2 bs pcs r))(hat:ji=ls.map (λl=>(qw bs pcs l).getD ⟨false,0⟩))(hN:4398046511104<=N):
  ∃r2 c up fm,f9 N bs ls pcs (cT bs pcs) jD ji fl=some c/\zx (pcs.length+bs.length) (N3 pcs.length (cT bs pcs) fl) r2/\E3 bs pcs fl ls r2 ls.length up fm c:=by
 suffices h:Ok (f9 N bs ls pcs (cT bs pcs) jD ji fl) (λc=>∃r2 up fm,zx (pcs.length+bs.length) (N3 pcs.length (cT bs pcs) fl) r2/\E3 bs pcs fl ls r2 ls.length up fm c)by
  obtain⟨c,h1,r2,up,fm,h2,h3⟩:=h
  grind
 unfold f9;refine TZ (UX (λq om=>∀v:Nat,fK om ((v:Nat):Int) false=true↔lX pcs.length (fl.take q) v) (by omega) (λv=>⟨λh=>(by cases h),λ⟨x,hx,_⟩=>(by simp at hx)⟩)<|λq om hq hI=>?_) ?_
 ·have hx:fl[q]? =some fl[q]:=aN hq;have hts:=dQ hq;refine T6 hx ?_
  cases ho:fl[q].Open with
  |true=>
   obtain⟨c1,_⟩:=PT (N:=N) (hfl.op _ (cH hq) ho) hn;refine IT (x:=rJ om ((dW pcs.length fl[q].eC:Nat):Int) true) (by grind)<|OF λv=>?_
   rw[lG,hts]
   by_cases e:((v:Nat):Int)=((dW pcs.length fl[q].eC:Nat):Int)
   ·rw[aG e];exact⟨λ_=>⟨fl[q],List.mem_append_right _<|lJ.2 rfl,ho,by omega⟩,λ_=>rfl⟩
   ·rw[aI e,hI v];constructor
    ·rintro⟨x,hx,h1,h2⟩;exact⟨x,List.mem_append_left _ hx,h1,h2⟩
    ·rintro⟨x,hx,h1,h2⟩
     rcases dH.1 hx with hx|hx
     ·exact⟨x,hx,h1,h2⟩
     ·simp at hx;subst hx;exact absurd (by rw[h2]) e
  |false=>
   refine IT (x:=om) rfl<|OF λv=>?_
   rw[hI v,hts];constructor
   ·rintro⟨x,hx,h1,h2⟩;exact⟨x,List.mem_append_left _ hx,h1,h2⟩
   ·rintro⟨x,hx,h1,h2⟩
    rcases dH.1 hx with hx|hx
    ·exact⟨x,hx,h1,h2⟩
    ·simp at hx;subst hx;rw[ho]at h1;cases h1
 intro om hom;rw[eM]at hom;rw[wrap_add (by omega)];obtain⟨up0,u1,u2⟩:=yg (N:=N) (n:=pcs.length+bs.length) (by omega);refine IT u1 ?_;have htl:(cT bs pcs).length=bs.length:=by unfold cT;simp
 have hto:=yn (bs:=bs) (pcs:=pcs) (by omega)
 refine TZ (UX (λq u=>Ng (pcs.length+bs.length) (Ha pcs.length (cT bs pcs) fl) (lX pcs.length fl) (λa b=>∃k l,k<q/\(cT bs pcs)[k]? =some l/\((a:Nat):Int)∈l/\b=pcs.length+k) u) (by omega)
  ⟨_,_,u2,nv.id,xC.id _,λp hp=>(by cases hp),λi j⟨k,l,hk,_⟩=>by omega⟩ (λq u hq hI=>?_)) ?_
 ·have hqx:(cT bs pcs)[q]? =some (cT bs pcs)[q]:=aN hq;obtain⟨hl1,hl2⟩:=hto _<|cH hq
  refine T6 hqx ?_;rw[wrap_add (by omega)]
  refine TZ (UX (λt u=>Ng (pcs.length+bs.length) (Ha pcs.length (cT bs pcs) fl) (lX pcs.length fl) (λa b=>(∃k l,k<q/\(cT bs pcs)[k]? =some l/\((a:Nat):Int)∈l/\b=pcs.length+k)\/(((a:Nat):Int)∈(cT bs pcs)[q].take t/\b=pcs.length+q)) u) (by omega)
   (hI.mono λi j h=>by rcases h with h|⟨h,_⟩;exact h;simp at h) (λt u ht hJ=>?_)) (λu hJ=>OF (hJ.mono λi j⟨k,l,hk,h1,h2,h3⟩=>?_))
  ·have htx:(cT bs pcs)[q][t]? =some (cT bs pcs)[q][t]:=aN ht;obtain⟨i,hi,e⟩:=hl2 _<|cH ht
   refine T6 htx ?_;rw[e];refine TZ (MT hom hJ (i:=i) (k:=pcs.length+q) (by omega) (by omega) (by omega)<|.inl ⟨q,_,hqx,by rw[<-e];exact cH ht,rfl⟩)<|λu2 hu2=>OF<|hu2.mono λa b h=>?_
   rw[dQ ht]at h
   rcases h with h|⟨h,hb⟩
   ·exact .inl<|.inl h
   ·rcases dH.1 h with h|h
    ·exact .inl<|.inr ⟨h,hb⟩
    ·rw[lJ,e]at h;exact .inr ⟨by omega,hb⟩
  ·by_cases hkq:k<q
   ·exact .inl ⟨k,l,hkq,h1,h2,h3⟩
   ·have:k=q:=by omega
    subst this;rw[hqx]at h1;injection h1 with h1;subst h1
    exact .inr ⟨by rw[eM];exact h2,h3⟩
 intro u3 h3
 refine TZ (UX (λq u=>Ng (pcs.length+bs.length) (Ha pcs.length (cT bs pcs) fl) (lX pcs.length fl) (λa b=>Lk pcs.length (cT bs pcs) a b\/∃x∈fl.take q,x.Open=false/\x.A=((a:Nat):Int)/\x.B=((b:Nat):Int)) u) (by omega)
  (h3.mono λi j h=>by
   rcases h with⟨k,l,h1,h2,h3⟩|⟨x,hx,_⟩
   ·exact⟨k,l,(bQ.1 h1).1,h1,h2,h3⟩
   ·simp at hx) (λq u hq hI=>?_)) ?_
 ·have hx:fl[q]? =some fl[q]:=aN hq;have hts:=dQ hq;refine T6 hx ?_
  cases ho:fl[q].Open with
  |true=>
   refine IT (x:=u) rfl<|OF<|hI.mono λa b h=>?_
   rw[hts]at h
   rcases h with h|⟨x,hx,h1,h2⟩
   ·exact .inl h
   ·rcases dH.1 hx with hx|hx
    ·exact .inr ⟨x,hx,h1,h2⟩
    ·simp at hx;subst hx;rw[ho]at h1;cases h1
  |false=>
   obtain⟨i,k,e1,e2,e3,e4⟩:=hfl.br _ (cH hq) ho;rw[kh,aO,e1,e2];refine TZ (P:=Ng (pcs.length+bs.length) (Ha pcs.length (cT bs pcs) fl) (lX pcs.length fl)<|λa b=>(Lk pcs.length (cT bs pcs) a b\/∃x∈fl.take q,x.Open=false/\x.A=((a:Nat):Int)/\x.B=((b:Nat):Int))\/(a=i/\b=k)) (TZ (MT hom hI (i:=i) (k:=k) (by omega) (by omega) (by omega)<|.inr ⟨fl[q],cH hq,ho,e1,e2⟩)<|λu2 hu2=>OF hu2)<|λu2 hu2=>OF<|hu2.mono λa b h=>?_
   rw[hts]at h
   rcases h with h|⟨x,hx,h1,h2,h3⟩
   ·exact .inl<|.inl h
   ·rcases dH.1 hx with hx|hx
    ·exact .inl<|.inr ⟨x,hx,h1,h2,h3⟩
    ·simp at hx;subst hx;rw[e1]at h2;rw[e2]at h3;exact .inr ⟨by omega,by omega⟩
 rintro up1⟨r2,E,v1,v2,v3,v4,v5⟩;rw[eM]at v5;have hC:zx (pcs.length+bs.length) (N3 pcs.length (cT bs pcs) fl) r2:=
  ⟨v1.le,v1.rr,λi j h=>v2 (i,j)<|v5 i j h.1 h.2.1 h.2.2,λS hS i j hi hj=>v3 S (λp hp=>hS p.1 p.2<|v4 p hp) i j hi hj⟩
 refine IT (oO 0 (by omega)) ?_;have ri:ji.length=ls.length:=by rw[hat,eB]
 refine TZ (UX (λj(st:List Int×List (Int×Int)×List Int)=>E3 bs pcs fl ls r2 j st.1 st.2.1 st.2.2) (by omega) ⟨v1,by simp,λi l h=>by omega,λi l h h1=>by omega,λx hx=>(by cases hx),λx y hx=>(by cases hx),λi v hv=>by rw[List.getElem?_replicate]at hv;split at hv;injection hv with hv;omega;cases hv⟩ ?_)<|λst I=>OF ⟨r2,st.1,st.2.1,hC,by rw[<-ri];exact I⟩
 rintro j⟨up,fm,out⟩hj I;rw[ri]at hj;dsimp only at I ⊢;have hx:ls[j]? =some ls[j]:=aN hj;have h1:ji[j]? =some ((qw bs pcs ls[j]).getD ⟨false,0⟩):=by rw[hat,il,hx];rfl
 have h2:jD[j]? =some (E2 bs pcs r ls[j]):=by rw[hof,il,hx];rfl
 have h3:out[j]? =some (out[j]'(by rw[I.len];exact hj)):=aN _;have hjo:j<out.length:=by rw[I.len];exact hj
 have hx0:=hx;have dead:lh bs pcs fl ls[j]=none->E3 bs pcs fl ls r2 (j+1) up fm (out.set j<|-1):=λhnd=>by
  refine⟨I.uf,by rw[iC];exact I.len,λi l hi hil hn=>?_,λi l v hi hil hs=>?_,λx hx=>?_,I.inj,λi v hv=>?_⟩
  ·by_cases e:i=j
   ·subst e;rw[List.getElem?_set_self hjo]
   ·rw[List.getElem?_set_ne<|Ne.symm e];exact I.no i l (by omega) hil hn
  ·by_cases e:i=j
   ·subst e;rw[hx]at hil;injection hil with hil;subst hil;rw[hnd]at hs;cases hs
   ·rw[List.getElem?_set_ne<|Ne.symm e];exact I.yes i l v (by omega) hil hs
  ·obtain⟨v,l,u,q1,q2,q3⟩:=I.low x hx;exact⟨v,l,u,q1,by omega,q3⟩
  ·by_cases e:i=j
   ·subst e;rw[List.getElem?_set_self hjo]at hv;injection hv with hv;omega
   ·rw[List.getElem?_set_ne<|Ne.symm e]at hv;exact I.le i v hv
 refine T6 h1 ?_
 cases hh:qw bs pcs ls[j]with
 |none=>
  have e1:E2 bs pcs r ls[j] = -1:=by unfold E2 uy;rw[hh];rfl
  refine IT (x:=0) rfl<|IT (x:=true) (by rw[cG h2,aB,e1];rfl) ?_
  refine T6 h3<|OF ?_
  dsimp only;rw[cO];exact dead (by unfold lh;rw[hh];rfl)
 |some h=>
  obtain⟨c1,c2⟩:=GV (N:=N) hh hn;have e1:∃g:Nat,E2 bs pcs r ls[j]=((g:Nat):Int):=by unfold E2 uy;rw[hh];exact⟨_,rfl⟩
  obtain⟨g,e1⟩:=e1;refine IT c1 ?_
  by_cases hop:lX pcs.length fl (dW pcs.length h)
  ·refine IT (x:=true) (by rw[cG h2,aB,e1,cD (show ¬((g:Nat):Int)<0 by omega),aR,(hom _).2 hop]) ?_;refine T6 h3<|OF ?_
   dsimp only;rw[cO];exact dead (by unfold lh;rw[hh,Option.bind_some,aG hop])
  have hnd:lh bs pcs fl ls[j]=some (dW pcs.length h):=by unfold lh;rw[hh,Option.bind_some,aI hop]
  refine IT (x:=false) (by rw[cG h2,aB,e1,cD (show ¬((g:Nat):Int)<0 by omega),aR];rw[Bool.eq_false_iff.2 λh=>hop<|(hom _).1 h]) ?_;rw[aR];obtain⟨up2,t1,t2⟩:=sE (N:=N) I.uf c2 (by omega);refine IT t1 ?_;dsimp only;have fin:∀(up3:List Int)(fm2:List (Int×Int)),UF (pcs.length+bs.length) up3 r2->(∀x,lZ fm x=true->lZ fm2 x=true/\fK fm2 x 0=fK fm x 0)->lZ fm2 ((r2 (dW pcs.length h):Nat):Int)=true->(∀x,lZ fm2 x=true->∃(v:Nat)(l:dE)(u:Nat),fK fm2 x 0=((v:Nat):Int)/\v<j+1/\ls[v]? =some l/\lh bs pcs fl l=some u/\((r2 u:Nat):Int)=x)->(∀x y,lZ fm2 x=true->lZ fm2 y=true->fK fm2 x 0=fK fm2 y 0->x=y)->
    E3 bs pcs fl ls r2 (j+1) up3 fm2 (out.set j<|fK fm2 ((r2 (dW pcs.length h):Nat):Int) 0):=λup3 fm2 g1 g2 g3 g4 g5=>by
   refine⟨g1,by rw[iC];exact I.len,λi l hi hil hn=>?_,λi l h' hi hil hs=>?_,g4,g5,λi v hv=>?_⟩
   ·by_cases e:i=j
    ·subst e;rw[hx]at hil;injection hil with hil;subst hil;rw[hnd]at hn;cases hn
    ·rw[List.getElem?_set_ne<|Ne.symm e];exact I.no i l (by omega) hil hn
   ·by_cases e:i=j
    ·subst e;rw[hx]at hil;injection hil with hil;subst hil;rw[hnd]at hs;injection hs with hs;subst hs
     exact⟨g3,by rw[List.getElem?_set_self hjo]⟩
    ·obtain⟨q1,q2⟩:=I.yes i l h' (by omega) hil hs;rw[List.getElem?_set_ne<|Ne.symm e,q2,(g2 _ q1).2];exact⟨(g2 _ q1).1,rfl⟩
   ·by_cases e:i=j
    ·subst e;rw[List.getElem?_set_self hjo]at hv;injection hv with hv
     obtain⟨v',_,_,q1,q2,_⟩:=g4 _ g3;rw[q1]at hv;omega
    ·rw[List.getElem?_set_ne<|Ne.symm e]at hv;exact I.le i v hv
  cases hm:lZ fm ((r2 (dW pcs.length h):Nat):Int)with
  |true=>
   rw[ln,aR];obtain⟨up3,t3,t4⟩:=sE (N:=N) t2 c2 (by omega);refine IT (x:=(up2,fm)) rfl<|IT t3<|T6 h3<|OF ?_
   dsimp only;rw[cO];exact fin up3 fm t4 (λx hx=>⟨hx,rfl⟩) hm (λx hx=>by obtain⟨v,l,u,q1,q2,q3⟩:=I.low x hx;exact⟨v,l,u,q1,by omega,q3⟩) I.inj
  |false=>
   rw[kh,aO];obtain⟨up3,t3,t4⟩:=sE (N:=N) t2 c2 (by omega);obtain⟨up4,t5,t6⟩:=sE (N:=N) t4 c2 (by omega);refine IT (x:=(up3,rJ fm ((r2 (dW pcs.length h):Nat):Int) ((j:Nat):Int))) (by rw[t3,aB])<|IT t5<|T6 h3<|OF ?_
   dsimp only;rw[cO];refine fin up4 _ t6 (λx hx=>?_) (by rw[oR];simp) (λx hx=>?_)<|λx y hx hy e=>?_
   ·have hne:x≠((r2 (dW pcs.length h):Nat):Int):=λe=>by rw[e,hm]at hx;cases hx
    rw[oR,lG,aI hne,hx];exact⟨by simp,rfl⟩
   ·rw[lG]
    by_cases e:x=((r2 (dW pcs.length h):Nat):Int)
    ·rw[aG e];exact⟨j,ls[j],_,rfl,by omega,hx0,hnd,e.symm⟩
    ·rw[aI e];rw[oR,cD e,Bool.false_or]at hx;obtain⟨v,l,u,q1,q2,q3⟩:=I.low x hx;exact⟨v,l,u,q1,by omega,q3⟩
   ·rw[lG,lG]at e;rw[oR]at hx hy
    by_cases ex:x=((r2 (dW pcs.length h):Nat):Int)
    ·by_cases ey:y=((r2 (dW pcs.length h):Nat):Int)
     ·rw[ex,ey]
     ·rw[aG ex,aI ey]at e;rw[cD ey,Bool.false_or]at hy;obtain⟨v,_,_,q1,q2,_⟩:=I.low y hy;omega
    ·rw[cD ex,Bool.false_or]at hx
     by_cases ey:y=((r2 (dW pcs.length h):Nat):Int)
     ·rw[aI ex,aG ey]at e;obtain⟨v,_,_,q1,q2,_⟩:=I.low x hx;omega
     ·rw[aI ex,aI ey]at e;rw[cD ey,Bool.false_or]at hy;exact I.inj x y hx hy e
def OV(n:Nat)(k:Int):Bool:=decide (k>=0)&&decide (k<=((n:Nat):Int) - 1)
def Ac(bs:List bU)(n:Nat)(x:bN):Bool:=bif x.Open then(bif x.eC.bU then OV bs.length x.eC.Number&&ry bs x.eC.Number.toNat else OV n x.eC.Number)else OV n x.A&&OV n x.B
def OW(x:bN):Bool:=bif x.Open then x.A != 0||x.B != 0 else !decide (x.eC= ⟨false,0⟩)
def Es(bs:List bU)(n:Nat)(fl:List bN)(k:Nat):Option Int:=(fl[k]?).bind λx=>
 if OW x=true then some 3 else if Ac bs n x=false then some 9 else if(!x.Open&&decide (x.B<=x.A))=true then some 8 else if x∈fl.take k then some 7 else none
def sG(bs:List bU)(n:Nat)(fl:List bN):Int:=if 20<fl.length then 2 else(wD fl.length<|Es bs n fl).getD 0
theorem CI{bs:List bU}{n:Nat}{fl:List bN}(h:sG bs n fl=0):fl.length<=20/\PR bs n bs.length fl:=by
 unfold sG at h;split at h
 ·cases h
 rename_i h20;have hn:∀k,k<fl.length->Es bs n fl k=none:=by
  cases hf:wD fl.length (Es bs n fl)with
  |none=>grind [mw]
  |some e=>
   grind [oN,Es,aN]
 have hx:∀x∈fl,Ac bs n x=true/\(x.Open=false->x.A<x.B):=λx hx=>by
  grind [List.mem_iff_getElem,Es,aN,kh]
 have inp:∀{n:Nat}{k:Int},OV n k=true->∃j:Nat,k=((j:Nat):Int)/\j<n:=λ{n k}h=>by
  unfold OV at h;rw[cQ,cY,cY]at h;exact⟨k.toNat,by omega,by omega⟩
 refine⟨by omega,λx hm ho=>?_,λx hm ho=>?_⟩
 ·obtain⟨h1,_⟩:=hx x hm;unfold Ac at h1;rw[ho,aO]at h1
  cases hB:x.eC.bU with
  |true=>
   rw[hB,aO,cQ]at h1;obtain⟨j,e,hj⟩:=inp h1.1;refine⟨j,e,λ_=>⟨hj,?_⟩,λh=>(by grind)⟩
   grind
  |false=>
   rw[hB,aR]at h1;obtain⟨j,e,hj⟩:=inp h1;exact⟨j,e,λh=>(by grind),λ_=>hj⟩
 grind [Ac]
end
structure rz (c:List Int):Prop where
 neg:∀(i:Nat)(x:Int),c[i]? =some x->x<0->x = -1
 own:∀(i v:Nat),c[i]? =some ((v:Nat):Int)->c[v]? =some ((v:Nat):Int)
def kf(c:List Int)(i k:Nat):Bool:=decide (c.getD i (-1)>=0)&&c.getD i (-1)==c.getD k (-1)
def kH(c:List Int)(i:Nat):Int:=if c.getD i (-1)<0 then((i:Nat):Int)else c.getD i (-1)
theorem Et{c:List Int}(h:rz c){i k:Nat}(hi:i<c.length)(hk:k<c.length)(hne:i≠k):kf c i k=decide (kH c i=kH c k):=by
 have ei:c[i]? =some c[i]:=aN hi;have ek:c[k]? =some c[k]:=aN hk;unfold kf kH;rw[List.getD_eq_getElem?_getD,List.getD_eq_getElem?_getD,ei,ek,Option.getD_some,Option.getD_some];have own:∀{j:Nat}(hj:j<c.length),0<=c[j]->∃v:Nat,c[j]=((v:Nat):Int)/\c[v]? =some ((v:Nat):Int):=λ{j}hj h0=>by
  refine⟨c[j].toNat,by omega,h.own j _ ?_⟩;rw[aN hj];congr 1;omega
 rw[jq,cQ,cY,cY,beq_iff_eq];constructor
 ·rintro⟨h1,h2⟩;rw[aI (by omega),aI (by omega)];exact h2
 ·intro e
  by_cases h1:c[i]<0
  ·rw[aG h1]at e
   by_cases h2:c[k]<0
   ·rw[aG h2]at e;omega
   ·rw[aI h2]at e;obtain⟨v,q1,q2⟩:=own hk (by omega);have:v=i:=by omega
    subst this;rw[ei]at q2;injection q2 with q2;omega
  ·rw[aI h1]at e
   by_cases h2:c[k]<0
   ·rw[aG h2]at e;obtain⟨v,q1,q2⟩:=own hi (by omega);have:v=k:=by omega
    subst this;rw[ek]at q2;injection q2 with q2;omega
   ·rw[aI h2]at e;exact⟨by omega,e⟩
theorem IY{c d:List Int}(hc:rz c)(hd:rz d)(hl:c.length=d.length)(h:∀i,i<c.length->kH c i=kH d i){i k:Nat}(hi:i<c.length)(hk:k<c.length)(hne:i≠k):kf c i k=kf d i k:=by
 rw[Et hc hi hk hne,Et hd (by omega) (by omega) hne,h i hi,h k hk]
section
variable {r:Nat->Nat}
theorem E3.first{bs:List bU}{pcs:List aD}{fl:List bN}{ls:List dE}{r2:Nat->Nat}{up:List Int}{fm:List (Int×Int)}{c:List Int}(h:E3 bs pcs fl ls r2 ls.length up fm c):rz c where
 neg:=λi x hx h0=>by
  have hi:=(bQ.1 hx).1;rw[h.len]at hi;have hl:ls[i]? =some ls[i]:=aN hi
  cases hn:lh bs pcs fl ls[i]with
  |none=>have:=h.no i _ hi hl hn;rw[hx]at this;injection this
  |some u=>
   obtain⟨q1,q2⟩:=h.yes i _ u hi hl hn;obtain⟨v,_,_,q3,_⟩:=h.low _ q1;rw[hx,q3]at q2;injection q2 with q2;omega
 own:=λi v hx=>by
  have hi:=(bQ.1 hx).1;rw[h.len]at hi;have hl:ls[i]? =some ls[i]:=aN hi
  cases hn:lh bs pcs fl ls[i]with
  |none=>have:=h.no i _ hi hl hn;rw[hx]at this;injection this with this;omega
  |some u=>
   obtain⟨q1,q2⟩:=h.yes i _ u hi hl hn;obtain⟨v',l',u',q3,q4,q5,q6,q7⟩:=h.low _ q1;have e:v=v':=by rw[hx,q3]at q2;injection q2 with q2;omega
   subst e;obtain⟨s1,s2⟩:=h.yes v l' u' q4 q5 q6;rw[q7,q3]at s2;exact s2
theorem E3.conn{bs:List bU}{pcs:List aD}{fl:List bN}{ls:List dE}{r2:Nat->Nat}{up:List Int}{fm:List (Int×Int)}{c:List Int}(h:E3 bs pcs fl ls r2 ls.length up fm c){i k:Nat}{x y:dE}(hx:ls[i]? =some x)(hy:ls[k]? =some y):
  kf c i k=true↔∃u v,lh bs pcs fl x=some u/\lh bs pcs fl y=some v/\r2 u=r2 v:=by
 have hi:=(bQ.1 hx).1;have hk:=(bQ.1 hy).1;unfold kf;rw[cQ,cY,beq_iff_eq,List.getD_eq_getElem?_getD,List.getD_eq_getElem?_getD]
 cases hn:lh bs pcs fl x with
 |none=>
  rw[h.no i x hi hx hn,Option.getD_some];exact⟨λh=>absurd h.1 (by decide),λ⟨u,v,e,_⟩=>(by cases e)⟩
 |some u=>
  obtain⟨q1,q2⟩:=h.yes i x u hi hx hn;obtain⟨a,_,_,q3,_⟩:=h.low _ q1;rw[q2,Option.getD_some,q3]
  cases hm:lh bs pcs fl y with
  |none=>
   rw[h.no k y hk hy hm,Option.getD_some];exact⟨λh=>absurd h.2 (by omega),λ⟨u,v,_,e,_⟩=>(by cases e)⟩
  |some v=>
   obtain⟨s1,s2⟩:=h.yes k y v hk hy hm;obtain⟨b,_,_,s3,_⟩:=h.low _ s1;rw[s2,Option.getD_some,s3];constructor
   ·rintro⟨_,e⟩;have:=h.inj _ _ q1 s1 (by rw[q3,s3];exact e);exact⟨u,v,rfl,rfl,by omega⟩
   ·rintro⟨u',v',e1,e2,e3⟩;injection e1 with e1;injection e2 with e2
    subst e1;subst e2;rw[e3,s3]at q3;exact⟨by omega,q3.symm⟩
end
section
variable {N:Nat}{a:jO}{ke:List (List aA)}{cX:List (List (List aA))}{r:Nat->Nat}{gs:List bW}{ofP ofB jD:List Int}{ji:List eC}
theorem Eu(b:jh a ke cX r gs ofP ofB jD ji){fl:List bN}(h0:sG a.aM (bM 0 cX).length fl=0)(hN:4398046511104<=N):
  ∃r2 c up fm,f9 N a.aM a.bV (bM 0 cX) (cT a.aM<|bM 0 cX) jD ji fl=some c/\zx ((bM 0 cX).length+a.aM.length) (N3 (bM 0 cX).length (cT a.aM<|bM 0 cX) fl) r2/\E3 a.aM (bM 0 cX) fl a.bV r2 a.bV.length up fm c:=by
 have hf:=b.xG.2;have hbl:=b.xD.gb.len;have hlf:=b.zq.xG;obtain⟨h20,hok⟩:=CI h0;exact IX (N:=N) (r:=r) hok (by omega) (by omega) (by omega) (by omega) (by omega) b.yp.jD b.yp.ji hN
end
def GX(a0 a1 b0 b1:Int):Int:=max (max 0<|b0 - a1+1)<|a0 - b1+1
def w5(a b:aH):Int:=max (GX a.X0 a.X1 b.X0 b.X1)<|GX a.Y0 a.Y1 b.Y0 b.Y1
def vd(s:Int)(x:aH)(b:List aH):Int:=b.foldl (λs y=>if s<0\/w5 x y<s then w5 x y else s) s
def wg(a b:List aH):Int:=a.foldl (λs x=>vd s x b)<|-1
theorem MU{a0 a1 b0 b1:Int}(h0: -1000000<=a0/\a0<=1000000)(h1: -1000000<=a1/\a1<=1000000)(h2: -1000000<=b0/\b0<=1000000)(h3: -1000000<=b1/\b1<=1000000):0<=GX a0 a1 b0 b1/\GX a0 a1 b0 b1<=2000001:=by
 unfold GX;omega
theorem JS{a b:aH}(ha:dJ a=true)(hb:dJ b=true):0<=w5 a b/\w5 a b<=2000001:=by
 obtain⟨a1,a2,a3,a4⟩:=jg ha;obtain⟨b1,b2,b3,b4⟩:=jg hb;have:=MU a1 a3 b1 b3;have:=MU a2 a4 b2 b4;unfold w5;omega
theorem KG{x:aH}{s:Int}(hx:dJ x=true):∀(b:List aH),(∀y∈b,dJ y=true)->∀{s:Int},-1<=s/\s<=2000001-> -1<=vd s x b/\vd s x b<=2000001
 | [],_,s,h=>h
 |y::b,hb,s,h=>by
  have hf:=JS hx<|hb y<|List.mem_cons_self ..
  unfold vd;rw[List.foldl_cons];refine KG (s:=s) hx b (λz hz=>hb z<|jo _ hz) ?_;split <;> omega
theorem KH{a b:List aH}(ha:∀y∈a,dJ y=true)(hb:∀y∈b,dJ y=true): -1<=wg a b/\wg a b<=2000001:=by
 have key:∀(a:List aH),(∀y∈a,dJ y=true)->∀{s:Int},-1<=s/\s<=2000001-> -1<=a.foldl (λs x=>vd s x b) s/\a.foldl (λs x=>vd s x b) s<=2000001:=by
  intro a
  induction a with
  |nil=>simp
  |cons x a ih=>
   intro ha s h;rw[List.foldl_cons];exact ih (λz hz=>ha z<|jo _ hz)<|KG (s:=s) (ha x<|List.mem_cons_self ..) b hb h
 exact key a ha ⟨by omega,by omega⟩
section
variable {N:Nat}
theorem JT{a0 a1 b0 b1:Int}(h0: -1000000<=a0/\a0<=1000000)(h1: -1000000<=a1/\a1<=1000000)(h2: -1000000<=b0/\b0<=1000000)(h3: -1000000<=b1/\b1<=1000000):kM N a0 a1 b0 b1=some (GX a0 a1 b0 b1):=by
 unfold kM GX
 grind [tg,rH]
theorem MV{a b:aH}(ha:dJ a=true)(hb:dJ b=true):mj N a b=some (w5 a b):=by
 obtain⟨a1,a2,a3,a4⟩:=jg ha;obtain⟨b1,b2,b3,b4⟩:=jg hb;unfold mj w5
 grind [JT,aB,rH]
theorem MW(a b:aH):∃n,mj N a b=some n:=⟨_,rfl⟩
theorem FV(a b:aH)(n:Int):∃p,tB N a b n=some p:=⟨_,rfl⟩
theorem FW(p q:dU):∃c,tC N p q=some c:=⟨_,rfl⟩
theorem MX{a b:List aH}(ri:a.length<=1000000)(hbl:b.length<=1000000)(ha:∀y∈a,dJ y=true)(hb:∀y∈b,dJ y=true):∃g,pU N a b=some g/\g.iK=wg a b - 1:=by
 have hd:=KH ha hb
 suffices h:Ok (pU N a b) (λg=>g.iK=wg a b - 1)from h
 unfold pU;refine TZ (UX (λk s=>s=(a.take k).foldl (λs x=>vd s x b) (-1)) (by omega) rfl<|λk s hk e=>?_)<|λs e=>?_
 ·have hx:a[k]? =some a[k]:=aN hk;refine T6 hx<|TZ (UX (λj t=>t=vd s a[k] (b.take j)) (by omega) rfl<|λj t hj et=>?_)<|λt et=>OF ?_
  ·have hy:b[j]? =some b[j]:=aN hj;refine T6 hy<|IT (MV (ha _<|cH hk)<|hb _<|cH hj) ?_
   have e2:vd s a[k] (b.take<|j+1)=if t<0\/w5 a[k] b[j]<t then w5 a[k] b[j]else t:=by
    grind [vd,dQ]
   grind [decide,OF,Bool.or_eq_false_iff,decide_eq_false_iff_not]
  grind [eM,dQ]
 rw[eM]at e;have e:s=wg a b:=e;subst e;rw[tg (by omega)];refine TZ (UX (λk(st:uP×Bool)=>st.1.iK=wg a b - 1) (by omega) rfl<|λk st hk I=>?_)<|λst I=>?_
 ·have hx:a[k]? =some a[k]:=aN hk;refine T6 hx<|TZ (UX (λj(st:uP×Bool)=>st.1.iK=wg a b - 1) (by omega) I<|λj st hj I=>?_)<|λst I=>OF I
  have hy:b[j]? =some b[j]:=aN hj;obtain⟨p,hp⟩:=FV (N:=N) a[k] b[j]<|wg a b
  refine T6 hy<|IT hp ?_
  refine TZ (P:=λ_=>True) ?_<|λc _=>?_
  ·refine IT (MV (ha _<|cH hk)<|hb _<|cH hj) ?_
   cases(w5 a[k] b[j]==wg a b)with
   |false=>exact OF trivial
   |true=>
    rw[aO]
    cases st.2 with
    |false=>exact OF trivial
    |true=>
     obtain⟨c,hc⟩:=FW (N:=N) p st.1.cB
     grind [IT,OF]
  grind [TZ,wg,OF]
 refine TZ (UX (λk(st:uP×Bool)=>st.1.iK=wg a b - 1) (by omega) I<|λk st' hk I=>?_)<|λst I=>OF I
 have hx:b[k]? =some b[k]:=aN hk;obtain⟨p,hp⟩:=FV (N:=N) b[k] (⟨st.1.cB.X,st.1.cB.Y,wrap .i64<|st.1.cB.X+1,wrap .i64<|st.1.cB.Y+1⟩:aH)<|wg a b
 obtain⟨f,hf⟩:=MW (N:=N) b[k] (⟨st.1.cB.X,st.1.cB.Y,wrap .i64<|st.1.cB.X+1,wrap .i64<|st.1.cB.Y+1⟩:aH);refine T6 hx<|IT hp ?_
 refine TZ (P:=λ_=>True) ?_<|λc _=>?_
 ·refine IT hf ?_
  cases(f==wg a b)with
  |false=>exact OF trivial
  |true=>
   rw[aO]
   cases st'.2 with
   |false=>exact OF trivial
   |true=>
    obtain⟨c,hc⟩:=FW (N:=N) p st'.1.To
    grind [IT,OF]
 grind [TZ,wg,OF]
end
def N4(gs:List bW)(g:Int):Bool:=decide (g>=0)&&(gs[g.toNat]?).elim false λG=>decide<|((G.fw.length:Nat):Int)>1
def pd(gs:List bW)(B:Bool)(of:List Int)(n:Nat):List bN:=((List.range n).filter<|λk=>(of[k]?).elim false<|N4 gs).map<|λk=>⟨true,⟨B,((k:Nat):Int)⟩,0,0⟩
def rA(pcs:List aD)(ofP:List Int)(near:Int)(i k:Nat):Bool:=(pcs[i]?).elim false λp=>(pcs[k]?).elim false λq=>decide (i<k)&&(q.cL==p.cL&&(decide (ofP[i]? ≠ofP[k]?)&&decide (wg p.dY q.dY - 1<near)))
def qs(pcs:List aD)(ofP:List Int)(near:Int)(i m:Nat):List bN:=((List.range m).filter<|rA pcs ofP near i).map<|λk=>⟨false,⟨false,0⟩,((i:Nat):Int),((k:Nat):Int)⟩
def sH(pcs:List aD)(ofP:List Int)(near:Int)(m:Nat):List bN:=(List.range m).flatMap<|λi=>qs pcs ofP near i pcs.length
def Bq(pcs:List aD)(gs:List bW)(ofP ofB:List Int)(near:Int):List bN:=pd gs false ofP ofP.length++pd gs true ofB ofB.length++sH pcs ofP near pcs.length
theorem tx(gs:List bW)(B:Bool)(of:List Int)(k:Nat):pd gs B of (k+1)=if(of[k]?).elim false (N4 gs)=true then pd gs B of k++[⟨true,⟨B,((k:Nat):Int)⟩,0,0⟩]else pd gs B of k:=by
 unfold pd;rw[List.range_succ,List.filter_append,fW]
 grind
theorem ox(gs:List bW)(B:Bool)(of:List Int)(k:Nat):(pd gs B of k).length<=k:=by
 unfold pd
 grind
theorem ug(pcs:List aD)(ofP:List Int)(near:Int)(i m:Nat):qs pcs ofP near i (m+1)=if rA pcs ofP near i m=true then qs pcs ofP near i m++[⟨false,⟨false,0⟩,((i:Nat):Int),((m:Nat):Int)⟩]else qs pcs ofP near i m:=by
 unfold qs;rw[List.range_succ,List.filter_append,fW]
 grind
theorem Cj(pcs:List aD)(ofP:List Int)(near:Int)(i m:Nat):(qs pcs ofP near i m).length<=m:=by
 unfold qs
 grind
theorem w6{pcs:List aD}{ofP:List Int}{near:Int}{i m:Nat}:∀{d:Nat},(∀k,m<=k->k<m+d->rA pcs ofP near i k=false)->qs pcs ofP near i (m+d)=qs pcs ofP near i m
 | 0,_=>rfl
 |d+1,h=>by
  rw[show m+(d+1)=m+d+1 by omega,ug,h (m+d) (by omega) (by omega),aI lK];exact w6<|λk h1 h2=>h k h1 (by omega)
theorem yQ(pcs:List aD)(ofP:List Int)(near:Int)(m:Nat):sH pcs ofP near (m+1)=sH pcs ofP near m++qs pcs ofP near m pcs.length:=by
 simp[sH,List.range_succ,List.flatMap_append]
theorem Bi(pcs:List aD)(ofP:List Int)(near:Int):∀(m:Nat),(sH pcs ofP near m).length<=m*pcs.length
 | 0=>by simp[sH]
 |m+1=>by
  rw[yQ,dX,Nat.add_mul,Nat.one_mul];have:=Bi pcs ofP near m;have:=Cj pcs ofP near m pcs.length;omega
theorem MY:∀(cX:List (List<|List aA))(k:Nat),(bM k cX).Pairwise (λp q=>p.cL<=q.cL)/\∀p∈bM k cX,((k:Nat):Int)<=p.cL
 | [],k=>⟨kg,λp h=>by cases h⟩
 |ps::r,k=>by
  obtain⟨h1,h2⟩:=MY r<|k+1
  unfold bM;refine⟨List.pairwise_append.2 ⟨?_,h1,λp hp q hq=>?_⟩,λp hp=>?_⟩
  ·rw[List.pairwise_map];exact List.Pairwise.imp (λ_=>Int.le_refl _)<|List.pairwise_of_forall (R:=λ_ _=>True)<|λ_ _=>trivial
  ·obtain⟨p',_,rfl⟩:=dO.1 hp;have:=h2 q hq;show((k:Nat):Int)<=q.cL;omega
  ·rcases dH.1 hp with hp|hp
   ·obtain⟨p',_,rfl⟩:=dO.1 hp;exact Int.le_refl _
   ·have:=h2 p hp;omega
section
variable {N:Nat}{a:jO}{ke:List (List aA)}{cX:List (List (List aA))}{r:Nat->Nat}{gs:List bW}{ofP ofB jD:List Int}{ji:List eC}
theorem Bj{h:eC}{g:Int}{s:List bN}(hg:0<=g->g.toNat<gs.length)(hs:s.length<=100000000):jH N h g s gs=some (if N4 gs g=true then s++[⟨true,h,0,0⟩]else s):=by
 unfold jH N4
 by_cases h0:0<=g
 ·have hlt:=hg h0;have hx:gs[g.toNat]? =some gs[g.toNat]:=aN hlt
  grind [cG,Int.toNat_of_nonneg,bY,aB,decide,kE]
 grind
theorem Ev(b:jh a ke cX r gs ofP ofB jD ji){k:Nat}(hk:k<ofP.length):∃g:Nat,ofP[k]? =some ((g:Nat):Int)/\g<gs.length:=by
 have hl:=b.yp.of.lp;obtain⟨g,h1,h2,_⟩:=MS b.yp (k:=k) (by omega)
 grind
theorem JU(b:jh a ke cX r gs ofP ofB jD ji){j:Nat}(hj:j<ofB.length):(ry a.aM j=true/\∃g:Nat,ofB[j]? =some ((g:Nat):Int)/\g<gs.length)\/(ry a.aM j=false/\ofB[j]? =some (-1)):=by
 have hl:=b.yp.of.lb;have hm:r ((bM 0 cX).length+j)∈bP ((bM 0 cX).length+a.aM.length) r:=iw.2 ⟨by have:=b.yp.conn.le ((bM 0 cX).length+j) (by omega);omega,b.yp.conn.rr _ (by omega)⟩;have:=b.yp.of.bo j (by omega) hm
 cases hp:ry a.aM j with
 |true=>
  rw[hp,aG rfl]at this;exact .inl ⟨rfl,_,this,by rw[(GU b.yp).1];simp_all[FK,Iv]⟩
 |false=>
  grind
theorem FX(b:jh a ke cX r gs ofP ofB jD ji){near:Int}{q1:List (List aH)}{q2:List aH}{q3:List bU}{q4:List dE}{q5:List (List aA)}{q6:List (List Int)}{q7:List Int}{q8:List eC}(hN:4398046511104<=N):
  oH N q1 q2 q3 q4 q5 (bM 0 cX) q6 gs ofP ofB q7 q8 near=some (if near<0\/100000<near then([],1)else if 20000<(Bq (bM 0 cX) gs ofP ofB near).length then([],2)else(Bq (bM 0 cX) gs ofP ofB near,0)):=by
 have hf:=b.xG.2;have hbl:=b.xD.gb.len;have hlp:=b.yp.of.lp;have hlb:=b.yp.of.lb;have hup:=(MY cX 0).1;generalize hpcs:bM 0 cX=pcs at *;unfold oH;have w:oG N near 0 100000=some (decide (near>=0)&&decide (near<=100000)):=rfl;rw[w,aB]
 by_cases hn:near<0\/100000<near
 ·grind
 rw[aI hn,show(decide (near>=0)&&decide (near<=100000))=true by grind,ln,aR];have s1:kR ofP.length (λ(k34:Nat)(s35:List bN)=>((idx ofP (k34:Int)).bind λx51=>(jH N (⟨false,(k34:Int)⟩:eC) x51 s35 gs).bind λx54=>some x54:Option (List bN))) ([]:List bN)=some (pd gs false ofP ofP.length):=
  Gq (λk=>pd gs false ofP k) (by omega) rfl (λk hk=>by
   grind [Ev,ox,cG,aB,Bj,cO,tx])
 have s2:kR ofB.length (λ(k57:Nat)(s58:List bN)=>((idx ofB (k57:Int)).bind λx74=>(jH N (⟨true,(k57:Int)⟩:eC) x74 s58 gs).bind λx77=>some x77:Option (List bN))) (pd gs false ofP ofP.length)=some (pd gs false ofP ofP.length++pd gs true ofB ofB.length):=
  Gq (λk=>pd gs false ofP ofP.length++pd gs true ofB k) (by omega) (by simp[pd]) (λk hk=>by
   have:=ox gs false ofP ofP.length;have:=ox gs true ofB k;have e:∃g,ofB[k]? =some g/\(0<=g->g.toNat<gs.length):=by
    rcases JU b hk with⟨_,g,h1,h2⟩|⟨_,h1⟩
    ·exact⟨_,h1,λ_=>by omega⟩
    ·exact⟨_,h1,λh=>by omega⟩
   obtain⟨g,h1,h2⟩:=e;rw[cG h1,aB,Bj h2 (by grind),aB,tx,h1,Option.elim_some]
   cases N4 gs g with
   |true=>rw[aG rfl,aG rfl,kI]
   |false=>rw[aI lK,aI lK])
 rw[s1,aB,s2,aB];have hb1:=ox gs false ofP ofP.length;have hb2:=ox gs true ofB ofB.length;generalize hB:pd gs false ofP ofP.length++pd gs true ofB ofB.length=base;have hbase:base.length<=2500:=by grind
 have hs:Bq pcs gs ofP ofB near=base++sH pcs ofP near pcs.length:=by grind [Bq]
 refine UU ?_;refine TZ (UX (λi s=>s=base++sH pcs ofP near i) (by omega) (by simp[sH])<|λi s hi e=>?_)<|λs e=>?_
 ·subst e;have hx:pcs[i]? =some pcs[i]:=aN hi;have hpl:=Bi pcs ofP near i;have hpl:(sH pcs ofP near i).length<=2000*2000:=sQ hpl<|Nat.mul_le_mul (by omega) hf
  have hri:pcs[i].dY.length<=2000/\∀q∈pcs[i].dY,dJ q=true:=by
   grind [sf,cH]
  obtain⟨gi_,hgi,_⟩:=Ev b (k:=i) (by omega);refine T6 hx ?_;rw[bE (by omega)];have hskip:qs pcs ofP near i (i+1)= []:=by
   have e0:qs pcs ofP near i 0= []:=by simp[qs]
   have:=w6 (pcs:=pcs) (ofP:=ofP) (near:=near) (i:=i) (m:=0) (d:=i+1) (λk _ hk=>by
    unfold rA
    grind)
   grind
  refine TZ (UE (n:=pcs.length) (λst=>st.2) (λk st=>i+1<=k/\st.1=base++sH pcs ofP near i++qs pcs ofP near i k) (Go:=λst=>st.1=base++sH pcs ofP near (i+1)) (Rt:=λ_=>False) ?_ ?_ (k0:=i+1) (by omega) rfl ⟨cJ _,by grind⟩ (by omega)) ?_
  ·rintro k⟨s,j⟩hk e⟨hik,hI⟩;dsimp only at e hI ⊢;subst e;subst hI;have hy:pcs[k]? =some pcs[k]:=aN hk;have h1l:=Cj pcs ofP near i k;have hrk:pcs[k].dY.length<=2000/\∀q∈pcs[k].dY,dJ q=true:=by
    grind [sf,cH]
   obtain⟨gk_,hgk,_⟩:=Ev b (k:=k) (by omega);have hmono:∀u v:Nat,(hv:v<pcs.length)->(huv:u<v)->pcs[u].cL<=pcs[v].cL:=λu v hv huv=>nz.1 hup u v (by omega) hv huv;rw[iR hk,aO];refine IT (x:=pcs[k].cL==pcs[i].cL) (by rw[cG hy,aB]) ?_
   cases hL:(pcs[k].cL==pcs[i].cL)with
   |false=>
    rw[aR];refine Un ?_;dsimp only;have hne:pcs[k].cL≠pcs[i].cL:=λe=>by rw[e,BEq.rfl]at hL;cases hL
    have h1:=hmono i k hk (by omega)
    have hsk:=w6 (pcs:=pcs) (ofP:=ofP) (near:=near) (i:=i) (m:=k) (d:=pcs.length - k) (λj h2 h3=>by
     have hj:j<pcs.length:=by omega
     have h4:pcs[k].cL<=pcs[j].cL:=by
      by_cases e:k=j
      ·subst e;exact Int.le_refl _
      ·exact hmono k j hj (by omega)
     unfold rA
     rw[hx,aN hj,Option.elim_some,Option.elim_some,show(pcs[j].cL==pcs[i].cL)=false by rw[beq_eq_false_iff_ne];omega,Bool.false_and,Bool.and_false])
    rw[show k+(pcs.length - k)=pcs.length by omega]at hsk;rw[yQ,hsk,kI]
   |true=>
    rw[aO];refine IT (x:=rA pcs ofP near i k) ?_ ?_
    ·rw[cG hgi,aB,cG hgk,aB];unfold rA;rw[hx,hy,Option.elim_some,Option.elim_some,hL,bY (show i<k by omega),Bool.true_and,Bool.true_and,hgi,hgk]
     by_cases e:gi_=gk_
     ·subst e;rw[bne_self_eq_false,aR,show decide (some ((gi_:Nat):Int)≠some ((gi_:Nat):Int))=false by simp,Bool.false_and]
     ·obtain⟨g,g1,g2⟩:=MX (N:=N) (a:=pcs[i].dY) (b:=pcs[k].dY) (by omega) (by omega) hri.2 hrk.2;rw[show(((gi_:Nat):Int) != ((gk_:Nat):Int))=true by rw[bne_iff_ne];omega,aO,cG hy,aB,g1,aB,g2,show decide (some ((gi_:Nat):Int)≠some ((gk_:Nat):Int))=true by rw[cY];intro h;injection h with h;omega,Bool.true_and]
    ·cases hsP:rA pcs ofP near i k with
     |true=>
      rw[aO];refine TZ (P:=λs=>s=base++sH pcs ofP near i++qs pcs ofP near i (k+1)) (UJ (by simp only[dX,eI,List.length_nil];omega)<|OF ?_)<|λs hs=>Uh ⟨bE (by omega),by omega,hs⟩
      rw[ug,hsP,aG rfl,kI]
     |false=>
      rw[aR,aB];refine Uh ⟨bE (by omega),by omega,?_⟩;dsimp only;rw[ug,hsP,aI lK]
  ·rintro⟨s,j⟩e⟨_,hI⟩;dsimp only at e hI ⊢;subst e;subst hI;rw[l6,aR];refine IT (x:=false) rfl ?_;rw[aR];exact Un (by dsimp only;rw[yQ,kI])
  ·intro o ho;refine Uo ho (λst hst=>OF hst)<|λr hr=>hr.elim
 ·subst e;rw[hs]
  by_cases hl:20000<(base++sH pcs ofP near pcs.length).length
  ·rw[aG hl,bY (show(((base++sH pcs ofP near pcs.length).length:Nat):Int)>20000 by omega)];exact OF rfl
  ·rw[aI hl,cD (show ¬(((base++sH pcs ofP near pcs.length).length:Nat):Int)>20000 by omega)];exact OF rfl
end
theorem Ad{bs:List bU}{n:Nat}{x:bN}(h1:OW x=false)(h2:Ac bs n x=true)(h3:x.Open=false->x.A<x.B):sG bs n [x]=0:=by
 unfold sG;have e:Es bs n [x] 0=none:=by
  unfold Es;rw[show([x]:List bN)[0]? =some x from rfl,Option.bind_some,h1,aI lK,h2,aI (by decide)]
  cases ho:x.Open with
  |true=>rfl
  |false=>
   have:=h3 ho;rw[kh,Bool.true_and,cD (by omega),aI lK,aI (by simp)]
 rw[aI (by simp),mw.2 (λk hk=>by
  have:k=0:=by simp at hk;omega
  subst this;exact e)];rfl
theorem w7{bs:List bU}{n:Nat}:sG bs n []=0:=rfl
noncomputable def wh(N:Nat)(a:jO)(cX:List (List<|List aA))(jD:List Int)(ji:List eC)(fl:List bN):List Int:=(f9 N a.aM a.bV (bM 0 cX) (cT a.aM<|bM 0 cX) jD ji fl).getD []
def OX(c d:List Int):Bool:=(List.range c.length).all<|λi=>kH c i==kH d i
section
variable {N:Nat}{a:jO}{ke:List (List aA)}{cX:List (List (List aA))}{r:Nat->Nat}{gs:List bW}{ofP ofB jD:List Int}{ji:List eC}
theorem GY(b:jh a ke cX r gs ofP ofB jD ji){fl:List bN}(h0:sG a.aM (bM 0 cX).length fl=0)(hN:4398046511104<=N):
  f9 N a.aM a.bV (bM 0 cX) (cT a.aM<|bM 0 cX) jD ji fl=some (wh N a cX jD ji fl)/\(wh N a cX jD ji fl).length=a.bV.length/\rz (wh N a cX jD ji fl):=by
 obtain⟨r2,c,up,fm,c1,c2,c3⟩:=Eu b h0 hN;have e:wh N a cX jD ji fl=c:=by unfold wh;rw[c1];rfl
 rw[e];exact⟨c1,c3.len,c3.first⟩
theorem MZ{c d:List Int}(hc:c.length<=1000000000)(hl:d.length=c.length):rM N c d=some (OX c d):=by
 unfold rM
 rw[tI (λk=>if kH c k=kH d k then none else some false) (by omega) (λk hk _=>by
  have h1:c[k]? =some c[k]:=aN hk;have h2:d[k]? =some (d[k]'(by omega)):=aN _;have n1:(bif decide (c[k]<0)then some ((k:Nat):Int)else some c[k])=some (kH c k):=by
   unfold kH;rw[List.getD_eq_getElem?_getD,h1,Option.getD_some]
   by_cases h:c[k]<0
   ·rw[bY h,aG h];rfl
   ·rw[cD h,aI h];rfl
  have n2:(bif decide ((d[k]'(by omega))<0)then some ((k:Nat):Int)else some (d[k]'(by omega)))=some (kH d k):=by
   unfold kH;rw[List.getD_eq_getElem?_getD,h2,Option.getD_some]
   by_cases h:(d[k]'(by omega))<0
   ·rw[bY h,aG h];rfl
   ·rw[cD h,aI h];rfl
  rw[cG h1,aB,cG h2,aB,n1,aB,n2,aB]
  by_cases h:kH c k=kH d k
  ·rw[h,bne_self_eq_false,aG rfl];rfl
  ·rw[show(kH c k != kH d k)=true by rw[bne_iff_ne];exact h,aI h];rfl),aB]
 unfold OX
 cases hf:wD c.length (λk=>if kH c k=kH d k then none else some false)with
 |none=>
  have e:(List.range c.length).all (λi=>kH c i==kH d i)=true:=lL.2 (λi hi=>by
   have:=mw.1 hf i<|lk.1 hi
   split at this
   ·rename_i h;rw[h,BEq.rfl]
   ·cases this)
  rw[e];rfl
 |some e=>
  obtain⟨k,hk,he,_⟩:=oN.1 hf;split at he
  ·cases he
  rename_i hne;injection he with he
  subst he;have e:(List.range c.length).all (λi=>kH c i==kH d i)=false:=by
   rw[List.all_eq_false];exact⟨k,lk.2 hk,by simpa using hne⟩
  rw[e];rfl
theorem M1{c d:List Int}(hc:rz c)(hd:rz d)(hl:c.length=d.length)(h:OX c d=true){i k:Nat}(hi:i<c.length)(hk:k<c.length)(hne:i≠k):kf c i k=kf d i k:=
 IY hc hd hl (λj hj=>by
  have:=lL.1 h j<|lk.2 hj
  exact beq_iff_eq.1 this) hi hk hne
theorem FY(b:jh a ke cX r gs ofP ofB jD ji){near:Int}{x:bN}(hx:x∈Bq (bM 0 cX) gs ofP ofB near):sG a.aM (bM 0 cX).length [x]=0:=by
 have hlp:=b.yp.of.lp;have hlb:=b.yp.of.lb;have inp:∀{n k:Nat},k<n->OV n ((k:Nat):Int)=true:=λ{n k}h=>by
  unfold OV;rw[cQ,cY,cY];omega
 unfold Bq at hx
 rcases dH.1 hx with hx|hx
 ·rcases dH.1 hx with hx|hx
  ·obtain⟨k,hk,rfl⟩:=dO.1 hx;have hk:=lk.1 (lj.1 hk).1;exact Ad rfl (inp (by omega)) (λh=>by cases h)
  ·obtain⟨k,hk,rfl⟩:=dO.1 hx;obtain⟨h1,h2⟩:=lj.1 hk;have h1:=lk.1 h1;refine Ad rfl ?_ (λh=>by cases h)
   rcases JU b h1 with⟨hp,_⟩|⟨_,e⟩
   ·unfold Ac;simp only[aO];rw[inp (by omega),cO,hp];rfl
   ·rw[e,Option.elim_some]at h2;unfold N4 at h2;simp at h2
 ·obtain⟨i,hi,hx⟩:=List.mem_flatMap.1 hx;obtain⟨k,hk,rfl⟩:=dO.1 hx;obtain⟨h1,h2⟩:=lj.1 hk;have h1:=lk.1 h1;have hi:=lk.1 hi;unfold rA at h2;rw[aN hi,aN h1,Option.elim_some,Option.elim_some,cQ,cY]at h2;refine Ad rfl ?_<|λ_=>?_
  ·unfold Ac;simp only[aR];rw[inp hi,inp h1];rfl
  ·show((i:Nat):Int)<((k:Nat):Int);omega
theorem KI(b:jh a ke cX r gs ofP ofB jD ji)(near:Int):(Bq (bM 0 cX) gs ofP ofB near).length<=4002500:=by
 have hf:=b.xG.2;have hbl:=b.xD.gb.len;have hlp:=b.yp.of.lp;have hlb:=b.yp.of.lb;have h1:=ox gs false ofP ofP.length;have h2:=ox gs true ofB ofB.length;have h3:(sH (bM 0 cX) ofP near (bM 0 cX).length).length<=2000*2000:=sQ (Bi _ ofP near _)<|Nat.mul_le_mul hf hf
 unfold Bq;rw[dX,dX];omega
noncomputable def Ew(N:Nat)(a:jO)(cX:List (List<|List aA))(jD:List Int)(ji:List eC)(x:bN):Bool:=OX (wh N a cX jD ji [x])<|wh N a cX jD ji []
theorem IZ(b:jh a ke cX r gs ofP ofB jD ji)(h1:gG N a=some (some (a.aK,a.cU,a.aM,a.bV,ke,bM 0 cX,cT a.aM<|bM 0 cX,gs,ofP,ofB,jD,ji),0))(near:Int)(hN:4398046511104<=N):
  ka N a near=some (if near<0\/100000<near then([],1)else if 20000<(Bq (bM 0 cX) gs ofP ofB near).length then([],2)else((Bq (bM 0 cX) gs ofP ofB near).filter<|Ew N a cX jD ji,0)):=by
 have hll:=b.zq.xG;have hsl:=KI b near;unfold ka;rw[h1,aB];simp only[G7,bne_self_eq_false,aR];rw[FX b hN,aB]
 by_cases hn:near<0\/100000<near
 ·rw[aG hn,aG hn];rfl
 rw[aI hn,aI hn]
 by_cases hl:20000<(Bq (bM 0 cX) gs ofP ofB near).length
 ·rw[aG hl,aG hl];rfl
 rw[aI hl,aI hl];simp only[bne_self_eq_false,aR];obtain⟨c1,c2,c3⟩:=GY b (fl:=[]) w7 hN;rw[c1,aB];generalize hS:Bq (bM 0 cX) gs ofP ofB near=S at *
 rw[Gq (s:=(wh N a cX jD ji [],([]:List bN))) (λk=>(wh N a cX jD ji [],(S.take k).filter (Ew N a cX jD ji))) (by omega) rfl (λk hk=>by
  have hx:S[k]? =some S[k]:=aN hk;obtain⟨d1,d2,d3⟩:=GY b (fl:=[S[k]]) (FY b (near:=near) (by rw[hS];exact cH hk)) hN;have hlen:((S.take k).filter<|Ew N a cX jD ji).length<=k:=sQ (nA _ _)<|List.length_take_le _ _
  rw[cG hx,aB,d1,aB,MZ (by rw[d2];omega) (by rw[c2,d2]),aB,dQ hk,List.filter_append];have eh:Ew N a cX jD ji S[k]=OX (wh N a cX jD ji [S[k]]) (wh N a cX jD ji []):=rfl
  cases hh:OX (wh N a cX jD ji [S[k]]) (wh N a cX jD ji [])with
  |true=>rw[aO,kE (by simp only[eI,List.length_nil];omega),aB,aB,List.filter_cons_of_pos (by rw[eh,hh]),List.filter_nil]
  |false=>rw[aR,aB,List.filter_cons_of_neg (by rw[eh,hh];exact lK),List.filter_nil,ny]),aB,eM]
theorem GZ{e:Int}(he:e≠0)(h:gG N a=some (none,e))(near:Int):ka N a near=some ([],e):=by
 unfold ka;rw[h,aB];simp only[G7,show(e != 0)=true by simpa using he,aO]
end
section
variable {N:Nat}{a:jO}{ke:List (List aA)}{cX:List (List (List aA))}{r:Nat->Nat}{gs:List bW}{ofP ofB jD:List Int}{ji:List eC}
theorem LA(b:jh a ke cX r gs ofP ofB jD ji)(h1:gG N a=some (some (a.aK,a.cU,a.aM,a.bV,ke,bM 0 cX,cT a.aM<|bM 0 cX,gs,ofP,ofB,jD,ji),0))(near:Int)(hN:4398046511104<=N):
  lR N a near=some (if near<0\/100000<near then([],1)else if 20000<(Bq (bM 0 cX) gs ofP ofB near).length then([],2)else(Bq (bM 0 cX) gs ofP ofB near,0)):=by
 unfold lR;rw[h1,aB];simp only[G7,bne_self_eq_false,aR];rw[FX b hN,aB]
theorem JV{e:Int}(he:e≠0)(h:gG N a=some (none,e))(near:Int):lR N a near=some ([],e):=by
 unfold lR;rw[h,aB];simp only[G7,show(e != 0)=true by simpa using he,aO]
end
section
variable (T:Nat->Nat->Bool)(n:Nat)
def yw(i k:Nat)(K:List Nat):Nat:=(List.range k).countP (T i)+K.countP (T i)
def N5(K:List Nat)(k:Nat):Bool:=(List.range n).any<|λi=>T i k&&decide (yw T i (k+1) K=1)
def OY:Nat->List Nat->List Nat
 | 0,K=>K
 |k+1,K=>OY k (if N5 T n K k=true then k::K else K)
variable {T n}
theorem Ae(i k:Nat)(K:List Nat):yw T i (k+1) K=yw T i k K+if T i k=true then 1 else 0:=by
 unfold yw;rw[List.range_succ,List.countP_append,List.countP_singleton];omega
theorem Af(i k:Nat)(K:List Nat):yw T i k (k::K)=yw T i (k+1) K:=by
 rw[Ae];unfold yw;rw[List.countP_cons];omega
structure M3 (T:Nat->Nat->Bool) (n m k:Nat) (K:List Nat):Prop where
 up:K.Pairwise (· < ·)
 lo:∀j∈K,k<=j/\j<m
 all:∀i,i<n->(∃j,j<m/\T i j=true)->0<yw T i k K
 own:∀j∈K,∃i,i<n/\T i j=true/\yw T i k K=1
theorem M3.step{m k:Nat}{K:List Nat}(h:M3 T n m (k+1) K)(hk:k<m):M3 T n m k (if N5 T n K k=true then k::K else K):=by
 by_cases hn:N5 T n K k=true
 ·rw[aG hn];refine⟨pI.2 ⟨λj hj=>by have:=h.lo j hj;omega,h.up⟩,λj hj=>?_,λi hi hj=>?_,λj hj=>?_⟩
  ·rcases eH.1 hj with rfl|hj
   ·exact⟨cJ _,hk⟩
   ·have:=h.lo j hj;omega
  ·rw[Af];exact h.all i hi hj
  ·rcases eH.1 hj with rfl|hj
   ·unfold N5 at hn;obtain⟨i,hi,h1⟩:=kJ.1 hn;rw[cQ,cY]at h1;exact⟨i,lk.1 hi,h1.1,by rw[Af];exact h1.2⟩
   ·obtain⟨i,h1,h2,h3⟩:=h.own j hj;exact⟨i,h1,h2,by rw[Af];exact h3⟩
 ·rw[aI hn];have hno:∀i,i<n->T i k=true->yw T i (k+1) K≠1:=λi hi ht e=>hn<|kJ.2 ⟨i,lk.2 hi,by rw[ht,e];rfl⟩
  refine⟨h.up,λj hj=>by have:=h.lo j hj;omega,λi hi hj=>?_,λj hj=>?_⟩
  ·have h1:=h.all i hi hj;have e:=Ae (T:=T) i k K
   by_cases ht:T i k=true
   ·have:=hno i hi ht;rw[aG ht]at e;omega
   ·rw[aI ht]at e;omega
  ·obtain⟨i,h1,h2,h3⟩:=h.own j hj;refine⟨i,h1,h2,?_⟩;have e:=Ae (T:=T) i k K;have hp:0<K.countP (T i):=List.countP_pos_iff.2 ⟨j,hj,h2⟩;have:yw T i k K=(List.range k).countP (T i)+K.countP (T i):=rfl;split at e <;> omega
def TB(T:Nat->Nat->Bool)(n m:Nat):List Nat:=OY T n m []
end
def KJ(n:Nat)(f:Nat->Int):List Int:=(List.range n).map f
theorem uO(n:Nat)(f:Nat->Int):(KJ n f).length=n:=by unfold KJ;simp
theorem Ex{n:Nat}{f:Nat->Int}{i:Nat}(h:i<n):(KJ n f)[i]? =some (f i):=by unfold KJ;rw[il,List.getElem?_range h];rfl
theorem yR{n:Nat}{f g:Nat->Int}(h:∀i,i<n->f i=g i):KJ n f=KJ n g:=List.map_congr_left λi hi=>h i<|lk.1 hi
theorem KK{n:Nat}{f g:Nat->Int}{i:Nat}{v:Int}(hv:i<n->v=g i)(hg:∀j,j<n->j≠i->f j=g j):(KJ n f).set i v=KJ n g:=by
 refine List.ext_getElem? λj=>?_
 by_cases hj:j<n
 ·rw[Ex hj]
  by_cases e:i=j
  ·subst e;rw[List.getElem?_set_self (by rw[uO];exact hj),hv hj]
  ·rw[List.getElem?_set_ne e,Ex hj,hg j hj<|Ne.symm e]
 ·rw[List.getElem?_eq_none (by rw[iC,uO];omega),List.getElem?_eq_none (by rw[uO];omega)]
theorem M4(n:Nat):List.replicate n (0:Int)=KJ n (λ_=>0):=by
 refine List.ext_getElem? λj=>?_
 by_cases hj:j<n
 ·rw[Ex hj,List.getElem?_replicate,aG hj]
 ·rw[List.getElem?_eq_none (by simp;omega),List.getElem?_eq_none (by rw[uO];omega)]
section
variable {N:Nat}
theorem Ey{l m:List bN}(hl:l.length<=4611686018427387904):lS N l m=some (decide<|l=m):=BP hl
end
def OZ(c:List Int):Prop:=∀(i v:Nat),c[i]? =some ((v:Nat):Int)->v<=i
theorem Ez{c:List Int}(h:rz c)(hle:OZ c){i:Nat}(hi:i<c.length):(kH c i=((i:Nat):Int))\/∃v:Nat,v<i/\kH c i=((v:Nat):Int)/\kf c i v=true/\c[i]? =some ((v:Nat):Int)/\c[v]? =some ((v:Nat):Int):=by
 have ei:c[i]? =some c[i]:=aN hi
 by_cases h0:c[i]<0
 ·left;unfold kH;rw[List.getD_eq_getElem?_getD,ei,Option.getD_some,aG h0]
 ·obtain⟨v,e⟩:∃v:Nat,c[i]=((v:Nat):Int):=⟨c[i].toNat,by omega⟩;rw[e]at ei;have hv:=hle i v ei;have ev:=h.own i v ei;have en:kH c i=((v:Nat):Int):=by unfold kH;rw[List.getD_eq_getElem?_getD,ei,Option.getD_some,aI (by omega)]
  by_cases e2:v=i
  ·left;rw[en,e2]
  ·right;refine⟨v,by omega,en,?_,ei,ev⟩;unfold kf;rw[List.getD_eq_getElem?_getD,List.getD_eq_getElem?_getD,ei,ev,Option.getD_some,bY (by omega)];simp
theorem M5{c:List Int}(hle:OZ c){i v:Nat}(h:kf c i v=true)(hi:i<c.length)(hv:v<c.length):∃w:Nat,c[i]? =some ((w:Nat):Int)/\c[v]? =some ((w:Nat):Int)/\w<=v/\w<=i:=by
 have ei:c[i]? =some c[i]:=aN hi;have ev:c[v]? =some c[v]:=aN hv;unfold kf at h;rw[cQ,cY,beq_iff_eq,List.getD_eq_getElem?_getD,List.getD_eq_getElem?_getD,ei,ev,Option.getD_some,Option.getD_some]at h;obtain⟨w,e⟩:∃w:Nat,c[i]=((w:Nat):Int):=⟨c[i].toNat,by omega⟩;rw[e]at ei;rw[<-h.2,e]at ev;exact⟨w,ei,ev,hle _ _ ev,hle _ _ ei⟩
theorem LB{c:List Int}{i w:Nat}(h:c[i]? =some ((w:Nat):Int)):kH c i=((w:Nat):Int):=by
 unfold kH;rw[List.getD_eq_getElem?_getD,h,Option.getD_some,aI (by omega)]
theorem norm_le{c:List Int}(h:rz c)(hle:OZ c){i:Nat}(hi:i<c.length):∃v:Nat,kH c i=((v:Nat):Int)/\v<=i:=by
 rcases Ez h hle hi with e|⟨v,h1,h2,_⟩
 ·exact⟨i,e,cJ _⟩
 ·exact⟨v,h2,by omega⟩
theorem EA{c d:List Int}(hc:rz c)(hd:rz d)(lc:OZ c)(ld:OZ d)(hl:c.length=d.length)(h:∀i k,k<i->i<c.length->kf c i k=kf d i k){i:Nat}(hi:i<c.length):kH d i<=kH c i:=by
 rcases Ez hc lc hi with e|⟨v,h1,h2,h3,h4,h5⟩
 ·obtain⟨w,e1,e2⟩:=norm_le hd ld (i:=i) (by omega);rw[e,e1];omega
 ·rw[h i v h1 hi]at h3;obtain⟨w,w1,w2,w3,w4⟩:=M5 ld h3 (by omega) (by omega);rw[h2,LB w1];omega
theorem N6{c d:List Int}(hc:rz c)(hd:rz d)(lc:OZ c)(ld:OZ d)(hl:c.length=d.length):OX c d=true↔∀i k,k<i->i<c.length->kf c i k=kf d i k:=by
 constructor
 ·intro h i k hk hi;exact M1 hc hd hl h hi (by omega) (by omega)
 ·intro h;unfold OX;rw[lL];intro i hi;have hi:=lk.1 hi;have h1:=EA hc hd lc ld hl h hi;have h2:=EA hd hc ld lc hl.symm (λi k hk hi=>(h i k hk (by omega)).symm) (i:=i) (by omega);rw[beq_iff_eq];omega
section
variable {N:Nat}{a:jO}{ke:List (List aA)}{cX:List (List (List aA))}{r:Nat->Nat}{gs:List bW}{ofP ofB jD:List Int}{ji:List eC}
theorem M6(b:jh a ke cX r gs ofP ofB jD ji){fl:List bN}(h0:sG a.aM (bM 0 cX).length fl=0)(hN:4398046511104<=N):OZ (wh N a cX jD ji fl):=by
 obtain⟨r2,c,up,fm,c1,c2,c3⟩:=Eu b h0 hN;have e:wh N a cX jD ji fl=c:=by unfold wh;rw[c1];rfl
 rw[e];exact c3.le
theorem M7(b:jh a ke cX r gs ofP ofB jD ji){fl:List bN}(h0:sG a.aM (bM 0 cX).length fl=0)(hN:4398046511104<=N):
  ∃r2,zx ((bM 0 cX).length+a.aM.length) (N3 (bM 0 cX).length (cT a.aM<|bM 0 cX) fl) r2/\∀{i k:Nat}{x y:dE},a.bV[i]? =some x->a.bV[k]? =some y->
   (kf (wh N a cX jD ji fl) i k=true↔∃u v,lh a.aM (bM 0 cX) fl x=some u/\lh a.aM (bM 0 cX) fl y=some v/\r2 u=r2 v):=by
 obtain⟨r2,c,up,fm,c1,c2,c3⟩:=Eu b h0 hN;have e:wh N a cX jD ji fl=c:=by unfold wh;rw[c1];rfl
 rw[e];exact⟨r2,c2,λhx hy=>c3.conn hx hy⟩
end
def CV(r:Nat->Nat)(p q:Nat):Nat->Nat:=λx=>if r x=q then p else r x
theorem nv.rel{r:Nat->Nat}{E:List (Nat×Nat)}(h:nv r E)(i k:Nat):nv (CV r (r i)<|r k) (E++[(i,k)]):=λp hp=>by
 rcases dH.1 hp with hp|hp
 ·unfold CV;rw[h p hp]
 ·simp at hp;subst hp;unfold CV;dsimp only;rw[aG rfl];split <;> rfl
theorem xC.rel{n:Nat}{r:Nat->Nat}{E:List (Nat×Nat)}(h:xC n r E){i k:Nat}(hi:i<n)(hk:k<n):xC n (CV r (r i)<|r k) (E++[(i,k)]):=λS hS x y hx hy hr hSx=>by
 have hE:∀p∈E,S p.1↔S p.2:=λp hp=>hS p<|List.mem_append_left _ hp
 have hik:S i↔S k:=hS (i,k) (by simp);have key:=h S hE;unfold CV at hr
 by_cases h1:r x=r y
 ·exact key x y hx hy h1 hSx
 ·by_cases h2:r x=r k
  ·rw[aG h2]at hr
   by_cases h3:r y=r k
   ·exact absurd (h2.trans h3.symm) h1
   ·rw[aI h3]at hr;exact key i y hi hy hr<|hik.2<|key x k hx hk h2 hSx
  ·rw[aI h2]at hr
   by_cases h3:r y=r k
   ·rw[aG h3]at hr;exact key k y hk hy h3.symm<|hik.1<|key x i hx hi hr hSx
   ·rw[aI h3]at hr;exact absurd hr h1
def G0(t:Nat)(u:List Int)(r:Nat->Nat):Prop:=u=(List.range t).map (λi=>((r i:Nat):Int))
theorem G0.len{t:Nat}{u:List Int}{r:Nat->Nat}(h:G0 t u r):u.length=t:=by rw[h];simp
theorem G0.at{t:Nat}{u:List Int}{r:Nat->Nat}(h:G0 t u r){i:Nat}(hi:i<t):u[i]? =some ((r i:Nat):Int):=by rw[h,il,List.getElem?_range hi];rfl
structure Bl (t:Nat) (L:Nat->Nat->Prop) (r:Nat->Nat):Prop where
 co:∀i j,L i j->r i=r j
 fi:∀S:Nat->Prop,(∀i j,L i j->(S i↔S j))->∀i j,i<t->j<t->r i=r j->S i->S j
theorem Bl.uniq{t:Nat}{L:Nat->Nat->Prop}{r1 r2:Nat->Nat}(h1:Bl t L r1)(h2:Bl t L r2){i j:Nat}(hi:i<t)(hj:j<t):r1 i=r1 j↔r2 i=r2 j:=by
 have key:∀{r1 r2:Nat->Nat},Bl t L r1->Bl t L r2->r1 i=r1 j->r2 i=r2 j:=λ{r1 r2}h1 h2 e=>
  (h1.fi (λx=>r2 i=r2 x) (λa b hab=>by rw[h2.co a b hab]) i j hi hj e) rfl
 exact⟨key h1 h2,key h2 h1⟩
def EI(t:Nat)(L:Nat->Nat->Prop)(op:Nat->Prop)(done:Nat->Nat->Prop)(u:List Int):Prop:=
 ∃r E,G0 t u r/\nv r E/\xC t r E/\(∀p∈E,(L p.1 p.2\/L p.2 p.1)/\¬op p.1/\¬op p.2)/\∀i j,done i j->¬op i->¬op j->(i,j)∈E\/(j,i)∈E
theorem EI.mono{t:Nat}{L:Nat->Nat->Prop}{op:Nat->Prop}{d d':Nat->Nat->Prop}{u:List Int}(h:EI t L op d u)(hd:∀i j,d' i j->d i j):EI t L op d' u:=by
 obtain⟨r,E,h1,h2,h3,h4,h5⟩:=h;exact⟨r,E,h1,h2,h3,h4,λi j hij=>h5 i j<|hd i j hij⟩
theorem EI.skip{t:Nat}{L:Nat->Nat->Prop}{op:Nat->Prop}{d:Nat->Nat->Prop}{u:List Int}(h:EI t L op d u){i k:Nat}(ho:op i\/op k):EI t L op (λa b=>d a b\/(a=i/\b=k)) u:=by
 obtain⟨r,E,h1,h2,h3,h4,h5⟩:=h;refine⟨r,E,h1,h2,h3,h4,λa b hab ha hb=>?_⟩
 grind
section
variable {N:Nat}
theorem EB{t:Nat}{u:List Int}{r:Nat->Nat}(h:G0 t u r){i k:Nat}(hi:i<t)(hk:k<t)(ht:t<N)(ht2:t<=1000000000):
  Ok (gI N u ((i:Nat):Int) ((k:Nat):Int)) (λu'=>G0 t u'<|CV r (r i)<|r k):=by
 have hl:=h.len;unfold gI;refine T6 (h.at hi)<|T6 (h.at hk) ?_
 refine TZ (UE (n:=t) (λst=>st.2) (λj st=>st.1=KJ t (λx=>if x<j then((CV r (r i) (r k) x:Nat):Int)else((r x:Nat):Int))) (Go:=λst=>G0 t st.1<|CV r (r i)<|r k) (Rt:=λ_=>False) ?_ ?_ (cS _) rfl ?_ ht) ?_
 ·rintro j⟨u1,jj⟩hj e hI;dsimp only at e hI ⊢;subst e;subst hI;rw[uO,iR hj,aO];have hx:=Ex (n:=t) (f:=λx=>if x<j then((CV r (r i) (r k) x:Nat):Int)else((r x:Nat):Int)) hj;rw[aI<|Nat.lt_irrefl j]at hx;refine T6 hx ?_;refine TZ (P:=λs=>s=KJ t (λx=>if x<j+1 then((CV r (r i) (r k) x:Nat):Int)else((r x:Nat):Int))) (Uv (λhb=>T6 hx<|OF ?_)<|λhb=>OF ?_)<|λs hs=>Uh ⟨bE (by omega),hs⟩
  ·have hb:r j=r k:=by grind
   rw[cO]
   grind [KK,CV]
  grind [yR,CV]
 ·rintro⟨u1,jj⟩e hI;dsimp only at e hI ⊢;subst e;subst hI;rw[uO,l6,aR];refine Un ?_;show KJ t _=(List.range t).map _;exact yR λx hx=>by rw[aG hx]
 ·dsimp only;rw[show u=KJ t (λi=>((r i:Nat):Int))from h];rfl
 intro o ho;exact Uo ho (λs hs=>OF hs)<|λr hr=>hr.elim
theorem EI.join{t:Nat}{L:Nat->Nat->Prop}{op:Nat->Prop}{d:Nat->Nat->Prop}{u:List Int}(h:EI t L op d u){i k:Nat}(hi:i<t)(hk:k<t)(ht:t<N)(ht2:t<=1000000000)(hL:L i k)(hoi:¬op i)(hok:¬op k):
  Ok (gI N u ((i:Nat):Int) ((k:Nat):Int)) (EI t L op<|λa b=>d a b\/(a=i/\b=k)):=by
 obtain⟨r,E,h1,h2,h3,h4,h5⟩:=h;refine(EB h1 hi hk ht ht2).mono λu' hu'=>⟨_,_,hu',h2.rel i k,h3.rel hi hk,λp hp=>?_,λa b hab ha hb=>?_⟩
 ·grind
 grind
theorem EI.sI{t:Nat}{L:Nat->Nat->Prop}{op:Nat->Prop}{d:Nat->Nat->Prop}{u:List Int}(h:EI t L op d u){i k:Nat}(hi:i<t)(hk:k<t)(ht:t<N)(ht2:t<=1000000000)(hL:L i k)(hoi:¬op i)(hok:¬op k):
  Ok (gI N u ((k:Nat):Int) ((i:Nat):Int)) (EI t L op<|λa b=>d a b\/(a=i/\b=k)):=by
 obtain⟨r,E,h1,h2,h3,h4,h5⟩:=h;refine(EB h1 hk hi ht ht2).mono λu' hu'=>⟨_,_,hu',h2.rel k i,h3.rel hk hi,λp hp=>?_,λa b hab ha hb=>?_⟩
 ·grind
 grind
theorem G1{bs:List bU}{n m:Nat}{h:eC}{rs:List (List aH)}(hh:D8 bs n m h)(hr:rs.length=n)(hn:n+m<=1000000000):fV N rs h=some ((dW n h:Nat):Int)/\dW n h<n+m:=by
 obtain⟨k,e,h1,h2⟩:=hh.num
 grind [fV,dW,cO,wrap_add]
end
structure JW (bs:List bU) (pcs:List aD) (fl:List bN) (ls:List dE) (r2:Nat->Nat) (j:Nat) (W:List Int):Prop where
 len:W.length=j
 no:∀i l,i<j->ls[i]? =some l->lh bs pcs fl l=none->W[i]? =some (-1)
 yes:∀i l v,i<j->ls[i]? =some l->lh bs pcs fl l=some v->W[i]? =some ((r2 v:Nat):Int)
theorem JW.conn{bs:List bU}{pcs:List aD}{fl:List bN}{ls:List dE}{r2:Nat->Nat}{W:List Int}(h:JW bs pcs fl ls r2 ls.length W){i k:Nat}{x y:dE}(hx:ls[i]? =some x)(hy:ls[k]? =some y):
  kf W i k=true↔∃u v,lh bs pcs fl x=some u/\lh bs pcs fl y=some v/\r2 u=r2 v:=by
 have hi:=(bQ.1 hx).1;have hk:=(bQ.1 hy).1;unfold kf;rw[cQ,cY,beq_iff_eq,List.getD_eq_getElem?_getD,List.getD_eq_getElem?_getD]
 cases hn:lh bs pcs fl x with
 |none=>
  rw[h.no i x hi hx hn,Option.getD_some];simp
 |some u=>
  rw[h.yes i x u hi hx hn,Option.getD_some]
  cases hm:lh bs pcs fl y with
  |none=>
   rw[h.no k y hk hy hm,Option.getD_some];simp
  |some v=>
   rw[h.yes k y v hk hy hm,Option.getD_some]
   grind
theorem Bm{bs:List bU}{pcs:List aD}{fl:List bN}{l:dE}{v:Nat}(h:lh bs pcs fl l=some v):v<pcs.length+bs.length:=by
 unfold lh at h
 cases hh:qw bs pcs l with
 |none=>grind
 |some q=>
  rw[hh,Option.bind_some]at h;split at h
  ·cases h
  ·injection h with h
   obtain⟨k,e,h1,h2⟩:=(B6 hh).num
   grind [dW]
section
variable {N:Nat}
theorem M8{bs:List bU}{pcs:List aD}{ls:List dE}{fl:List bN}(hfl:PR bs pcs.length bs.length fl)(hfn:fl.length<=1073741824)(hb:kQ bs)(hp:pcs.length<=1000000)(hr:∀p∈pcs,p.dY.length<=1000000/\∀x∈p.dY,x.X0<x.X1)(hl:ls.length<=1000000)(hd:∀l:dE,∀b∈bs,∀p∈pcs,mQ l b=true->lV l p=true->False)(hN:4398046511104<=N):
  ∃r2 W,gj N bs ls (pcs.map aD.cL) (pcs.map aD.dY) (cT bs pcs) fl=some W/\Bl (pcs.length+bs.length) (N3 pcs.length (cT bs pcs) fl) r2/\JW bs pcs fl ls r2 ls.length W:=by
 suffices h:Ok (gj N bs ls (pcs.map aD.cL) (pcs.map aD.dY) (cT bs pcs) fl) (λW=>∃r2,Bl (pcs.length+bs.length) (N3 pcs.length (cT bs pcs) fl) r2/\JW bs pcs fl ls r2 ls.length W)by
  obtain⟨W,h1,r2,h2,h3⟩:=h
  grind
 have hbl:=hb.len;have hrl:(pcs.map aD.dY).length=pcs.length:=eB _;have hnum:∀{h:eC},D8 bs pcs.length bs.length h->fV N (pcs.map aD.dY) h=some ((dW pcs.length h:Nat):Int)/\dW pcs.length h<pcs.length+bs.length:=λhh=>G1 hh hrl (by omega);unfold gj;rw[hrl,wrap_add (by omega)];refine IT (oO false (by omega)) ?_
 refine TZ (UE (n:=fl.length) (λst=>st.2) (λq st=>st.1.length=pcs.length+bs.length/\∀v,v<pcs.length+bs.length->st.1[v]? =some (decide (lX pcs.length (fl.take q) v)))
  (Go:=λst=>st.1.length=pcs.length+bs.length/\∀v,v<pcs.length+bs.length->st.1[v]? =some (decide (lX pcs.length fl v))) (Rt:=λ_=>False) ?_ ?_ (cS _) rfl ⟨List.length_replicate,λv hv=>?_⟩ (by omega)) ?_
 ·rintro q⟨om,qq⟩hq e⟨hI1,hI2⟩;dsimp only at e hI1 hI2 ⊢;subst e;have hx:fl[q]? =some fl[q]:=aN hq;have hts:=dQ hq;rw[iR hq,aO];refine T6 hx<|TZ (P:=λs=>s.length=pcs.length+bs.length/\∀v,v<pcs.length+bs.length->s[v]? =some (decide<|lX pcs.length (fl.take<|q+1) v)) (Uv (λho=>?_)<|λho=>OF ⟨hI1,λv hv=>?_⟩)<|λs hs=>Uh ⟨bE (by omega),hs⟩
  ·obtain⟨c1,c2⟩:=hnum<|hfl.op _ (cH hq) ho
   refine T6 hx<|IT c1<|T6 (hI2 _ c2)<|OF ⟨by grind,λv hv=>?_⟩
   rw[cO,hts]
   by_cases e:dW pcs.length fl[q].eC=v
   ·subst e;rw[List.getElem?_set_self (by omega)];congr 1;exact(bY ⟨fl[q],List.mem_append_right _<|lJ.2 rfl,ho,rfl⟩).symm
   ·rw[List.getElem?_set_ne e,hI2 v hv];congr 1;rw[decide_eq_decide];constructor
    ·rintro⟨x,hx,h1,h2⟩;exact⟨x,List.mem_append_left _ hx,h1,h2⟩
    ·rintro⟨x,hx,h1,h2⟩
     rcases dH.1 hx with hx|hx
     ·exact⟨x,hx,h1,h2⟩
     ·rw[lJ]at hx;subst hx;exact absurd h2 e
  ·rw[hI2 v hv,hts];congr 1;rw[decide_eq_decide];constructor
   ·rintro⟨x,hx,h1,h2⟩;exact⟨x,List.mem_append_left _ hx,h1,h2⟩
   ·rintro⟨x,hx,h1,h2⟩
    rcases dH.1 hx with hx|hx
    ·exact⟨x,hx,h1,h2⟩
    ·rw[lJ]at hx;subst hx;rw[ho]at h1;cases h1
 ·rintro⟨om,qq⟩e hI;dsimp only at e hI ⊢;subst e;rw[l6,aR];rw[eM]at hI;exact Un hI
 ·rw[List.getElem?_replicate,aG hv];congr 1;exact(cD (λ⟨x,hx,_⟩=>by simp at hx)).symm
 intro o ho;refine Uo ho ?_<|λr hr=>hr.elim
 rintro⟨om,qq⟩⟨hol,hom⟩;dsimp only at hol hom ⊢;rw[hol];refine IT (oO 0 (by omega)) ?_;refine TZ (UE (n:=pcs.length+bs.length) (λst=>st.2) (λq st=>st.1=KJ (pcs.length+bs.length) (λx=>if x<q then((x:Nat):Int)else 0)) (Go:=λst=>G0 (pcs.length+bs.length) st.1<|λi=>i) (Rt:=λ_=>False) ?_ ?_ (cS _) rfl ?_ (by omega)) ?_
 ·rintro q⟨u,qq⟩hq e hI;dsimp only at e hI ⊢;subst e;subst hI;rw[uO,iR hq,aO];refine T6 (Ex hq)<|Uh ⟨bE (by omega),?_⟩
  dsimp only;rw[cO];refine KK (λ_=>by rw[aG (by omega)])<|λx _ hne=>?_
  by_cases h1:x<q
  ·rw[aG h1,aG (by omega)]
  ·rw[aI h1,aI (by omega)]
 ·rintro⟨u,qq⟩e hI;dsimp only at e hI ⊢;subst e;subst hI;rw[uO,l6,aR];refine Un ?_;exact yR λx hx=>by rw[aG hx]
 ·dsimp only;rw[M4];exact yR λx _=>by rw[aI (by omega)]
 intro o ho;refine Uo ho ?_<|λr hr=>hr.elim
 rintro⟨u0,qq0⟩h0;dsimp only at h0 ⊢;have htl:(cT bs pcs).length=bs.length:=by unfold cT;simp
 have hto:=yn (bs:=bs) (pcs:=pcs) (by omega);have omT:∀{v},v<pcs.length+bs.length->lX pcs.length fl v->om[v]? =some true:=λhv h=>by rw[hom _ hv,bY h]
 have omF:∀{v},v<pcs.length+bs.length->¬lX pcs.length fl v->om[v]? =some false:=λhv h=>by rw[hom _ hv,cD h]
 refine TZ (UE (n:=bs.length) (λst=>st.2) (λq st=>EI (pcs.length+bs.length) (Ha pcs.length (cT bs pcs) fl) (lX pcs.length fl) (λa b=>∃k l,k<q/\(cT bs pcs)[k]? =some l/\((a:Nat):Int)∈l/\b=pcs.length+k) st.1)
  (Go:=λst=>EI (pcs.length+bs.length) (Ha pcs.length (cT bs pcs) fl) (lX pcs.length fl) (λa b=>Lk pcs.length (cT bs pcs) a b) st.1) (Rt:=λ_=>False) ?_ ?_ (cS _) rfl
  ⟨_,_,h0,nv.id,xC.id _,λp hp=>(by cases hp),λi j⟨k,l,hk,_⟩=>by omega⟩ (by omega)) ?_
 ·rintro q⟨u,qq⟩hq e hI;dsimp only at e hI ⊢;subst e;rw[iR hq,aO];have hqx:(cT bs pcs)[q]? =some ((cT bs pcs)[q]'(by omega)):=aN _;have hqm:(cT bs pcs)[q]'(by omega)∈cT bs pcs:=cH _;generalize (cT bs pcs)[q]'(by omega)=T at hqx hqm;obtain⟨hl1,hl2⟩:=hto _ hqm;have hT:gS N (cT bs pcs) ((q:Nat):Int)=some T:=by
   unfold gS;rw[cG hqx];rfl
  refine IT hT ?_;rw[wrap_add (by omega)]
  refine TZ (UE (n:=T.length) (λst=>st.2) (λt st=>EI (pcs.length+bs.length) (Ha pcs.length (cT bs pcs) fl) (lX pcs.length fl) (λa b=>(∃k l,k<q/\(cT bs pcs)[k]? =some l/\((a:Nat):Int)∈l/\b=pcs.length+k)\/(((a:Nat):Int)∈T.take t/\b=pcs.length+q)) st.1)
   (Go:=λst=>EI (pcs.length+bs.length) (Ha pcs.length (cT bs pcs) fl) (lX pcs.length fl) (λa b=>(∃k l,k<q/\(cT bs pcs)[k]? =some l/\((a:Nat):Int)∈l/\b=pcs.length+k)\/(((a:Nat):Int)∈T/\b=pcs.length+q)) st.1) (Rt:=λ_=>False) ?_ ?_ (cS _) rfl
   (hI.mono λi j h=>by rcases h with h|⟨h,_⟩;exact h;simp at h) (by omega)) ?_
  ·rintro t⟨u,tt⟩ht e hJ;dsimp only at e hJ ⊢;subst e;rw[iR ht,aO];have htx:T[t]? =some T[t]:=aN ht;obtain⟨i,hi,e⟩:=hl2 _<|cH ht
   have hLk:Ha pcs.length (cT bs pcs) fl i (pcs.length+q):= .inl ⟨q,_,hqx,by rw[<-e];exact cH ht,rfl⟩;have hfin:∀s,EI (pcs.length+bs.length) (Ha pcs.length (cT bs pcs) fl) (lX pcs.length fl) (λa b=>((∃k l,k<q/\(cT bs pcs)[k]? =some l/\((a:Nat):Int)∈l/\b=pcs.length+k)\/(((a:Nat):Int)∈T.take t/\b=pcs.length+q))\/(a=i/\b=pcs.length+q)) s->
     EI (pcs.length+bs.length) (Ha pcs.length (cT bs pcs) fl) (lX pcs.length fl) (λa b=>(∃k l,k<q/\(cT bs pcs)[k]? =some l/\((a:Nat):Int)∈l/\b=pcs.length+k)\/(((a:Nat):Int)∈T.take (t+1)/\b=pcs.length+q)) s:=λs hs=>hs.mono λa b h=>by
    rw[dQ ht]at h
    rcases h with h|⟨h,hb⟩
    ·exact .inl<|.inl h
    ·rcases dH.1 h with h|h
     ·exact .inl<|.inr ⟨h,hb⟩
     ·rw[lJ,e]at h;exact .inr ⟨by omega,hb⟩
   by_cases hoq:lX pcs.length fl (pcs.length+q)
   ·refine IT (x:=false) (by rw[cG<|omT (by omega) hoq];rfl) ?_;rw[aR];exact Uh ⟨bE (by omega),hfin _<|hJ.skip<|.inr hoq⟩
   by_cases hoi:lX pcs.length fl i
   ·refine IT (x:=false) (by rw[cG<|omF (by omega) hoq,aB,kh,aO,cG htx,aB,e,cG<|omT (by omega) hoi];rfl) ?_;rw[aR];exact Uh ⟨bE (by omega),hfin _<|hJ.skip<|.inl hoi⟩
   ·refine IT (x:=true) (by rw[cG<|omF (by omega) hoq,aB,kh,aO,cG htx,aB,e,cG<|omF (by omega) hoi];rfl) ?_;rw[aO];refine TZ (T6 htx ?_)<|λs hs=>Uh ⟨bE (by omega),hfin s hs⟩
    rw[e];exact TZ (hJ.sI (by omega) (by omega) (by omega) (by omega) hLk hoi hoq)<|λs hs=>OF hs
  ·rintro⟨u,tt⟩e hJ;dsimp only at e hJ ⊢;subst e;rw[l6,aR];rw[eM]at hJ;exact Un hJ
  intro o ho;refine Uo ho (λst hst=>Uh ⟨bE (by omega),hst.mono λa b⟨k,l,hk,h1,h2,h3⟩=>?_⟩)<|λr hr=>hr.elim
  by_cases hkq:k<q
  ·exact .inl ⟨k,l,hkq,h1,h2,h3⟩
  ·have:k=q:=by omega
   subst this;rw[hqx]at h1;injection h1 with h1;subst h1
   exact .inr ⟨h2,h3⟩
 ·rintro⟨u,qq⟩e hI;dsimp only at e hI ⊢;subst e;rw[l6,aR];exact Un<|hI.mono λa b⟨k,l,h1,h2,h3⟩=>⟨k,l,by have:=(bQ.1 h1).1;omega,h1,h2,h3⟩
 intro o ho;refine Uo ho ?_<|λr hr=>hr.elim
 rintro⟨u1,qq1⟩h1;dsimp only at h1 ⊢
 refine TZ (UE (n:=fl.length) (λst=>st.2) (λq st=>EI (pcs.length+bs.length) (Ha pcs.length (cT bs pcs) fl) (lX pcs.length fl) (λa b=>Lk pcs.length (cT bs pcs) a b\/∃x∈fl.take q,x.Open=false/\x.A=((a:Nat):Int)/\x.B=((b:Nat):Int)) st.1)
  (Go:=λst=>EI (pcs.length+bs.length) (Ha pcs.length (cT bs pcs) fl) (lX pcs.length fl) (Ha pcs.length (cT bs pcs) fl) st.1) (Rt:=λ_=>False) ?_ ?_ (cS _) rfl
  (h1.mono λi j h=>h.elim id (λ⟨x,hx,_⟩=>by simp at hx)) (by omega)) ?_
 ·rintro q⟨u,qq⟩hq e hI;dsimp only at e hI ⊢;subst e;rw[iR hq,aO];have hx:fl[q]? =some fl[q]:=aN hq;have hxm:fl[q]∈fl:=cH hq;have hts:=dQ hq;generalize fl[q]=x at hx hxm hts
  cases ho:x.Open with
  |true=>
   refine IT (x:=false) (by rw[cG hx,aB,ho];rfl) ?_;rw[aR];refine Uh ⟨bE (by omega),hI.mono λa b h=>?_⟩;rw[hts]at h
   rcases h with h|⟨y,hy,g1,g2⟩
   ·exact .inl h
   ·rcases dH.1 hy with hy|hy
    ·exact .inr ⟨y,hy,g1,g2⟩
    ·rw[lJ]at hy;subst hy;rw[ho]at g1;cases g1
  |false=>
   obtain⟨i,k,e1,e2,e3,e4⟩:=hfl.br _ hxm ho;have hLk:Ha pcs.length (cT bs pcs) fl i k:= .inr ⟨x,hxm,ho,e1,e2⟩;have hfin:∀s,EI (pcs.length+bs.length) (Ha pcs.length (cT bs pcs) fl) (lX pcs.length fl) (λa b=>(Lk pcs.length (cT bs pcs) a b\/∃x∈fl.take q,x.Open=false/\x.A=((a:Nat):Int)/\x.B=((b:Nat):Int))\/(a=i/\b=k)) s->
     EI (pcs.length+bs.length) (Ha pcs.length (cT bs pcs) fl) (lX pcs.length fl) (λa b=>Lk pcs.length (cT bs pcs) a b\/∃x∈fl.take (q+1),x.Open=false/\x.A=((a:Nat):Int)/\x.B=((b:Nat):Int)) s:=λs hs=>hs.mono λa b h=>by
    rw[hts]at h
    rcases h with h|⟨y,hy,g1,g2,g3⟩
    ·exact .inl<|.inl h
    ·rcases dH.1 hy with hy|hy
     ·exact .inl<|.inr ⟨y,hy,g1,g2,g3⟩
     ·rw[lJ]at hy;subst hy;rw[e1]at g2;rw[e2]at g3;exact .inr ⟨by omega,by omega⟩
   by_cases hoi:lX pcs.length fl i
   ·refine IT (x:=false) (by rw[cG hx,aB,ho,kh,aO,aB,e1,cG<|omT (by omega) hoi];rfl) ?_;rw[aR];exact Uh ⟨bE (by omega),hfin _<|hI.skip<|.inl hoi⟩
   by_cases hok:lX pcs.length fl k
   ·refine IT (x:=false) (by rw[cG hx,aB,ho,kh,aO,aB,e1,cG<|omF (by omega) hoi,aB,kh,aO,aB,e2,cG<|omT (by omega) hok];rfl) ?_;rw[aR];exact Uh ⟨bE (by omega),hfin _<|hI.skip<|.inr hok⟩
   ·refine IT (x:=true) (by rw[cG hx,aB,ho,kh,aO,aB,e1,cG<|omF (by omega) hoi,aB,kh,aO,aB,e2,cG<|omF (by omega) hok];rfl) ?_;rw[aO];refine TZ (T6 hx<|T6 hx ?_)<|λs hs=>Uh ⟨bE (by omega),hfin s hs⟩
    rw[e1,e2];exact TZ (hI.join (by omega) (by omega) (by omega) (by omega) hLk hoi hok)<|λs hs=>OF hs
 ·rintro⟨u,qq⟩e hI;dsimp only at e hI ⊢;subst e;rw[l6,aR];rw[eM]at hI;exact Un hI
 intro o ho;refine Uo ho ?_<|λr hr=>hr.elim
 rintro⟨u2,qq2⟩⟨r2,E,v1,v2,v3,v4,v5⟩;dsimp only at v1 ⊢;have hC:Bl (pcs.length+bs.length) (N3 pcs.length (cT bs pcs) fl) r2:=
  ⟨λi j h=>(v5 i j h.1 h.2.1 h.2.2).elim (λh=>v2 (i,j) h) (λh=>(v2 (j,i) h).symm),λS hS i j hi hj=>v3 S (λp hp=>by
   obtain⟨g1,g2,g3⟩:=v4 p hp
   rcases g1 with g1|g1
   ·exact hS p.1 p.2 ⟨g1,g2,g3⟩
   ·exact(hS p.2 p.1 ⟨g1,g3,g2⟩).symm) i j hi hj⟩
 refine TZ (UE (n:=ls.length) (λst=>st.2) (λj st=>JW bs pcs fl ls r2 j st.1) (Go:=λst=>JW bs pcs fl ls r2 ls.length st.1) (Rt:=λ_=>False) ?_ ?_ (cS _) rfl ⟨rfl,λi l h=>by omega,λi l v h=>by omega⟩ (by omega)) ?_
 ·rintro j⟨W,jj⟩hj e I;dsimp only at e I ⊢;subst e;rw[iR hj,aO];have hx:ls[j]? =some ls[j]:=aN hj;have hWl:=I.len;have push:∀(c:Int),(lh bs pcs fl ls[j]=none->c = -1)->(∀v,lh bs pcs fl ls[j]=some v->c=((r2 v:Nat):Int))->JW bs pcs fl ls r2 (j+1) (W++[c]):=λc g1 g2=>by
   have hlast:(W++[c])[j]? =some c:=by rw[jJ (by omega),hWl];simp
   have hold:∀i,i<j->(W++[c])[i]? =W[i]? :=λi hi=>jI (by omega);refine⟨by rw[dX,hWl];rfl,λi l hi hil hn=>?_,λi l v hi hil hs=>?_⟩
   ·by_cases e:i=j
    ·subst e;rw[hx]at hil;injection hil with hil;subst hil;rw[hlast,g1 hn]
    ·rw[hold i (by omega)];exact I.no i l (by omega) hil hn
   ·by_cases e:i=j
    ·subst e;rw[hx]at hil;injection hil with hil;subst hil;rw[hlast,g2 v hs]
    ·rw[hold i (by omega)];exact I.yes i l v (by omega) hil hs
  refine T6 hx<|IT (FR hb hp hr ls[j] hN) ?_
  rw[KE<|hd ls[j]];dsimp only
  cases hh:qw bs pcs ls[j]with
  |none=>
   refine IT (x:=true) rfl ?_;rw[aO];refine TZ (UJ (by simp only[eI,List.length_nil];omega)<|OF rfl)<|λs hs=>Uh ⟨bE (by omega),?_⟩
   dsimp only;rw[<-hs];exact push _ (λ_=>rfl) (λv hv=>by unfold lh at hv;rw[hh]at hv;cases hv)
  |some h=>
   obtain⟨c1,c2⟩:=hnum<|B6 hh
   rw[Option.getD_some,Option.isSome_some]
   by_cases hop:lX pcs.length fl (dW pcs.length h)
   ·refine IT (x:=true) (by rw[ln,aR,c1,aB,cG<|omT c2 hop];rfl) ?_;rw[aO];refine TZ (UJ (by simp only[eI,List.length_nil];omega)<|OF rfl)<|λs hs=>Uh ⟨bE (by omega),?_⟩
    dsimp only;rw[<-hs];exact push _ (λ_=>rfl) (λv hv=>by unfold lh at hv;rw[hh,Option.bind_some,aG hop]at hv;cases hv)
   ·refine IT (x:=false) (by rw[ln,aR,c1,aB,cG<|omF c2 hop];rfl) ?_;rw[aR];refine TZ (IT c1<|T6 (v1.at c2)<|UJ (by simp only[eI,List.length_nil];omega)<|OF rfl)<|λs hs=>Uh ⟨bE (by omega),?_⟩
    dsimp only;rw[<-hs];refine push _ (λhn=>?_)<|λv hv=>?_
    ·unfold lh at hn;rw[hh,Option.bind_some,aI hop]at hn;cases hn
    ·unfold lh at hv;rw[hh,Option.bind_some,aI hop]at hv;injection hv with hv;rw[hv]
 ·rintro⟨W,jj⟩e I;dsimp only at e I ⊢;subst e;rw[l6,aR];exact Un I
 intro o ho;exact Uo ho (λst hst=>OF ⟨r2,hC,hst⟩)<|λr hr=>hr.elim
end
section
variable {N:Nat}{a:jO}{ke:List (List aA)}{cX:List (List (List aA))}{r:Nat->Nat}{gs:List bW}{ofP ofB jD:List Int}{ji:List eC}
theorem M9(b:jh a ke cX r gs ofP ofB jD ji){fl:List bN}(h0:sG a.aM (bM 0 cX).length fl=0)(hN:4398046511104<=N):
  ∃W,gj N a.aM a.bV ((bM 0 cX).map aD.cL) ((bM 0 cX).map aD.dY) (cT a.aM<|bM 0 cX) fl=some W/\W.length=a.bV.length/\∀i k,i<a.bV.length->k<a.bV.length->kf W i k=kf (wh N a cX jD ji fl) i k:=by
 have hf:=b.xG.2;have hlf:=b.zq.xG;obtain⟨h20,hok⟩:=CI h0;obtain⟨rW,W,w1,w2,w3⟩:=M8 (N:=N) (bs:=a.aM) (pcs:=bM 0 cX) (ls:=a.bV) (fl:=fl) hok (by omega) b.xD.gb (by omega) (λp hp=>⟨by have:=(sf b hp).1;omega,λx hx=>((sf b hp).2.1 x hx).2.1⟩) (by omega) (λl=>KF b l) hN;obtain⟨rC,c2,c3⟩:=M7 b h0 hN;have cW:Bl ((bM 0 cX).length+a.aM.length) (N3 (bM 0 cX).length (cT a.aM<|bM 0 cX) fl) rC:=⟨c2.co,c2.fi⟩;refine⟨W,w1,w3.len,λi k hi hk=>?_⟩;have hx:a.bV[i]? =some a.bV[i]:=aN hi;have hy:a.bV[k]? =some a.bV[k]:=aN hk;rw[jq,w3.conn hx hy,c3 hx hy];constructor
 ·rintro⟨u,v,g1,g2,g3⟩;exact⟨u,v,g1,g2,(w2.uniq cW (Bm g1)<|Bm g2).1 g3⟩
 ·rintro⟨u,v,g1,g2,g3⟩;exact⟨u,v,g1,g2,(w2.uniq cW (Bm g1)<|Bm g2).2 g3⟩
theorem CW{W:List Int}{i k:Nat}(hi:i<W.length)(hk:k<W.length):gE N W ((i:Nat):Int) ((k:Nat):Int)=some (kf W i k):=by
 grind [aN,gE,kf,cG,aB,decide]
end
end Go.Gk
