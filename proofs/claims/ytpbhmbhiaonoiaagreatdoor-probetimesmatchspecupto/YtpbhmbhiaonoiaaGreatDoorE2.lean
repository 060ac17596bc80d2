/-
  Helping texts: plain functions and plain laws. No statement of the seed is proved here.
-/
import Derived.Test.YtpbhmbhiaonoiaaGreatDoorE1
import Derived.Test.YtpbhmbhiaonoiaaGreatDoorA2
set_option linter.unusedVariables false
set_option linter.unusedSimpArgs false
set_option linter.unusedSectionVars false
namespace Go.Gk
open Go IntKind Classical
section
variable {N:Nat}
section
variable {α:Type}
def wc(P:α->Bool)(l:List α)(n:Nat):List Nat:=(List.range n).filter<|λk=>(l[k]?).any P
theorem GW{P:α->Bool}{l:List α}{n:Nat}{x:α}(h:l[n]? =some x):wc P l (n+1)=if P x=true then wc P l n++[n]else wc P l n:=by
 unfold wc;rw[List.range_succ,kJ]
 by_cases hp:P x=true
 ·rw[aC hp];simp[h,hp]
 ·rw[aD hp];simp[h,hp]
theorem Dh(P:α->Bool)(l:List α)(n:Nat):(wc P l n).length<=n:=by
 have:=oV (λk=>(l[k]?).any P)<|List.range n
 rw[List.length_range]at this;exact this
theorem IC{P:α->Bool}{l:List α}{n k:Nat}:k∈wc P l n↔k<n/\(l[k]?).any P=true:=by unfold wc;simp
theorem y4{β:Type}{l:List α}(P:α->Bool)(g:Nat->β):qc l.length (λk=>(l[k]?).bind λx=>if P x=true then some (g k)else none)=(l.findIdx? P).map g:=by
 cases h:l.findIdx? P with
 |none=>
  rw[List.findIdx?_eq_none_iff]at h;refine kb.2 λk hk=>?_;rw[aP hk];have:=h _<|cU hk
  simp[this]
 |some j=>
  obtain⟨hj,hp,hn⟩:=List.findIdx?_eq_some_iff_getElem.1 h;refine kc.2 ⟨j,hj,by rw[aP hj];simp[hp],λi hi=>?_⟩;rw[aP (by omega)];have:=hn i hi;simp[this]
end
def ints(l:List Nat):List Int:=l.map λi=>((i:Nat):Int)
theorem we(l m:List Nat):ints (l++m)=ints l++ints m:=eN
theorem pj(l:List Nat):(ints l).length=l.length:=dY _
theorem B0{l:List Nat}{x:Int}:x∈ints l↔∃i∈l,x=((i:Nat):Int):=by
 unfold ints;rw[cY];constructor
 ·rintro⟨i,h1,h2⟩;exact⟨i,h1,h2.symm⟩
 ·rintro⟨i,h1,h2⟩;exact⟨i,h1,h2.symm⟩
def HL(p0 p1:aH):Bool:=(((decide (p0.X0<p1.X1)&&decide (p1.X0<p0.X1))&&((p0.Y1==p1.Y0)||(p1.Y1==p0.Y0)))||((decide (p0.Y0<p1.Y1)&&decide (p1.Y0<p0.Y1))&&((p0.X1==p1.X0)||(p1.X1==p0.X0))))
def po(b:cJ)(p:aL):Bool:=b.jH&&(kV b p.fT&&p.qE.any (λr=>HL r<|vZ b))
def oR(bs:List cJ)(pcs:List aL):List (List Int):=bs.map λb=>ints<|wc (po b) pcs pcs.length
theorem sS{l:List aH}{φ:aH->Option Bool}(p:aH->Bool)(hl:l.length<=4611686018427387904)(h:∀x∈l,φ x=some (p x)):gX N l φ=some (l.any p):=
 tz p hl h
theorem J8{bs:List cJ}{pcs:List aL}(hb:nE bs)(hp:pcs.length<=1073741824)(hr:∀p∈pcs,p.qE.length<=1073741824):ki N bs pcs []=some (oR bs pcs):=by
 refine SJ ?_;have hbl:=hb.len;unfold ki;refine RP (SR (λk st=>st=oR (bs.take k) pcs) (by omega) rfl<|λk st hk e=>?_)<|λst e=>RJ (by rw[e,fS])
 subst e;have hg:=hb.ok _<|cU hk
 refine SA hk ?_;refine RP (P:=λt=>t=ints (wc (po bs[k]) pcs pcs.length)) (SR (λj t=>t=ints (wc (po bs[k]) pcs j)) (by omega) rfl<|λj t hj e=>?_)<|λt e=>?_
 ·subst e;have hjx:pcs[j]? =some pcs[j]:=aP hj;have hl:=Dh (po bs[k]) pcs j;refine R0 hjx ?_;refine RE (x:=po bs[k] pcs[j]) ?_ ?_
  ·unfold po
   cases bs[k].jH with
   |false=>rfl
   |true=>
    rw[aO,BW,aB,Bool.true_and]
    cases kV bs[k] pcs[j].fT with
    |false=>rfl
    |true=>
     rw[aO,sS (λr=>HL r (vZ bs[k])) (by have:=hr _ (cU hj);omega) (λr _=>by
      unfold ku;rw[na hg.1];rfl),aB,Bool.true_and]
  ·rw[GW hjx]
   cases ht:po bs[k] pcs[j]with
   |false=>rw[aQ,aD (by simp)];exact RE rfl (RJ rfl)
   |true=>
    rw[aO,aC rfl];refine RE (x:=ints (wc (po bs[k]) pcs j)++[((j:Nat):Int)]) (by rw[kR (by rw[pj];simp;omega),aB])<|RJ ?_
    rw[we];rfl
 ·subst e;refine SB ?_<|RJ ?_
  ·unfold oR;simp;omega
  ·unfold oR;rw[fq hk,eN];rfl
def FN(r:List aH)(p:cK):Bool:=r.any<|λx=>decide (p.X>=x.X0)&&(decide (p.X<x.X1)&&(decide (p.Y>=x.Y0)&&decide (p.Y<x.Y1)))
theorem y5{r:List aH}{p:cK}(hl:r.length<=4611686018427387904):kG N r p=some (FN r p):=by
 unfold kG
 rw[sS (λx=>decide (p.X>=x.X0)&&(decide (p.X<x.X1)&&(decide (p.Y>=x.Y0)&&decide (p.Y<x.Y1)))) hl (λx _=>by
  unfold lR
  cases decide (p.X>=x.X0) <;> cases decide (p.X<x.X1) <;> cases decide (p.Y>=x.Y0) <;> rfl)];rfl
def x5(l:dN)(b:cJ):Bool:=b.jH&&(kV b l.fT&&FN [vZ b] l.At)
def y6(l:dN)(p:aL):Bool:=(p.fT==l.fT)&&FN p.qE l.At
def sD(bs:List cJ)(pcs:List aL)(l:dN):Option gC:=match bs.findIdx? (x5 l)with
 |some k=>some ⟨true,((k:Nat):Int)⟩
 |none=>(pcs.findIdx? (y6 l)).map λk=>⟨false,((k:Nat):Int)⟩
theorem J9{bs:List cJ}{pcs:List aL}(hb:nE bs)(hp:pcs.length<=1073741824)(hr:∀p∈pcs,p.qE.length<=1073741824)(l:dN):
  kl N bs pcs l=some ((sD bs pcs l).getD ⟨false,0⟩,(sD bs pcs l).isSome):=by
 have hbl:=hb.len;unfold kl
 rw[rO (λk=>(bs[k]?).bind λx=>if x5 l x=true then some ((⟨true,((k:Nat):Int)⟩:gC),true)else none) (by omega) (λk hk _=>by
  have hkx:bs[k]? =some bs[k]:=aP hk;have hg:=hb.ok _<|cU hk
  rw[dS hkx,aB,hkx,na hg.1,aB,aB,y5 (by simp)];unfold x5
  cases bs[k].jH with
  |false=>rfl
  |true=>
   show(((bif kV bs[k] l.fT then _ else _:Option Bool)).bind _)=_
   cases kV bs[k] l.fT with
   |false=>rfl
   |true=>
    cases FN [vZ bs[k]] l.At <;> rfl),aB,y4 (x5 l) (λk=>((⟨true,((k:Nat):Int)⟩:gC),true))]
 unfold sD
 cases bs.findIdx? (x5 l)with
 |some k=>rfl
 |none=>
  show((si pcs.length _ ()).bind _)=_
  rw[rO (λk=>(pcs[k]?).bind λx=>if y6 l x=true then some ((⟨false,((k:Nat):Int)⟩:gC),true)else none) (by omega) (λk hk _=>by
   have hkx:pcs[k]? =some pcs[k]:=aP hk;rw[dS hkx,aB,hkx,aB,y5 (by have:=hr _<|cU hk;omega)];unfold y6
   cases pcs[k].fT==l.fT with
   |false=>rfl
   |true=>cases FN pcs[k].qE l.At <;> rfl),aB,y4 (y6 l) (λk=>((⟨false,((k:Nat):Int)⟩:gC),true))]
  cases pcs.findIdx? (y6 l) <;> rfl
def Lk(n:Nat)(tch:List (List Int))(i j:Nat):Prop:=∃(k:Nat)(l:List Int),tch[k]? =some l/\((i:Nat):Int)∈l/\j=n+k
structure CM (n m:Nat) (tch:List (List Int)) (r:Nat->Nat):Prop where
 le:∀i,i<n+m->r i<=i
 rr:∀i,i<n+m->r (r i)=r i
 co:∀i j,Lk n tch i j->r i=r j
 fi:∀S:Nat->Prop,(∀i j,Lk n tch i j->(S i↔S j))->∀i j,i<n+m->j<n+m->r i=r j->S i->S j
theorem Di{n m:Nat}{tch:List (List Int)}(hm:tch.length=m)(ht:∀l∈tch,l.length<=1073741824/\∀x∈l,∃i:Nat,i<n/\x=((i:Nat):Int))(hn:n<=1073741824)(hm2:m<=1073741824){up:List Int}(hu:UF (n+m) up (λi=>i))(hN:4398046511104<=N):
  Ok (nH tch.length (λ(k34:Nat)(s35:List Int)=>((idx tch (k34:Int)).bind λx89=>(nH x89.length (λ(k92:Nat)(s93:List Int)=>((idx x89 (k92:Int)).bind λx107=>(eF N s93 x107<|wrap .i64<|(n:Int)+(k34:Int)).bind λx109=>some x109:Option (List Int))) s35).bind λs93=>some s93:Option (List Int))) up)
   (λup'=>∃r,UF (n+m) up' r/\CM n m tch r):=by
 have base:Ok (nH tch.length (λ(k34:Nat)(s35:List Int)=>((idx tch (k34:Int)).bind λx89=>(nH x89.length (λ(k92:Nat)(s93:List Int)=>((idx x89 (k92:Int)).bind λx107=>(eF N s93 x107<|wrap .i64<|(n:Int)+(k34:Int)).bind λx109=>some x109:Option (List Int))) s35).bind λs93=>some s93:Option (List Int))) up)
   (λup'=>∃r E,UF (n+m) up' r/\qA r E/\AM (n+m) r E/\(∀p∈E,Lk n tch p.1 p.2)/\∀(k:Nat)l(i:Nat),k<tch.length->tch[k]? =some l->((i:Nat):Int)∈l->(i,n+k)∈E):=by
  refine SR (λq up'=>∃r E,UF (n+m) up' r/\qA r E/\AM (n+m) r E/\(∀p∈E,Lk n tch p.1 p.2)/\∀(k:Nat)l(i:Nat),k<q->tch[k]? =some l->((i:Nat):Int)∈l->(i,n+k)∈E) (by omega)
   ⟨_,_,hu,qA.id,AM.id _,λp hp=>(by cases hp),λk l i hk=>by omega⟩ (λq up' hq hI=>?_)
  obtain⟨r,E,h1,h2,h3,h4,h5⟩:=hI;have hqx:tch[q]? =some tch[q]:=aP hq;obtain⟨hl1,hl2⟩:=ht _<|cU hq
  refine R0 hqx ?_;rw[wrap_add (by omega)]
  refine RP (SR (λt up'=>∃r E,UF (n+m) up' r/\qA r E/\AM (n+m) r E/\(∀p∈E,Lk n tch p.1 p.2)/\(∀(k:Nat)l(i:Nat),k<q->tch[k]? =some l->((i:Nat):Int)∈l->(i,n+k)∈E)/\∀i:Nat,((i:Nat):Int)∈tch[q].take t->(i,n+q)∈E) (by omega)
   ⟨r,E,h1,h2,h3,h4,h5,λi hi=>by simp at hi⟩ (λt up' htl hI=>?_)) (λup' hI=>RJ ?_)
  ·obtain⟨r,E,h1,h2,h3,h4,h5,h6⟩:=hI;refine SA htl ?_;obtain⟨i,hi,e⟩:=hl2 _<|cU htl
   rw[e];obtain⟨u2,a1,a2⟩:=Le (N:=N) h1 (i:=i) (k:=n+q) (by omega) (by omega) (by omega);refine RE a1<|RJ ⟨_,_,a2,h2.join i (n+q)<|h1.rr i (by omega),h3.join (by omega) (by omega),λp hp=>?_,λk l j hk hl hj=>List.mem_append_left _<|h5 k l j hk hl hj,λj hj=>?_⟩
   ·rcases dH.1 hp with hp|hp
    ·exact h4 p hp
    ·simp at hp;subst hp;exact⟨q,tch[q],hqx,by rw[<-e];exact cU htl,rfl⟩
   ·rw[fq htl,dH]at hj
    rcases hj with hj|hj
    ·exact List.mem_append_left _<|h6 j hj
    ·rw[List.mem_singleton,e]at hj;have:j=i:=by omega
     subst this;simp
  ·obtain⟨r,E,h1,h2,h3,h4,h5,h6⟩:=hI;refine⟨r,E,h1,h2,h3,h4,λk l i hk hl hi=>?_⟩
   by_cases hkq:k<q
   ·exact h5 k l i hkq hl hi
   ·have:k=q:=by omega
    subst this;rw[hqx]at hl;injection hl with hl;subst hl
    exact h6 i (by rw[fS];exact hi)
 obtain⟨up',e,r,E,h1,h2,h3,h4,h5⟩:=base;have hE:∀i j,Lk n tch i j->(i,j)∈E:=λi j⟨k,l,hl,hi,hj⟩=>by
  rw[hj];exact h5 k l i (bA.1 hl).1 hl hi
 exact⟨up',e,r,h1,h1.le,h1.rr,λi j h=>h2 (i,j)<|hE i j h,λS hS i j hi hj=>h3 S (λp hp=>hS p.1 p.2<|h4 p hp) i j hi hj⟩
def CN(bs:List cJ)(j:Nat):Bool:=(bs[j]?).any<|λb=>b.jH
def gP(n:Nat)(c:List Nat):List Nat:=c.filter<|λi=>decide<|i<n
def gB(bs:List cJ)(n:Nat)(c:List Nat):List Nat:=(c.filter<|λi=> !decide (i<n)&&CN bs (i - n)).map<|λi=>i - n
def Ka(bs:List cJ)(n:Nat)(c:List Nat):Bool:=decide<|0<(gP n c).length+(gB bs n c).length
def Ra(bs:List cJ)(n:Nat)(c:List Nat):dD:=⟨ints<|gP n c,ints<|gB bs n c,[]⟩
theorem HM(n:Nat)(c:List Nat)(i:Nat):gP n (c++[i])=if i<n then gP n c++[i]else gP n c:=by
 unfold gP;rw[kJ];split <;> rename_i h <;> simp[h]
theorem HN(bs:List cJ)(n:Nat)(c:List Nat)(i:Nat):gB bs n (c++[i])=if i<n then gB bs n c else if CN bs (i - n)=true then gB bs n c++[i - n]else gB bs n c:=by
 unfold gB;rw[kJ,eN];split
 ·rename_i h;simp[h]
 ·rename_i h;split <;> rename_i h2 <;> simp[h,h2]
theorem Kb(n:Nat)(c:List Nat):(gP n c).length<=c.length:=oV _ _
theorem Kc(bs:List cJ)(n:Nat)(c:List Nat):(gB bs n c).length<=c.length:=by unfold gB;rw[dY];exact oV _ _
def live(bs:List cJ)(n t:Nat)(r:Nat->Nat)(hs:List Nat):List Nat:=hs.filter<|λh=>Ka bs n<|cls t r h
def uH(bs:List cJ)(n t:Nat)(r:Nat->Nat)(hs:List Nat):List dD:=(live bs n t r hs).map<|λh=>Ra bs n<|cls t r h
theorem ID(bs:List cJ)(n t:Nat)(r:Nat->Nat)(hs:List Nat)(h:Nat):live bs n t r (hs++[h])=if Ka bs n (cls t r h)=true then live bs n t r hs++[h]else live bs n t r hs:=by
 unfold live;rw[kJ];split <;> rename_i h2 <;> simp[h2]
theorem y7(bs:List cJ)(n t:Nat)(r:Nat->Nat)(hs:List Nat):(uH bs n t r hs).length=(live bs n t r hs).length:=by unfold uH;rw[dY]
def gi(bs:List cJ)(n t:Nat)(r:Nat->Nat)(h:Nat):Nat:=(live bs n t r<|(bW t r).takeWhile<|λx=>decide<|x≠h).length
theorem xo{l:List Nat}(hn:l.Nodup){k h:Nat}(hk:l[k]? =some h):l.takeWhile (λx=>decide<|x≠h)=l.take k:=by
 induction l generalizing k with
 |nil=>simp at hk
 |cons a l ih=>
  cases k with
  |zero=>simp at hk;subst hk;simp
  |succ k=>
   have hk:l[k]? =some h:=by simpa using hk
   have hne:a≠h:=λe=>(List.nodup_cons.1 hn).1 (by rw[e];exact gq hk);rw[List.takeWhile_cons,aC (by simpa using hne),List.take_succ_cons,ih (List.nodup_cons.1 hn).2 hk]
theorem y8(bs:List cJ)(n t:Nat)(r:Nat->Nat)(hs:List Nat):(live bs n t r hs).length<=hs.length:=oV _ _
theorem Kd{bs:List cJ}{n t:Nat}{r:Nat->Nat}{h:Nat}(hh:h∈bW t r)(hne:Ka bs n (cls t r h)=true):gi bs n t r h<(live bs n t r<|bW t r).length/\(live bs n t r<|bW t r)[gi bs n t r h]? =some h:=by
 obtain⟨k,hk⟩:=eO hh;have hkl:=(bA.1 hk).1;unfold gi;rw[xo (oQ t r) hk];have e:bW t r=(bW t r).take k++h::(bW t r).drop (k+1):=by
  have h1:=(List.take_append_drop k<|bW t r).symm;rw[sF hkl,(bA.1 hk).2]at h1;exact h1
 have e2:live bs n t r (bW t r)=live bs n t r ((bW t r).take k)++h::live bs n t r ((bW t r).drop<|k+1):=by
  conv=>lhs;rw[e]
  unfold live;rw[kJ,List.filter_cons,aC hne]
 constructor
 ·rw[e2];simp
 ·rw[e2];simp
end
section
variable {N:Nat}
theorem Dj{l:List Nat}(h:l.Nodup){i j a:Nat}(hi:l[i]? =some a)(hj:l[j]? =some a):i=j:=
 (List.getElem_inj (h₀:=(bA.1 hi).1) (h₁:=(bA.1 hj).1) h).1 (by rw[(bA.1 hi).2,(bA.1 hj).2])
theorem wN{n i k:Nat}{r:Nat->Nat}:i∈cls n r k↔i<n/\r i=k:=by unfold cls;simp
theorem IE(n:Nat)(r:Nat->Nat)(k:Nat):(cls n r k).Nodup:=List.Nodup.sublist List.filter_sublist List.nodup_range
structure OZ (bs:List cJ) (n m:Nat) (r:Nat->Nat) (hs:List Nat) (ofP ofB:List Int):Prop where
 lp:ofP.length=n
 lb:ofB.length=m
 pc:∀i,i<n->r i∈hs->ofP[i]? =some ((gi bs n (n+m) r (r i):Nat):Int)
 bo:∀j,j<m->r (n+j)∈hs->ofB[j]? =some (if CN bs j=true then((gi bs n (n+m) r (r<|n+j):Nat):Int)else -1)
theorem FO{bs:List cJ}{n m:Nat}{r:Nat->Nat}(hm:bs.length=m)(hn:n<=1073741824)(hm2:m<=1073741824){op ob:List Int}(hop:op.length=n)(hob:ob.length=m)
  {body:Nat->List dD×List Int×List Int->Option (List dD×List Int×List Int)}
  (hbody:body=(λ(k123:Nat)(s124:List dD×List Int×List Int)=>((idx (r8 (n+m) r) (k123:Int)).bind λx455=>(nH x455.length (λ(k458:Nat)(s459:List Int×List Int×List Int×List Int)=>((idx x455 (k458:Int)).bind λx556=>(bif decide (x556<(n:Int))then((idx s459.1 x556).bind λx580=>(app 8 s459.2.2.1 ([x556]:List Int)).bind λx582=>some (s459.1.set (Int.toNat x556) (s124.1.length:Int),s459.2.1,x582,s459.2.2.2))else((idx bs<|wrap .i64<|x556 -(n:Int)).bind λx584=>(bif x584.jH then((idx s459.2.1<|wrap .i64<|x556 -(n:Int)).bind λx594=>(app 8 s459.2.2.2 ([wrap .i64<|x556 -(n:Int)]:List Int)).bind λx596=>some (s459.2.1.set (Int.toNat<|wrap .i64<|x556 -(n:Int)) (s124.1.length:Int),x596))else((idx s459.2.1<|wrap .i64<|x556 -(n:Int)).bind λx598=>some (s459.2.1.set (Int.toNat<|wrap .i64<|x556 -(n:Int))<|-1,s459.2.2.2))).bind λs592=>some (s459.1,s592.1,s459.2.2.1,s592.2))).bind λs577=>some (s577.1,s577.2.1,s577.2.2.1,s577.2.2.2):Option (List Int×List Int×List Int×List Int))) (s124.2.1,s124.2.2,([]:List Int),([]:List Int))).bind λs459=>(bif decide (wrap .i64 ((s459.2.2.1.length:Int)+(s459.2.2.2.length:Int))>0)then((app 72 s124.1 [(⟨s459.2.2.1,s459.2.2.2,([]:List eA)⟩:dD)]).bind λx610=>some x610)else some s124.1).bind λs606=>some (s606,s459.1,s459.2.1):Option (List dD×List Int×List Int)))):
  Ok (nH (r8 (n+m) r).length body ([],op,ob)) (λst=>st.1=uH bs n (n+m) r (bW (n+m) r)/\OZ bs n m r (bW (n+m) r) st.2.1 st.2.2):=by
 subst hbody;have hsl:(r8 (n+m) r).length=(bW (n+m) r).length:=by unfold r8;simp
 have hhl:=pP (n+m) r;refine Ok.mono (SR (λ(k:Nat)(st:List dD×List Int×List Int)=>st.1=uH bs n (n+m) r ((bW (n+m) r).take k)/\OZ bs n m r ((bW (n+m) r).take k) st.2.1 st.2.2) (by omega) ⟨rfl,hop,hob,λi hi h=>by simp at h,λj hj h=>by simp at h⟩<|λk st hk hI=>?_) (λst h=>by rw[hsl,fS]at h;exact h);obtain⟨gs,ofP,ofB⟩:=st;obtain⟨e1,I⟩:=hI;dsimp only at e1 I ⊢;subst e1;rw[hsl]at hk;have hkx:(bW (n+m) r)[k]? =some (bW (n+m) r)[k]:=aP hk;have hts:(bW (n+m) r).take (k+1)=(bW (n+m) r).take k++[(bW (n+m) r)[k]]:=fq hk;have hgk:gi bs n (n+m) r (bW (n+m) r)[k]=(uH bs n (n+m) r<|(bW (n+m) r).take k).length:=by
  unfold gi;rw[xo (oQ _ _) hkx,y7]
 generalize hh:(bW (n+m) r)[k]=h at *;have hsx:(r8 (n+m) r)[k]? =some (ints<|cls (n+m) r h):=by unfold r8;rw[i5,hkx];rfl
 refine R0 hsx ?_;have hcl:=Ec (n+m) r h;rw[pj];have hgl:(uH bs n (n+m) r<|(bW (n+m) r).take k).length<=n+m:=by
  rw[y7];have:=y8 bs n (n+m) r<|(bW (n+m) r).take k
  rw[cQ]at this;omega
 have hold:∀i∈cls (n+m) r h,∀i',r i'∈(bW (n+m) r).take k->i≠i':=λi hi i' hi' e=>by
  subst e;rw[(wN.1 hi).2]at hi';obtain⟨j,hj⟩:=eO hi';have hjk:j<k:=by have:=(bA.1 hj).1;rw[cQ]at this;omega
  rw[List.getElem?_take_of_lt hjk]at hj;have:=Dj (oQ (n+m) r) hj hkx;omega
 refine RP (P:=λs'=>OZ bs n m r ((bW (n+m) r).take (k+1)) s'.1 s'.2.1/\s'.2.2.1=ints (gP n (cls (n+m) r h))/\s'.2.2.2=ints (gB bs n (cls (n+m) r h))) (Ok.mono (SR
  (λ(t:Nat)(s':List Int×List Int×List Int×List Int)=>OZ bs n m r ((bW (n+m) r).take k) s'.1 s'.2.1/\s'.2.2.1=ints (gP n ((cls (n+m) r h).take t))/\s'.2.2.2=ints (gB bs n ((cls (n+m) r h).take t))/\
   (∀i∈(cls (n+m) r h).take t,i<n->s'.1[i]? =some ((gi bs n (n+m) r h:Nat):Int))/\∀i∈(cls (n+m) r h).take t,¬i<n->s'.2.1[i - n]? =some (if CN bs (i - n)=true then((gi bs n (n+m) r h:Nat):Int)else -1)) (by omega)
   ⟨I,rfl,rfl,λi hi=>by simp at hi,λi hi=>by simp at hi⟩ (λt s' ht hI'=>?_)) ?_) ?_
 ·obtain⟨oP,oB,pp,bb⟩:=s';obtain⟨J,e2,e3,J1,J2⟩:=hI';dsimp only at J e2 e3 J1 J2 ⊢;subst e2;subst e3;have htx:(ints<|cls (n+m) r h)[t]? =some (((cls (n+m) r h)[t]:Nat):Int):=by unfold ints;rw[i5,aP ht];rfl
  refine R0 htx ?_;have htt:(cls (n+m) r h).take (t+1)=(cls (n+m) r h).take t++[(cls (n+m) r h)[t]]:=fq ht;have hcm:=cU ht;have hdist:∀i∈(cls (n+m) r h).take t,i≠(cls (n+m) r h)[t]:=λi hi e=>by
   obtain⟨j,hj⟩:=eO hi;have hjt:j<t:=by have:=(bA.1 hj).1;rw[cQ]at this;omega
   rw[List.getElem?_take_of_lt hjt]at hj;have:=Dj (IE (n+m) r h) hj (by rw[e];exact aP ht);omega
  generalize (cls (n+m) r h)[t]=c at *;obtain⟨hc1,hc2⟩:=wN.1 hcm;have hgp:=Kb n<|(cls (n+m) r h).take t
  have hgb:=Kc bs n<|(cls (n+m) r h).take t
  rw[cQ]at hgp hgb
  by_cases hcn:c<n
  ·rw[bL (by omega:((c:Nat):Int)<((n:Nat):Int)),aO];refine RP (P:=λx=>x=(oP.set c ((gi bs n (n+m) r h:Nat):Int),oB,ints (gP n<|(cls (n+m) r h).take t)++[((c:Nat):Int)],ints<|gB bs n<|(cls (n+m) r h).take t)) ?_ ?_
   ·refine SA (by rw[J.lp];exact hcn)<|SB (by rw[pj];simp;omega)<|RJ ?_
    rw[cI,hgk]
   ·rintro _ rfl;refine RJ ⟨⟨by simp[J.lp],J.lb,λi hi hr=>?_,J.bo⟩,?_,?_,λi hi hin=>?_,λi hi hin=>?_⟩
    ·dsimp only;rw[oj (by rw[J.lp];exact hcn),aD<|λe=>hold c hcm i hr e.symm];exact J.pc i hi hr
    ·dsimp only;rw[htt,HM,aC hcn,we];rfl
    ·dsimp only;rw[htt,HN,aC hcn]
    ·dsimp only;rw[oj (by rw[J.lp];exact hcn)];split
     ·rfl
     ·rename_i hne;rw[htt]at hi
      rcases dH.1 hi with hi|hi
      ·exact J1 i hi hin
      ·exact absurd (by simpa using hi) hne
    ·rw[htt]at hi
     rcases dH.1 hi with hi|hi
     ·exact J2 i hi hin
     ·have:i=c:=by simpa using hi
      subst this;exact absurd hcn hin
  ·rw[bO (by omega:¬((c:Nat):Int)<((n:Nat):Int)),aQ];have hw:wrap .i64 (((c:Nat):Int) -((n:Nat):Int))=((c - n:Nat):Int):=by rw[eU (by omega) (by omega)];omega
   have hcm2:c - n<bs.length:=by omega
   have hpl:CN bs (c - n)=bs[c - n].jH:=by unfold CN;rw[aP hcm2];rfl
   rw[hw];refine RP (P:=λx=>x=(oP,oB.set (c - n) (if CN bs (c - n)=true then((gi bs n (n+m) r h:Nat):Int)else -1),ints<|gP n<|(cls (n+m) r h).take t,ints<|gB bs n<|(cls (n+m) r h).take t++[c])) ?_ ?_
   ·refine SA hcm2 ?_;rw[HN,aD hcn,hpl]
    cases hp:bs[c - n].jH with
    |true=>
     rw[aO,aC rfl,aC rfl];refine RE (x:=(oB.set (c - n) ((gi bs n (n+m) r h:Nat):Int),ints<|gB bs n ((cls (n+m) r h).take t)++[c - n])) ?_<|RJ rfl
     rw[lj _ _ (by rw[J.lb];omega),aB,kR (by rw[pj];simp;omega),aB,cI,hgk,we];rfl
    |false=>
     rw[aQ,aD (by simp),aD (by simp)];refine RE (x:=(oB.set (c - n)<|-1,ints<|gB bs n<|(cls (n+m) r h).take t)) ?_<|RJ rfl
     rw[lj _ _ (by rw[J.lb];omega),aB,cI]
   ·rintro _ rfl;refine RJ ⟨⟨J.lp,by simp[J.lb],J.pc,λj hj hr=>?_⟩,?_,?_,λi hi hin=>?_,λi hi hin=>?_⟩
    ·dsimp only;rw[oj (by rw[J.lb];omega),aD<|λe=>hold c hcm (n+j) hr (by omega)];exact J.bo j hj hr
    ·dsimp only;rw[htt,HM,aD hcn]
    ·dsimp only;rw[htt]
    ·rw[htt]at hi
     rcases dH.1 hi with hi|hi
     ·exact J1 i hi hin
     ·have:i=c:=by simpa using hi
      subst this;exact absurd hin hcn
    ·dsimp only;rw[oj (by rw[J.lb];omega)];split
     ·rename_i e;rw[e]
     ·rename_i hne;rw[htt]at hi
      rcases dH.1 hi with hi|hi
      ·exact J2 i hi hin
      ·exact absurd (by have:i=c:=(by simpa using hi);rw[this]) hne
 ·rintro⟨oP,oB,pp,bb⟩⟨J,e2,e3,J1,J2⟩;dsimp only at J e2 e3 J1 J2 ⊢;rw[fS]at e2 e3 J1 J2;refine⟨⟨J.lp,J.lb,λi hi hr=>?_,λj hj hr=>?_⟩,e2,e3⟩
  ·rw[hts]at hr
   rcases dH.1 hr with hr|hr
   ·exact J.pc i hi hr
   ·have hr:r i=h:=by simpa using hr
    rw[hr];exact J1 i (wN.2 ⟨by omega,hr⟩) hi
  ·rw[hts]at hr
   rcases dH.1 hr with hr|hr
   ·exact J.bo j hj hr
   ·have hr:r (n+j)=h:=by simpa using hr
    rw[hr];have:=J2 (n+j) (wN.2 ⟨by omega,hr⟩) (by omega);rwa[Nat.add_sub_cancel_left]at this
 ·rintro⟨oP,oB,pp,bb⟩⟨J,e2,e3⟩;dsimp only at J e2 e3 ⊢;subst e2;subst e3;have hgp:=Kb n<|cls (n+m) r h
  have hgb:=Kc bs n<|cls (n+m) r h
  rw[pj,pj,wrap_add (by omega)];have hgs:uH bs n (n+m) r ((bW (n+m) r).take<|k+1)=if Ka bs n (cls (n+m) r h)=true then uH bs n (n+m) r ((bW (n+m) r).take k)++[Ra bs n<|cls (n+m) r h]else uH bs n (n+m) r ((bW (n+m) r).take k):=by
   unfold uH;rw[hts,ID];split
   ·rw[eN];rfl
   ·rfl
  refine RP (P:=λx=>x=uH bs n (n+m) r ((bW (n+m) r).take<|k+1)) (R9 (λhb=>?_)<|λhb=>RJ ?_)<|λx e=>RJ ⟨e,J⟩
  ·have hne:Ka bs n (cls (n+m) r h)=true:=bL (by have:=of_decide_eq_true hb;omega);refine SB (by simp;omega)<|RJ ?_
   rw[hgs,aC hne];rfl
  ·have hne:¬Ka bs n (cls (n+m) r h)=true:=λh'=>by
    have h1:=of_decide_eq_true h';have h2:=of_decide_eq_false hb;omega
   rw[hgs,aD hne]
end
section
variable {N:Nat}
def j5(n:Nat)(h:gC):Nat:=if h.cJ=true then n+h.Number.toNat else h.Number.toNat
structure L9 (bs:List cJ) (n m:Nat) (h:gC):Prop where
 num:∃k:Nat,h.Number=((k:Nat):Int)/\(h.cJ=true->k<m/\CN bs k=true)/\(h.cJ=false->k<n)
theorem GX{bs:List cJ}{pcs:List aL}{l:dN}{h:gC}(hh:sD bs pcs l=some h):L9 bs pcs.length bs.length h:=by
 unfold sD at hh
 cases hf:bs.findIdx? (x5 l)with
 |some k=>
  rw[hf]at hh;injection hh with hh;subst hh
  obtain⟨hk,hp,_⟩:=List.findIdx?_eq_some_iff_getElem.1 hf;refine⟨k,rfl,λ_=>⟨hk,?_⟩,λh=>by cases h⟩;unfold x5 at hp;unfold CN;rw[aP hk];rw[bT]at hp;exact hp.1
 |none=>
  rw[hf]at hh;dsimp only at hh;rw[Option.map_eq_some_iff]at hh;obtain⟨k,hk,rfl⟩:=hh;obtain⟨hk,_⟩:=List.findIdx?_eq_some_iff_getElem.1 hk;exact⟨k,rfl,λh=>(by cases h),λ_=>hk⟩
def y9(bs:List cJ)(pcs:List aL)(r:Nat->Nat)(l:dN):Option Nat:=(sD bs pcs l).map λh=>gi bs pcs.length (pcs.length+bs.length) r<|r<|j5 pcs.length h
def IX(bs:List cJ)(pcs:List aL)(r:Nat->Nat)(l:dN):Int:=match y9 bs pcs r l with|some g=>((g:Nat):Int)|none=> -1
def kq(gs:List dD)(lg:dN->Option Nat)(ls:List dN):List dD:=gs.mapIdx<|λg x=>{x with kB:=(ls.filter<|λl=>decide<|lg l=some g).map jV}
theorem lZ{gs:List dD}{lg:dN->Option Nat}{ls:List dN}{g:Nat}:(kq gs lg ls)[g]? =(gs[g]?).map λx=>{x with kB:=(ls.filter<|λl=>decide<|lg l=some g).map jV}:=by
 unfold kq;rw[List.getElem?_mapIdx]
theorem Eg(gs:List dD)(lg:dN->Option Nat)(ls:List dN):(kq gs lg ls).length=gs.length:=by unfold kq;rw[List.length_mapIdx]
theorem CO{gs:List dD}{lg:dN->Option Nat}{ls:List dN}{l:dN}(h:lg l=none):kq gs lg (ls++[l])=kq gs lg ls:=by
 apply List.ext_getElem?;intro g;rw[lZ,lZ];congr 2;funext x;rw[kJ];simp[h]
theorem Eh{gs:List dD}{lg:dN->Option Nat}{ls:List dN}{l:dN}{k:Nat}{x:dD}(h:lg l=some k)(hx:(kq gs lg ls)[k]? =some x):
  (kq gs lg ls).set k {x with kB:=x.kB++[jV l]}=kq gs lg (ls++[l]):=by
 apply List.ext_getElem?;intro g;have hk:=(bA.1 hx).1;rw[fA]
 by_cases e:k=g
 ·subst e;rw[aC rfl,aC hk,lZ];rw[lZ,Option.map_eq_some_iff]at hx;obtain⟨y,hy,rfl⟩:=hx;rw[hy,kJ];simp[h]
 ·rw[aD e,lZ,lZ];congr 2;funext x;rw[kJ];have:¬(lg l=some g):=by rw[h];intro h';injection h' with h';exact e h'
  simp[this]
theorem Ma{bs:List cJ}{n t:Nat}{r:Nat->Nat}{i:Nat}(hi:i<n)(ht:i<t):Ka bs n (cls t r<|r i)=true:=by
 unfold Ka;rw[bF];have:i∈gP n (cls t r<|r i):=k9.2 ⟨wN.2 ⟨ht,rfl⟩,by simpa using hi⟩;have:=List.length_pos_of_mem this;omega
theorem Mb{bs:List cJ}{n t:Nat}{r:Nat->Nat}{j:Nat}(hp:CN bs j=true)(ht:n+j<t):Ka bs n (cls t r<|r<|n+j)=true:=by
 unfold Ka;rw[bF];have:j∈gB bs n (cls t r<|r<|n+j):=cY.2 ⟨n+j,k9.2 ⟨wN.2 ⟨ht,rfl⟩,by simp[hp]⟩,by omega⟩;have:=List.length_pos_of_mem this;omega
structure GY (bs:List cJ) (ls:List dN) (pcs:List aL) (r:Nat->Nat) (gs:List dD) (ofP ofB qM:List Int) (qB:List gC):Prop where
 conn:CM pcs.length bs.length (oR bs pcs) r
 gs:gs=kq (uH bs pcs.length (pcs.length+bs.length) r<|bW (pcs.length+bs.length) r) (y9 bs pcs r) ls
 of:OZ bs pcs.length bs.length r (bW (pcs.length+bs.length) r) ofP ofB
 qM:qM=ls.map (IX bs pcs r)
 qB:qB=ls.map (λl=>(sD bs pcs l).getD ⟨false,0⟩)
theorem FP{bs:List cJ}{pcs:List aL}(hp:pcs.length<=1073741824):∀l∈oR bs pcs,l.length<=1073741824/\∀x∈l,∃i:Nat,i<pcs.length/\x=((i:Nat):Int):=by
 intro l hl;unfold oR at hl;obtain⟨b,_,rfl⟩:=cY.1 hl;have:=Dh (po b) pcs pcs.length;refine⟨by rw[pj];omega,λx hx=>?_⟩;obtain⟨i,hi,rfl⟩:=B0.1 hx;exact⟨i,(IC.1 hi).1,rfl⟩
theorem Ei{bs:List cJ}{ls:List dN}{pcs:List aL}(hb:nE bs)(hp:pcs.length<=1000000000)(hr:∀p∈pcs,p.qE.length<=1073741824)(hl:ls.length<=1073741824)(hN:4398046511104<=N):
  Ok (gv N bs ls pcs (oR bs pcs) [] [] [] []) (λx=>∃r,GY bs ls pcs r x.1 x.2.1 x.2.2.1 x.2.2.2.1 x.2.2.2.2):=by
 have hbl:=hb.len;unfold gv;rw[wrap_add (by omega)];obtain⟨up0,u1,u2⟩:=Ao (N:=N) (n:=pcs.length+bs.length) (by omega);refine RE u1 ?_;refine RP (Di (n:=pcs.length) (m:=bs.length) (by unfold oR;simp) (FP (by omega)) (by omega) (by omega) u2 hN) ?_;rintro up1⟨r,v1,v2⟩;refine RE (rf 0 (by omega))<|RE (rf 0 (by omega)) ?_
 obtain⟨up2,w1,_⟩:=Lg (N:=N) v1 (by omega) (by omega);refine RE w1 ?_;refine RP (FO (bs:=bs) (n:=pcs.length) (m:=bs.length) (r:=r) rfl (by omega) (by omega) (op:=List.replicate pcs.length 0) (ob:=List.replicate bs.length 0) (by simp) (by simp) rfl) ?_;rintro⟨gs,ofP,ofB⟩⟨e1,I⟩;dsimp only at e1 I ⊢;subst e1;have hgl:(uH bs pcs.length (pcs.length+bs.length) r<|bW (pcs.length+bs.length) r).length<=pcs.length+bs.length:=by
  rw[y7];have:=y8 bs pcs.length (pcs.length+bs.length) r<|bW (pcs.length+bs.length) r
  have:=pP (pcs.length+bs.length) r;omega
 refine RP (SR (λ(k:Nat)(st:List dD×List Int×List Int×List Int×List gC)=>st=(kq (uH bs pcs.length (pcs.length+bs.length) r<|bW (pcs.length+bs.length) r) (y9 bs pcs r)<|ls.take k,ofP,ofB,(ls.take k).map<|IX bs pcs r,(ls.take k).map<|λl=>(sD bs pcs l).getD ⟨false,0⟩)) (by omega) ?_<|λk st hk e=>?_) ?_
 ·congr 1;unfold kq;apply List.ext_getElem?;intro g;rw[List.getElem?_mapIdx];unfold uH;rw[i5]
  cases(live bs pcs.length (pcs.length+bs.length) r<|bW (pcs.length+bs.length) r)[g]? <;> rfl
 ·subst e;dsimp only;have hts:ls.take (k+1)=ls.take k++[ls[k]]:=fq hk;refine SA hk<|RE (J9 hb (by omega) hr _) ?_
  dsimp only;refine RP (P:=λx=>x=(kq (uH bs pcs.length (pcs.length+bs.length) r<|bW (pcs.length+bs.length) r) (y9 bs pcs r)<|ls.take k++[ls[k]],IX bs pcs r ls[k])) ?_ ?_
  ·cases hh:sD bs pcs ls[k]with
   |none=>
    refine RJ ?_;have h1:y9 bs pcs r ls[k]=none:=by unfold y9;rw[hh];rfl
    rw[CO h1];unfold IX;rw[h1]
   |some h=>
    have h1:y9 bs pcs r ls[k]=some (gi bs pcs.length (pcs.length+bs.length) r<|r<|j5 pcs.length h):=by unfold y9;rw[hh];rfl
    have h2:IX bs pcs r ls[k]=((gi bs pcs.length (pcs.length+bs.length) r (r<|j5 pcs.length h):Nat):Int):=by unfold IX;rw[h1]
    obtain⟨q,q1,q2,q3⟩:=(GX hh).num;have hix:j5 pcs.length h<pcs.length+bs.length/\Ka bs pcs.length (cls (pcs.length+bs.length) r<|r<|j5 pcs.length h)=true/\iq N ofP ofB h=some ((gi bs pcs.length (pcs.length+bs.length) r (r<|j5 pcs.length h):Nat):Int):=by
     unfold iq j5;rw[q1,cI]
     cases hbo:h.cJ with
     |true=>
      obtain⟨q4,q5⟩:=q2 hbo;rw[aO,aC rfl];refine⟨by omega,Mb q5 (by omega),?_⟩;have:=I.bo q q4<|jE.2 ⟨by have:=v2.le (pcs.length+q) (by omega);omega,v2.rr _ (by omega)⟩
      rw[aC q5]at this;rw[dS this,aB]
     |false=>
      have q4:=q3 hbo;rw[aQ,aD (by simp)];refine⟨by omega,Ma q4 (by omega),?_⟩;have:=I.pc q q4<|jE.2 ⟨by have:=v2.le q (by omega);omega,v2.rr _ (by omega)⟩
      rw[dS this,aB]
    obtain⟨i1,i2,i3⟩:=hix;have hgi:=Kd (r:=r) (t:=pcs.length+bs.length) (bs:=bs) (n:=pcs.length) (h:=r<|j5 pcs.length h) (jE.2 ⟨by have:=v2.le _ i1;omega,v2.rr _ i1⟩) i2;have hgx:gi bs pcs.length (pcs.length+bs.length) r (r<|j5 pcs.length h)<(kq (uH bs pcs.length (pcs.length+bs.length) r<|bW (pcs.length+bs.length) r) (y9 bs pcs r)<|ls.take k).length:=by
     rw[Eg,y7];exact hgi.1
    rw[h2];dsimp only[Option.getD,Option.isSome];rw[aO];refine RE i3 ?_;generalize gi bs pcs.length (pcs.length+bs.length) r (r<|j5 pcs.length h)=g at *;refine SA hgx<|RE (zY _) ?_
    have hpl:((kq (uH bs pcs.length (pcs.length+bs.length) r<|bW (pcs.length+bs.length) r) (y9 bs pcs r)<|ls.take k)[g]).kB.length<=ls.length:=by
     have:=lZ (gs:=uH bs pcs.length (pcs.length+bs.length) r<|bW (pcs.length+bs.length) r) (lg:=y9 bs pcs r) (ls:=ls.take k) (g:=g);rw[aP hgx]at this;have:=this.symm;rw[Option.map_eq_some_iff]at this;obtain⟨y,_,hy⟩:=this;rw[<-hy,dY];have:=oV (λl=>decide<|y9 bs pcs r l=some g)<|ls.take k
     rw[cQ]at this;omega
    refine SB (by simp;omega)<|SA hgx<|RJ ?_
    rw[cI];congr 1;exact Eh h1<|aP hgx
  ·rintro _ rfl;dsimp only;refine SB (by simp;omega)<|SB (by simp;omega)<|RJ ?_
   rw[hts,eN,eN];rfl
 ·rintro st rfl;dsimp only;rw[fS];exact RJ ⟨r,v2,rfl,I,rfl,rfl⟩
end
section
variable {N:Nat}
theorem Dk{p:aL}:∀{gH:List (List<|List aA)}{k:Nat},p∈eG k gH->∃(i:Nat)(ps:List (List aA))(q:List aA),gH[i]? =some ps/\q∈ps/\p= ⟨((k+i:Nat):Int),q,aR q⟩
 | [],k,h=>by cases h
 |ps::gH,k,h=>by
  rcases dH.1 h with h|h
  ·obtain⟨q,hq,rfl⟩:=cY.1 h;exact⟨0,ps,q,rfl,hq,rfl⟩
  ·obtain⟨i,ps',q,h1,h2,h3⟩:=Dk h;refine⟨i+1,ps',q,by simpa using h1,h2,?_⟩;rw[h3,show k+1+i=k+(i+1)by omega]
structure pT (a:gm):Prop where
 BZ:0<a.aJ.length/\a.aJ.length<=16
 Rb:∀r∈a.aJ,iZ r=0
 out:iZ a.cT=0
 many:a.cT.length+(a.aJ.map List.length).sum<=2000
 za:iV a=0
 xp:lJ a=0
theorem pT.gb{a:gm}(h:pT a):nE a.aU:=⟨(mw h.za).1,λb hb=>⟨((mw h.za).2 b hb).1,((mw h.za).2 b hb).2.1⟩⟩
theorem pT.cs{a:gm}(h:pT a):∀r∈a.aJ,r.length<=2000/\∀x∈r,C9 x:=λr hr=>Ef (sR.1<|h.Rb r hr).1
structure zb (a:gm) (me:List (List aA)) (gH:List (List (List aA))) (p:aL) (i:Nat) (r:List aH) (s:List aA) (ps:List (List aA)) (u:Nat->Nat) (j k:Nat):Prop where
 Rv:a.aJ[i]? =some r
 me:me[i]? =some s
 gH:gH[i]? =some ps
 dr:uG r (kW a.aU ((i:Nat):Int)) s
 pt:sO s u ps
 at_:ps[j]? =some p.Set
 head:(bW (aR s).length u)[j]? =some k
 set:r7 (nN (aR s) (aR s).length u k) p.Set
 lim:yb (tQ r++tQ (kW a.aU ((i:Nat):Int))) (jm r++jm (kW a.aU ((i:Nat):Int))) (p.Set.map bY)
 O0:p.fT=((i:Nat):Int)
 O1:p.qE=aR p.Set
theorem Ke{a:gm}{me:List (List aA)}{gH:List (List<|List aA)}(hg:pT a)(hD:v9 a.aJ a.aU a.aJ.length me gH){p:aL}(hp:p∈eG 0 gH):∃i r s ps u j k,zb a me gH p i r s ps u j k:=by
 obtain⟨i,ps,q,h1,h2,rfl⟩:=Dk hp;have hil:i<a.aJ.length:=by have:=(bA.1 h1).1;rw[hD.CL]at this;exact this
 have hc:a.aJ[i]? =some a.aJ[i]:=aP hil;have hd:me[i]? =some (me[i]'(by rw[hD.len];exact hil)):=aP _;have hdr:=hD.dr i _ _ hil hc hd;obtain⟨u,hu⟩:=hD.pt i _ ps hil hd h1;obtain⟨sx,sy⟩:=hdr.small (hg.cs _<|cU hil).2<|λx hx=>(v8 hg.gb _ x hx).1
 obtain⟨j,k,g1,g2,g3,g4⟩:=BX hu hdr.can hdr.lim sx sy h2;exact⟨i,_,_,ps,u,j,k,hc,hd,h1,hdr,hu,g1,g2,g3,g4,by rw[iO],rfl⟩
theorem zb.FK{a:gm}{me:List (List aA)}{gH:List (List<|List aA)}(hg:pT a){p:aL}{i:Nat}{r:List aH}{s:List aA}{ps:List (List aA)}{u:Nat->Nat}{j k:Nat}(h:zb a me gH p i r s ps u j k):
  p.Set.length<=5000/\(∀b∈p.Set,b.Xs.length<=5000)/\p.qE.length<=5000*5000:=by
 have h1:=(hg.cs r<|gq h.Rv).1;have h2:=zZ hg.gb ((i:Nat):Int);rw[h.O1];exact wM (A:=5000) h.set.can h.lim (by rw[dF,ma,ma];omega) (by rw[dF,jw,jw];omega)
def zc(a0 a1 b0 b1:Int):Bool:=decide (b0<a1)&&decide (a0<b1)
def FQ(a b:aH):Bool:=zc a.X0 a.X1 b.X0 b.X1&&zc a.Y0 a.Y1 b.Y0 b.Y1
theorem B1{a0 a1 b0 b1:Int}(h1: -1000000<=a0/\a0<=1000000)(h2: -1000000<=a1/\a1<=1000000)(h3: -1000000<=b0/\b0<=1000000)(h4: -1000000<=b1/\b1<=1000000):∃n,mm N a0 a1 b0 b1=some n/\0<=n/\(n=0↔zc a0 a1 b0 b1=true):=by
 unfold mm zc;have e1:wrap .i64 (b0 - a1)=b0 - a1:=eU (by omega) (by omega);have e2:wrap .i64 (a0 - b1)=a0 - b1:=eU (by omega) (by omega);have e3:wrap .i64 (b0 - a1+1)=b0 - a1+1:=eU (by omega) (by omega);have e4:wrap .i64 (a0 - b1+1)=a0 - b1+1:=eU (by omega) (by omega);rw[e1,e2,e3,e4];refine⟨_,rfl,?_,?_⟩
 ·repeat' split
  all_goals omega
 ·rw[bT,bF,bF]
  repeat' split
  all_goals omega
theorem MW{a b:aH}(h1:fK a=true)(h2:fK b=true):∃n,tr N a b=some n/\(n=0↔FQ a b=true):=by
 have b1:=nb h1;have b2:=nb h2;obtain⟨n,n1,n2,n3⟩:=B1 (N:=N) (a0:=a.X0) (a1:=a.X1) (b0:=b.X0) (b1:=b.X1) (by omega) (by omega) (by omega) (by omega);obtain⟨m,m1,m2,m3⟩:=B1 (N:=N) (a0:=a.Y0) (a1:=a.Y1) (b0:=b.Y0) (b1:=b.Y1) (by omega) (by omega) (by omega) (by omega);unfold tr FQ;rw[n1,aB,m1,aB];refine⟨_,rfl,?_⟩;rw[bT,<-n3,<-m3];split <;> omega
def r9(x y:cJ):Bool:=(decide (x.cL<=y.To)&&decide (y.cL<=x.To))&&FQ (vZ x) (vZ y)
def qN(a:gm):Prop:=∃(i k:Nat)(x y:cJ),k<i/\a.aU[i]? =some x/\a.aU[k]? =some y/\r9 x y=true
noncomputable def tU(r:List aH):Option Int:=if iZ r≠0 then some (iZ r)else none
noncomputable def CP(a:gm):Int:=if 2000<a.cT.length+(a.aJ.map List.length).sum then 2 else if iV a≠0 then iV a else if lJ a≠0 then lJ a else if qN a then 12 else 0
noncomputable def IF(a:gm):Int:=match a.aJ.findSome? tU with|some e=>e|none=>if iZ a.cT≠0 then iZ a.cT else CP a
noncomputable def jW(a:gm):Int:=if a.aJ.length=0 then 9 else if 16<a.aJ.length then 2 else IF a
def Na(me:List (List aA))(gH:List (List<|List aA)):Prop:=(∀s∈me,(aR s).length<=2000)/\(eG 0 gH).length<=2000
abbrev B2:=List (List aH)×List aH×List cJ×List dN×List (List aA)×List aL×List (List Int)×List dD×List Int×List Int×List Int×List gC
def Mc(a:gm)(x:Option B2×Int):Prop:=
 (jW a≠0/\x=(none,jW a))\/(jW a=0/\pT a/\¬qN a/\∃me gH,v9 a.aJ a.aU a.aJ.length me gH/\
  ((¬Na me gH/\x=(none,2))\/(Na me gH/\∃r gs ofP ofB qM qB,GY a.aU a.bJ (eG 0 gH) r gs ofP ofB qM qB/\
   x=(some (a.aJ,a.cT,a.aU,a.bJ,me,eG 0 gH,oR a.aU (eG 0 gH),gs,ofP,ofB,qM,qB),0))))
structure tV (a:gm):Prop where
 cs:a.aJ.length<=1048576
 each:∀r∈a.aJ,r.length<=1048576
 out:a.cT.length<=1048576
 bs:a.aU.length<=1048576
 ls:a.bJ.length<=1048576
 nm:BV a
theorem FR{a:gm}(h:bk a<=1048576):tV a:=by
 rw[JQ]at h;have h1:=vD a.aJ;have h2:=vD a.cT;have h3:=vD a.aU;have h4:=vD a.bJ;refine⟨by omega,λr hr=>?_,by omega,by omega,by omega,λx hx=>?_⟩
 ·have:=GG hr;have:=vD r;omega
 ·have:=GG hx;rw[HA,JM,JM]at this;omega
theorem z5{a:gm}(hs:tV a)(hN:4398046511104<=N):Ok (ir N a) (Mc a):=by
 unfold ir;have pe:∀e:Int,e≠0->jW a=e->Ok (some ((none:Option B2),e)) (Mc a):=λe he h=>RJ<|.inl ⟨by rw[h];exact he,by rw[h]⟩
 have c1:=hs.cs;refine R9 (λh=>?_)<|λh=>?_
 ·have:a.aJ.length=0:=by have:=beq_iff_eq.1 h;omega
  exact pe 9 (by omega) (by unfold jW;rw[aC this])
 have h0:¬a.aJ.length=0:=by rw[beq_eq_false_iff_ne]at h;omega
 refine R9 (λh=>?_)<|λh=>?_
 ·have h1:16<a.aJ.length:=by have:=of_decide_eq_true h;omega
  exact pe 2 (by omega) (by unfold jW;rw[aD h0,aC h1])
 have h1:¬16<a.aJ.length:=by have:=of_decide_eq_false h;omega
 have pe1:jW a=IF a:=by unfold jW;rw[aD h0,aD h1]
 have hso:=hs.out;have sumle:∀k,k<=a.aJ.length->((a.aJ.take k).map List.length).sum<=k*1048576:=by
  intro k
  induction k with
  |zero=>intro _;simp
  |succ k ih=>
   intro hk;have:=ih (by omega);have h2:=hs.each _<|cU (show k<a.aJ.length by omega)
   rw[fq (by omega),eN,List.sum_append];simp only[dT,List.map_nil,List.sum_cons,List.sum_nil];rw[Nat.add_mul];omega
 refine RP (Tu (Go:=λs:Int=>s=((a.cT.length+(a.aJ.map List.length).sum:Nat):Int)/\∀r∈a.aJ,iZ r=0) (Rt:=λx:Option B2×Int=>∃e,e≠0/\x=(none,e)/\a.aJ.findSome? tU=some e)
  (λ(k:Nat)(s:Int)=>s=((a.cT.length+((a.aJ.take k).map List.length).sum:Nat):Int)/\∀r∈a.aJ.take k,iZ r=0) (by omega) ⟨by simp,λr hr=>by simp at hr⟩ (λk s hk hI=>?_) (λs hI=>by rw[fS]at hI;exact hI)) ?_
 ·obtain⟨e,hI⟩:=hI;subst e;have hkx:a.aJ[k]? =some a.aJ[k]:=aP hk;have hts:a.aJ.take (k+1)=a.aJ.take k++[a.aJ[k]]:=fq hk;have he:=hs.each _<|cU hk
  refine R0 hkx<|RE (v7 (by omega) hN) ?_
  refine R9 (λh=>SC ?_)<|λh=>Si ?_
  ·have h:iZ a.aJ[k]≠0:=by simpa using h
   refine⟨_,h,rfl,?_⟩;rw[List.findSome?_eq_some_iff];refine⟨a.aJ.take k,a.aJ[k],a.aJ.drop<|k+1,?_,by unfold tU;rw[aC h],λr hr=>by unfold tU;rw[aD (by simpa using hI r hr)]⟩;rw[<-sF hk,List.take_append_drop]
  ·have h:iZ a.aJ[k]=0:=by simpa using h
   have:=sumle k (by omega);have hk16:k*1048576<=16*1048576:=Nat.mul_le_mul_right _ (by omega);refine⟨?_,λr hr=>?_⟩
   ·rw[wrap_add (by omega),hts,eN,List.sum_append];simp only[dT,List.map_nil,List.sum_cons,List.sum_nil];congr 1;omega
   ·rw[hts]at hr
    rcases dH.1 hr with hr|hr
    ·exact hI r hr
    ·simp at hr;subst hr;exact h
 intro o ho;refine Sm ho ?_ ?_
 rotate_left
 ·rintro x⟨e,he,rfl,hf⟩;exact pe e he (by rw[pe1];unfold IF;rw[hf])
 rintro s⟨rfl,hreg⟩;have Pd:a.aJ.findSome? tU=none:=List.findSome?_eq_none_iff.2 λr hr=>by unfold tU;rw[aD (by simpa using hreg r hr)]
 have pe2:jW a=if iZ a.cT≠0 then iZ a.cT else CP a:=by rw[pe1];unfold IF;rw[Pd]
 refine RE (v7 (by omega) hN) ?_;refine R9 (λh=>?_)<|λh=>?_
 ·have h:iZ a.cT≠0:=by simpa using h
  exact pe _ h (by rw[pe2,aC h])
 have hout:iZ a.cT=0:=by simpa using h
 have pe3:jW a=CP a:=by rw[pe2,aD (by simpa using hout)]
 refine R9 (λh=>?_)<|λh=>?_
 ·have h:2000<a.cT.length+(a.aJ.map List.length).sum:=by have:=of_decide_eq_true h;omega
  exact pe 2 (by omega) (by rw[pe3];unfold CP;rw[aC h])
 have hmany:¬2000<a.cT.length+(a.aJ.map List.length).sum:=by have:=of_decide_eq_false h;omega
 have hbs:=hs.bs;have hls:=hs.ls;refine RE (CI (by omega) (by omega) (by omega)) ?_;refine R9 (λh=>?_)<|λh=>?_
 ·have h:iV a≠0:=by simpa using h
  exact pe _ h (by rw[pe3];unfold CP;rw[aD hmany,aC h])
 have hbo:iV a=0:=by simpa using h
 refine RE (CJ (by omega) (by omega) hs.nm (by omega)) ?_;refine R9 (λh=>?_)<|λh=>?_
 ·have h:lJ a≠0:=by simpa using h
  exact pe _ h (by rw[pe3];unfold CP;rw[aD hmany,aD (by simpa using hbo),aC h])
 have hla:lJ a=0:=by simpa using h
 have hg:pT a:=⟨by omega,hreg,hout,by omega,hbo,hla⟩;have pe4:jW a=if qN a then 12 else 0:=by rw[pe3];unfold CP;rw[aD hmany,aD (by simpa using hbo),aD (by simpa using hla)]
 refine RP (Tu (Go:=λ_:Unit=>¬qN a) (Rt:=λx:Option B2×Int=>x=(none,12)/\qN a)
  (λ(k:Nat)(_:Unit)=>∀(i j:Nat)(x y:cJ),i<k->j<i->a.aU[i]? =some x->a.aU[j]? =some y->¬r9 x y=true) (by omega) (λi j x y h=>by omega) (λk s hk hI=>?_) (λs hI=>?_)) ?_
 ·have hkx:a.aU[k]? =some a.aU[k]:=aP hk;refine R0 hkx<|RE (tx _ k (by omega)) ?_
  have hgk:=hg.gb.ok _<|cU hk
  refine RP (Tu (Go:=λ_:Unit=>∀(j:Nat)(y:cJ),j<k->a.aU[j]? =some y->¬r9 a.aU[k] y=true) (Rt:=λx:Option B2×Int=>x=(none,12)/\qN a)
   (λ(t:Nat)(_:Unit)=>∀(j:Nat)(y:cJ),j<t->a.aU[j]? =some y->¬r9 a.aU[k] y=true) (by rw[cQ];omega) (λj y h=>by omega) (λt s ht hI2=>?_) (λs hI2 j y hj hy=>hI2 j y (by rw[cQ];omega) hy)) ?_
  ·have htk:t<k:=by rw[cQ]at ht;omega
   have htx:(a.aU.take k)[t]? =some a.aU[t]:=by rw[List.getElem?_take_of_lt htk];exact aP (by omega)
   have hgt:=hg.gb.ok _<|cU (show t<a.aU.length by omega)
   refine R0 htx ?_;refine RE (x:=r9 a.aU[k] a.aU[t]) ?_ ?_
   ·unfold r9
    cases hc:(decide (a.aU[k].cL<=a.aU[t].To)&&decide (a.aU[t].cL<=a.aU[k].To))with
    |false=>rfl
    |true=>
     obtain⟨n,n1,n2⟩:=MW (N:=N) hgk.2 hgt.2;rw[aO,na hgk.1,aB,na hgt.1,aB,n1,aB,Bool.true_and];congr 1;rw[dZ,beq_iff_eq];exact n2
   ·refine R9 (λh=>SC ⟨rfl,k,t,_,_,htk,hkx,aP (by omega),h⟩)<|λh=>Si λj y hj hy=>?_
    by_cases e:j<t
    ·exact hI2 j y e hy
    ·have:j=t:=by omega
     subst this;rw[aP (by omega)]at hy;injection hy with hy
     rw[<-hy,h];simp
  ·intro o ho;refine Sm ho (λs hI2=>Si λi j x y hi hj hx hy=>?_)<|λx hx=>SC hx
   by_cases e:i<k
   ·exact hI i j x y e hj hx hy
   ·have:i=k:=by omega
    subst this;rw[hkx]at hx;injection hx with hx
    rw[<-hx];exact hI2 j y hj hy
 ·rintro⟨i,j,x,y,hj,hx,hy,hc⟩;exact hI i j x y (bA.1 hx).1 hj hx hy hc
 intro o ho;refine Sm ho ?_ ?_
 rotate_left
 ·rintro x⟨rfl,hc⟩;exact pe 12 (by omega) (by rw[pe4,aC hc])
 intro _ hncl;have pe5:jW a=0:=by rw[pe4,aD hncl]
 refine RP (GV (N:=N) (by omega) hg.cs hg.gb hN) ?_;rintro⟨okk,me,pcs⟩⟨gH,D,e1,e2⟩;dsimp only at D e1 e2 ⊢;subst e1;refine R9 (λh=>RJ<|.inr ⟨pe5,hg,hncl,me,gH,D, .inl ⟨λhf=>?_,rfl⟩⟩)<|λh=>?_
 ·have:=e2.2 hf;rw[this]at h;cases h
 ·have hf:Na me gH:=e2.1 (by cases okk <;> simp_all);have hpr:∀p∈eG 0 gH,p.qE.length<=1073741824:=λp hp=>by
   obtain⟨i,r,s,ps,u,j,k,hP⟩:=Ke hg D hp;have:=(hP.FK hg).2.2;omega
  have hf2:=hf.2;refine RE (J8 hg.gb (by omega) hpr) ?_;refine RP (Ei (N:=N) hg.gb (by omega) hpr (by omega) hN) ?_;rintro⟨gs,ofP,ofB,qM,qB⟩⟨r,hC⟩;exact RJ<|.inr ⟨pe5,hg,hncl,me,gH,D, .inr ⟨hf,r,gs,ofP,ofB,qM,qB,hC,rfl⟩⟩
end
section
variable {N:Nat}
theorem HO{w:Nat}{g:Nat->Nat}{a:Nat}:∀{ks:List Nat},ks.Nodup->a∈ks->(ks.map<|λk=>(if a=k then w else 0)+g k).sum=w+(ks.map g).sum
 | [],_,h=>by cases h
 |k::ks,hn,h=>by
  have hn':=List.nodup_cons.1 hn;simp only[dT,List.sum_cons]
  by_cases e:a=k
  ·subst e;rw[aC rfl];have:ks.map (λk=>(if a=k then w else 0)+g k)=ks.map g:=List.map_congr_left λx hx=>by
    rw[aD<|λe=>hn'.1 (by rw[e];exact hx),iO]
   rw[this];omega
  ·rw[aD e,HO hn'.2 (by rcases dE.1 h with h|h;exact absurd h e;exact h)];omega
theorem FT{α:Type}{ks:List Nat}(hn:ks.Nodup)(f w:α->Nat):∀{l:List α},(∀x∈l,f x∈ks)->(ks.map<|λk=>((l.filter<|λx=>decide<|f x=k).map w).sum).sum=(l.map w).sum
 | [],_=>by
  have:∀ks:List Nat,(ks.map<|λ_=>0).sum=0:=λks=>by
   induction ks with
   |nil=>rfl
   |cons k ks ih=>simp only[dT,List.sum_cons,ih]
  simpa using this ks
 |x::l,h=>by
  have ih:=FT hn f w (l:=l) λy hy=>h y<|g9 _ hy
  have:ks.map (λk=>(((x::l).filter<|λx=>decide<|f x=k).map w).sum)=ks.map (λk=>(if f x=k then w x else 0)+((l.filter<|λx=>decide<|f x=k).map w).sum):=List.map_congr_left λk _=>by
   rw[List.filter_cons]
   by_cases e:f x=k
   ·rw[aC (by simpa using e),aC e,dT,List.sum_cons]
   ·rw[aD (by simpa using e),aD e,iO]
  rw[this,HO hn<|h x (by simp),ih,dT,List.sum_cons]
def HQ(s:List aA):cK:=match s with|b::_=>⟨b.Xs.headD 0,b.Y0⟩| []=>⟨0,0⟩
theorem zb.ne{a:gm}{me:List (List aA)}{gH:List (List<|List aA)}{p:aL}{i:Nat}{r:List aH}{s:List aA}{ps:List (List aA)}{u:Nat->Nat}{j k:Nat}(h:zb a me gH p i r s ps u j k):p.Set≠[]:=by
 intro e;have hh:=jE.1<|gq h.head
 have hx:(aR s)[k]? =some (aR s)[k]:=aP hh.1;have hm:(aR s)[k]∈nN (aR s) (aR s).length u k:=mb.2 ⟨k,hh.1,hh.2,hx⟩;obtain⟨b,hb,q,hq,hr⟩:=rD<|gq hx
 have hbm:bY b∈s.map bY:=cY.2 ⟨b,hb,rfl⟩;have hq1:=GM (h.dr.can.each _ hbm).2.2.1 q hq;have hb1:=(h.dr.can.each _ hbm).1;have hc:=h.set.cover q.1 b.Y0;rw[e]at hc;have:vf (nN (aR s) (aR s).length u k) q.1 b.Y0=true:=jl.2 ⟨_,hm,by rw[hr];exact⟨⟨Int.le_refl _,hq1⟩,Int.le_refl _,hb1⟩⟩;rw[this]at hc
 cases hc
structure wg (a:gm) (me:List (List aA)) (gH:List (List (List aA))) (r:Nat->Nat) (gs:List dD) (ofP ofB qM:List Int) (qB:List gC):Prop where
 O2:pT a
 RB:¬qN a
 dr:v9 a.aJ a.aU a.aJ.length me gH
 BZ:Na me gH
 O3:GY a.aU a.bJ (eG 0 gH) r gs ofP ofB qM qB
inductive MX (N:Nat) (a:gm):Prop
 |err (e:Int) (he:e≠0) (h:ir N a=some (none,e))
 |ok {me:List (List aA)} {gH:List (List (List aA))} {r:Nat->Nat} {gs:List dD} {ofP ofB qM:List Int} {qB:List gC} (b:wg a me gH r gs ofP ofB qM qB)
  (h:ir N a=some (some (a.aJ,a.cT,a.aU,a.bJ,me,eG 0 gH,oR a.aU<|eG 0 gH,gs,ofP,ofB,qM,qB),0))
theorem opened{a:gm}(hs:tV a)(hN:4398046511104<=N):MX N a:=by
 obtain⟨x,hx,hI⟩:=z5 (N:=N) hs hN
 rcases hI with⟨he,rfl⟩|⟨_,hg,hcl,me,gH,D,⟨_,rfl⟩|⟨hf,r,gs,ofP,ofB,qM,qB,hC,rfl⟩⟩
 ·exact .err _ he hx
 ·exact .err 2 (by omega) hx
 ·exact .ok ⟨hg,hcl,D,hf,hC⟩ hx
end
section
variable {S R:Type}
theorem SD{body:S->Option (Fl S R)}{N n:Nat}{s:S}(ι:S->Int)(Inv:Nat->S->Prop){Go:S->Prop}{Rt:R->Prop}
  (h1:∀k s,k<n->ι s=((k:Nat):Int)->Inv k s->Ok (body s) (Ku (λs'=>ι s'=((k+1:Nat):Int)/\Inv (k+1) s') Go Rt))
  (h2:∀s,ι s=((n:Nat):Int)->Inv n s->Ok (body s) (Ku (λ_=>False) Go Rt))
  {k0:Nat} (hk:k0<=n) (hi:ι s=((k0:Nat):Int)) (h0:Inv k0 s) (hn:n<N):Ok (Gk.j6 body N s) (OT Go Rt):=by
 refine SS (λs=>∃k:Nat,k<=n/\ι s=((k:Nat):Int)/\Inv k s) (λs=>n -(ι s).toNat) ?_ ⟨k0,hk,hi,h0⟩ (by omega);rintro s⟨k,hk,e,hI⟩
 by_cases hlt:k<n
 ·refine(h1 k s hlt e hI).mono ?_;rintro(s'|s'|r)hp
  ·have hp1:ι s'=((k+1:Nat):Int):=hp.1;exact⟨⟨k+1,hlt,hp.1,hp.2⟩,by rw[e,hp1];simp only[cI];omega⟩
  ·exact hp
  ·exact hp
 ·have:k=n:=by omega
  subst this;refine(h2 s e hI).mono ?_;rintro(s'|s'|r)hp
  ·exact hp.elim
  ·exact hp
  ·exact hp
theorem n9{k n:Nat}(h:k<n):decide (((k:Nat):Int)<((n:Nat):Int))=true:=bL (by omega)
theorem rn(n:Nat):decide (((n:Nat):Int)<((n:Nat):Int))=false:=bO (by omega)
theorem Ar{k n:Nat}(h:n<=k):decide (((k:Nat):Int)<((n:Nat):Int))=false:=bO (by omega)
end
theorem uI{α:Type}{p:α->Bool}:∀{l:List α}{k:Nat},(∀(j:Nat)x,j<k->l[j]? =some x->p x=true)->(∀x,l[k]? =some x->p x=false)->l.takeWhile p=l.take k/\l.dropWhile p=l.drop k
 | [],k,_,_=>by simp
 |y::l,0,_,h2=>by
  have:=h2 y rfl;rw[List.takeWhile_cons,List.dropWhile_cons,this];simp
 |y::l,k+1,h1,h2=>by
  have h:=h1 0 y (by omega) rfl;obtain⟨e1,e2⟩:=uI (l:=l) (k:=k) (λj x hj hx=>h1 (j+1) x (by omega) hx)<|λx hx=>h2 x hx
  rw[List.takeWhile_cons,List.dropWhile_cons,h,aC rfl,aC rfl,e1,e2];simp
section
variable {N:Nat}
def uJ(l:List Int)(c:Int):List Int:=if c∈l then l else l.takeWhile (λx=>decide<|x<c)++c::l.dropWhile (λx=>decide<|x<c)
theorem zd(l:List Int)(c:Int):(uJ l c).length<=l.length+1:=by
 unfold uJ;split
 ·omega
 ·have:(l.takeWhile<|λx=>decide<|x<c).length+(l.dropWhile<|λx=>decide<|x<c).length=l.length:=by rw[<-dF,List.takeWhile_append_dropWhile]
  rw[dF,fR];omega
theorem Kf{l:List Int}{c x:Int}:x∈uJ l c↔x∈l\/x=c:=by
 unfold uJ;split
 ·rename_i h;exact⟨.inl,λh'=>h'.elim id λe=>e▸h⟩
 ·have:x∈l↔x∈l.takeWhile (λx=>decide<|x<c)\/x∈l.dropWhile (λx=>decide<|x<c):=by rw[<-dH,List.takeWhile_append_dropWhile]
  rw[dH,dE,this];constructor
  ·rintro(h|h|h)
   ·exact .inl<|.inl h
   ·exact .inr h
   ·exact .inl<|.inr h
  ·rintro((h|h)|h)
   ·exact .inl h
   ·exact .inr<|.inr h
   ·exact .inr<|.inl h
theorem HR{l:List Int}(h:jT l)(c:Int):∀x∈l.dropWhile (λx=>decide<|x<c),c<=x:=by
 induction l with
 |nil=>intro x hx;cases hx
 |cons a l ih=>
  rw[List.dropWhile_cons]
  by_cases ha:a<c
  ·rw[aC (by simpa using ha)];exact ih h.tail
  ·rw[aD (by simpa using ha)];intro x hx
   rcases dE.1 hx with rfl|hx
   ·omega
   ·have:=h.head x hx;omega
theorem Li(l:List Int)(c:Int):∀x∈l.takeWhile (λx=>decide<|x<c),x<c:=by
 induction l with
 |nil=>intro x hx;cases hx
 |cons a l ih=>
  rw[List.takeWhile_cons]
  by_cases ha:a<c
  ·rw[aC (by simpa using ha)];intro x hx
   rcases dE.1 hx with rfl|hx
   ·exact ha
   ·exact ih x hx
  ·rw[aD (by simpa using ha)];intro x hx;cases hx
theorem ze{l:List Int}{c:Int}(h:jT l):jT (uJ l c):=by
 unfold uJ;split
 ·exact h
 ·rename_i hc;have hs:=h;rw[<-List.takeWhile_append_dropWhile (p:=λx=>decide<|x<c) (l:=l)]at hs;unfold jT at hs ⊢;rw[nj]at hs ⊢;refine⟨hs.1,oc.2 ⟨λx hx=>?_,hs.2.1⟩,λx hx y hy=>?_⟩
  ·have h1:=HR h c x hx;have h2:x≠c:=λe=>hc (by rw[<-e,<-List.takeWhile_append_dropWhile (p:=λx=>decide<|x<c) (l:=l)];exact List.mem_append_right _ hx);omega
  ·have h1:=Li l c x hx
   rcases dE.1 hy with rfl|hy
   ·exact h1
   ·have:=HR h c y hy;omega
def kA(l:List Int):List Int:=l.foldl uJ []
theorem uK:∀(cs l:List Int),jT l->jT (cs.foldl uJ l)/\(∀x,x∈cs.foldl uJ l↔x∈l\/x∈cs)/\(cs.foldl uJ l).length<=l.length+cs.length
 | [],l,h=>⟨h,λx=>by simp,by simp⟩
 |c::cs,l,h=>by
  obtain⟨h1,h2,h3⟩:=uK cs (uJ l c)<|ze h
  refine⟨h1,λx=>?_,?_⟩
  ·rw[List.foldl_cons,h2,Kf,dE,or_assoc]
  ·rw[List.foldl_cons,fR];have:=zd l c;omega
theorem nF(l:List Int):jT (kA l):=(uK l [] jX).1
theorem z6{l:List Int}{x:Int}:x∈kA l↔x∈l:=by
 have:=(uK l [] jX).2.1 x;unfold kA;rw[this];simp
theorem tW(l:List Int):(kA l).length<=l.length:=by
 have:=(uK l [] jX).2.2;unfold kA;simpa using this
theorem wh(l:List Int)(c d:Int):kA (l++[c,d])=uJ (uJ (kA l) c) d:=by unfold kA;rw[List.foldl_append];rfl
theorem GZ{a b:Nat}(h:a+b<=4611686018427387904):wrap .i64 (Int.tdiv (wrap .i64<|((a:Nat):Int)+((b:Nat):Int)) 2)=(((a+b) / 2:Nat):Int):=by
 rw[wrap_add h,Int.tdiv_eq_ediv_of_nonneg (by omega),eU (by omega) (by omega)];omega
theorem wO{l:List Int}{c:Int}(h:jT l)(hl:l.length<=1099511627776)(hN:4398046511104<=N):fB N l c=some (uJ l c):=by
 refine SJ ?_;unfold fB
 refine RP (SS (Go:=λst:Int×Int=>∃a:Nat,st.1=((a:Nat):Int)/\a<=l.length/\(∀(j:Nat)x,j<a->l[j]? =some x->x<c)/\(∀(j:Nat)x,a<=j->l[j]? =some x->c<=x)) (Rt:=λ_=>True)
  (λst=>∃a b:Nat,st=(((a:Nat):Int),((b:Nat):Int))/\a<=b/\b<=l.length/\(∀(j:Nat)x,j<a->l[j]? =some x->x<c)/\(∀(j:Nat)x,b<=j->l[j]? =some x->c<=x))
  (λst=>(st.2 - st.1).toNat) ?_ ⟨0,l.length,rfl,by omega,bR _,λj x hj=>by omega,λj x hj hx=>by have:=(bA.1 hx).1;omega⟩ (by simp only;omega)) ?_
 ·rintro st⟨a,b,rfl,hab,hb,h1,h2⟩;dsimp only
  by_cases hlt:a<b
  ·have hm:(a+b) / 2<l.length:=by omega
   have hx:l[(a+b) / 2]? =some l[(a+b) / 2]:=aP hm;rw[n9 hlt,aO,GZ (by omega)];refine R0 hx ?_
   by_cases hc:l[(a+b) / 2]<c
   ·rw[bL hc,aO,aB];refine Si ⟨⟨(a+b) / 2+1,b,?_,by omega,hb,λj x hj hx'=>?_,h2⟩,?_⟩
    ·rw[cD (by omega)]
    ·by_cases e:j=(a+b) / 2
     ·subst e;rw[hx]at hx';injection hx' with hx';omega
     ·have:=h.lt (i:=j) (j:=(a+b) / 2) (by omega) hx' hx;omega
    ·rw[cD (by omega)];simp only;omega
   ·rw[bO hc,aQ,aB];refine Si ⟨⟨a,(a+b) / 2,rfl,by omega,by omega,h1,λj x hj hx'=>?_⟩,by simp only;omega⟩
    by_cases e:j=(a+b) / 2
    ·subst e;rw[hx]at hx';injection hx' with hx';omega
    ·have:=h.lt (i:=(a+b) / 2) (j:=j) (by omega) hx hx';omega
  ·rw[Ar (by omega),aQ];exact Sn ⟨a,rfl,by omega,h1,λj x hj hx=>h2 j x (by omega) hx⟩
 intro o ho;refine Sm ho ?_<|λr hr=>r.elim
 rintro⟨st1,st2⟩⟨a,ha,hle,h1,h2⟩;dsimp only at ha ⊢;subst ha;have hin:l[a]? =some c->uJ l c=l:=λhx=>by unfold uJ;rw[aC<|gq hx]
 have hout:l[a]? ≠some c->uJ l c=l.take a++c::l.drop a:=λhx=>by
  have hc:c∉l:=λhc=>by
   obtain⟨j,hj⟩:=eO hc
   by_cases h3:j<a
   ·have:=h1 j c h3 hj;omega
   ·by_cases e:j=a
    ·subst e;exact hx hj
    ·have h5:a<l.length:=by have:=(bA.1 hj).1;omega
     have h6:l[a]? =some l[a]:=aP h5;have h7:=h.lt (i:=a) (j:=j) (by omega) h6 hj;have h8:=h2 a _ (bR _) h6;omega
  unfold uJ;rw[aD hc];obtain⟨e1,e2⟩:=uI (p:=λx=>decide<|x<c) (l:=l) (k:=a) (λj x hj hx'=>bL<|h1 j x hj hx')<|λx hx'=>bO (by have:=h2 a x (bR _) hx';omega)
  rw[e1,e2]
 have hrest:l[a]? ≠some c->Ok ((uY l 0 ((a:Nat):Int)).bind λx49=>(app 8 ([]:List Int) x49).bind λx51=>(app 8 x51 ([c]:List Int)).bind λx54=>(uY l ((a:Nat):Int) ((l.length:Nat):Int)).bind λx56=>(app 8 x54 x56).bind λx58=>some x58) (λr=>r=uJ l c):=λhx=>by
  have htk:(l.take a).length=a:=by rw[cQ];omega
  refine RE (tx l a hle)<|SB (by simp only[List.length_nil];omega)<|SB (by rw[List.nil_append];simp only[fR,List.length_nil];omega)<|RE (rP l a hle)<|SB ?_<|RJ ?_
  ·rw[List.nil_append,dF,iN];simp only[fR,List.length_nil];omega
  ·rw[hout hx];simp
 by_cases hlt:a<l.length
 ·have hx:l[a]? =some l[a]:=aP hlt;rw[n9 hlt,aO,dS hx,aB,aB];refine R9 (λhb=>RJ ?_)<|λhb=>hrest ?_
  ·rw[beq_iff_eq]at hb;rw[hin (by rw[hx,hb])]
  ·rw[beq_eq_false_iff_ne]at hb;rw[hx];intro e;injection e with e;exact hb e
 ·rw[Ar (by omega),aQ,aB,aQ];exact hrest (by rw[List.getElem?_eq_none (by omega)];intro e;cases e)
theorem FU(l m:List aH):jm (l++m)=jm l++jm m:=List.flatMap_append
theorem B3{l:List aH}(hl:l.length<=268435456)(hN:4398046511104<=N):gV N l=some (kA<|jm l):=by
 refine SJ ?_;unfold gV;refine RP (SD (n:=l.length) (λs=>s.2) (λk s=>s.1=kA (jm<|l.take k)) (Go:=λs=>s.1=kA (jm l)) (Rt:=λ_=>False) ?_ ?_ (eZ _) rfl rfl (by omega)) ?_
 ·rintro k⟨out,i⟩hk e hI;dsimp only at e hI ⊢;subst e;subst hI;rw[n9 hk,aO];have hx:l[k]? =some l[k]:=aP hk;have h1:=tW<|jm<|l.take k
  rw[jw,cQ]at h1;have h2:=zd (kA<|jm<|l.take k) l[k].Y0;refine R0 hx<|R0 hx<|RE (wO (nF _) (by omega) hN)<|RE (wO (ze<|nF _) (by omega) hN)<|Si ⟨cD (by omega),?_⟩
  rw[fq hk,FU];exact(wh _ _ _).symm
 ·rintro⟨out,i⟩e hI;dsimp only at e hI ⊢;subst e;rw[rn,aQ];exact Sn (by rw[fS]at hI;exact hI)
 intro o ho;exact Sm ho (λs hs=>RJ hs)<|λr hr=>hr.elim
def sp(s:aG):Int×Int:=(s.from_,s.to)
theorem Kg:∀{l m:List aG},l.map sp=m.map sp->l=m
 | [],[],_=>rfl
 | [],_::_,h=>by cases h
 |_::_,[],h=>by cases h
 |⟨a,b⟩::l,⟨c,d⟩::m,h=>by
  rw[dT,dT]at h;injection h with h1 h2
  unfold sp at h1;injection h1 with h3 h4
  simp only at h3 h4;rw[h3,h4,Kg h2]
theorem zf(a b:Int):(if b<a then b else a)=min a b:=by split <;> omega
theorem pq(a b:Int):(if a<b then b else a)=max a b:=by split <;> omega
theorem Dl{l:List aG}{s:aG}(hl:l.length<=268435456)(hN:4398046511104<=N):Ok (iw N l s) (λr=>r.map sp=lX (l.map sp) (sp s)):=by
 unfold iw;have hget:∀(j:Nat)(x:Int×Int),(l.map sp)[j]? =some x->∃y,l[j]? =some y/\x=sp y:=λj x h=>by
  rw[i5]at h
  cases hy:l[j]? with
  |none=>rw[hy]at h;cases h
  |some y=>rw[hy]at h;injection h with h;exact⟨y,rfl,h.symm⟩
 refine RP (SS (Go:=λst:List aG×Int=>∃k:Nat,st=(l.take k,((k:Nat):Int))/\k<=l.length/\(∀(j:Nat)x,j<k->l[j]? =some x->x.to<s.from_)/\(∀x,l[k]? =some x->¬x.to<s.from_)) (Rt:=λ_=>False)
  (λst=>∃k:Nat,st=(l.take k,((k:Nat):Int))/\k<=l.length/\∀(j:Nat)x,j<k->l[j]? =some x->x.to<s.from_) (λst=>l.length - st.2.toNat) ?_ ⟨0,by simp,by omega,λj x hj=>by omega⟩ (by simp;omega)) ?_
 ·rintro st⟨k,rfl,hk,hI⟩;dsimp only
  by_cases hlt:k<l.length
  ·have hx:l[k]? =some l[k]:=aP hlt;rw[n9 hlt,aO,dS hx,aB,aB];refine R9 (λhb=>?_)<|λhb=>?_
   ·have hb:=of_decide_eq_true hb;refine RE rfl<|SB ?_<|Si ⟨⟨k+1,?_,hlt,?_⟩,?_⟩
    ·rw[cQ];simp only[fR,List.length_nil];omega
    ·rw[cD (by omega),fq hlt]
    ·intro j x hj hx'
     by_cases e:j=k
     ·subst e;rw[hx]at hx';injection hx' with hx';rw[<-hx'];exact hb
     ·exact hI j x (by omega) hx'
    ·rw[cD (by omega)];simp only[cI];omega
   ·have hb:=of_decide_eq_false hb;exact Sn ⟨k,rfl,hk,hI,λx hx'=>by rw[hx]at hx';injection hx' with hx';rw[<-hx'];exact hb⟩
  ·rw[Ar (by omega),aQ,aB,aQ];exact Sn ⟨k,rfl,hk,hI,λx hx'=>by have:=(bA.1 hx').1;omega⟩
 intro o ho;refine Sm ho ?_<|λr hr=>hr.elim
 rintro st⟨k,rfl,hk,hI,hE⟩;dsimp only
 obtain⟨e1,e2⟩:=uI (p:=λa:Int×Int=>decide (a.2<(sp s).1)) (l:=l.map sp) (k:=k) (λj x hj hx=>by
  obtain⟨y,hy,rfl⟩:=hget j x hx
  exact bL (hI j y hj hy)) (λx hx=>by
  obtain⟨y,hy,rfl⟩:=hget k x hx
  exact bO (hE y hy))
 refine RP (SS (Go:=λst:aG×Int=>∃i:Nat,st.2=((i:Nat):Int)/\i<=l.length/\kD (sp s) ((l.drop k).map sp)=(sp st.1,(l.drop i).map sp)) (Rt:=λ_=>False)
  (λst=>∃i:Nat,st.2=((i:Nat):Int)/\i<=l.length/\kD (sp s) ((l.drop k).map sp)=kD (sp st.1) ((l.drop i).map sp)) (λst=>l.length - st.2.toNat) ?_ ⟨k,rfl,hk,rfl⟩ (by simp only[cI];omega)) ?_
 ·rintro⟨s',i'⟩⟨i,e,hi,hm⟩;dsimp only at e hm ⊢;subst e
  by_cases hlt:i<l.length
  ·have hx:l[i]? =some l[i]:=aP hlt;have hd:(l.drop i).map sp=sp l[i]::(l.drop<|i+1).map sp:=by rw[sF hlt,dT]
   rw[n9 hlt,aO,dS hx,aB,aB];refine R9 (λhb=>?_)<|λhb=>?_
   ·have hb:=of_decide_eq_true hb;refine RE rfl<|RE rfl<|Si ⟨⟨i+1,cD (by omega),hlt,?_⟩,?_⟩
    ·rw[hm,hd]
     conv=>lhs;unfold kD
     rw[aC (show(sp l[i]).1<=(sp s').2 from hb),zf,pq];rfl
    ·dsimp only;rw[cD (by omega)];simp only[cI];omega
   ·have hb:=of_decide_eq_false hb;refine Sn ⟨i,rfl,hi,?_⟩;rw[hm,hd]
    conv=>lhs;unfold kD
    rw[aD (show ¬(sp l[i]).1<=(sp s').2 from hb)]
  ·rw[Ar (by omega),aQ,aB,aQ];refine Sn ⟨i,rfl,hi,?_⟩;rw[hm,List.drop_eq_nil_of_le (by omega)];rfl
 intro o ho;refine Sm ho ?_<|λr hr=>hr.elim
 rintro⟨s',i'⟩⟨i,e,hi,hm⟩;dsimp only at e hm ⊢;subst e;refine SB ?_<|RE (rP l i hi)<|SB ?_<|RJ ?_
 ·rw[cQ];simp only[fR,List.length_nil];omega
 ·rw[dF,cQ,iN];simp only[fR,List.length_nil];omega
 ·unfold lX;rw[e1,e2,<-List.map_take,<-List.map_drop,hm];simp
theorem B4:∀(l:List (Int×Int))(s:Int×Int),(kD s l).2.length<=l.length
 | [],s=>bR _
 |a::l,s=>by
  unfold kD;split
  ·have:=B4 l (min s.1 a.1,max s.2 a.2);rw[fR];omega
  ·exact bR _
theorem As(l:List (Int×Int))(s:Int×Int):(lX l s).length<=l.length+1:=by
 unfold lX;have h1:=B4 (l.dropWhile λa=>decide<|a.2<s.1) s;have h2:(l.takeWhile<|λx=>decide<|x.2<s.1).length+(l.dropWhile<|λx=>decide<|x.2<s.1).length=l.length:=by rw[<-dF,List.takeWhile_append_dropWhile]
 rw[dF,fR];omega
def jG(y:Int)(out:List (Int×Int))(r:aH):List (Int×Int):=if r.Y0<=y/\y<r.Y1 then lX out (r.X0,r.X1)else out
def kX(l:List aH)(y:Int):List (Int×Int):=l.foldl (jG y) []
theorem IG(l:List aH)(r:aH)(y:Int):kX (l++[r]) y=jG y (kX l y) r:=by unfold kX;rw[List.foldl_append];rfl
theorem Au(y:Int):∀(l:List aH)(out:List (Int×Int)),(l.foldl (jG y) out).length<=out.length+l.length
 | [],out=>by simp
 |r::l,out=>by
  rw[List.foldl_cons,fR];have h1:=Au y l<|jG y out r
  have h2:(jG y out r).length<=out.length+1:=by
   unfold jG;split
   ·exact As _ _
   ·omega
  omega
theorem tX(l:List aH)(y:Int):(kX l y).length<=l.length:=by
 have:=Au y l [];unfold kX;simpa using this
theorem zg(y:Int):∀(l:List aH)(out:List (Int×Int)),(∀r∈l,r.X0<r.X1)->jT (dC out)->jT (dC<|l.foldl (jG y) out)/\∀x,jg (l.foldl (jG y) out) x=(jg out x||vf l x y)
 | [],out,_,h=>⟨h,λx=>by simp[vf]⟩
 |r::l,out,hr,h=>by
  have h0:=hr r (by simp);rw[List.foldl_cons];have hst:jT (dC<|jG y out r)/\∀x,jg (jG y out r) x=(jg out x||((decide (r.X0<=x)&&decide (x<r.X1))&&(decide (r.Y0<=y)&&decide (y<r.Y1)))):=by
   unfold jG
   by_cases hy:r.Y0<=y/\y<r.Y1
   ·rw[aC hy];obtain⟨j1,j2⟩:=yU (l:=out) (s:=(r.X0,r.X1)) h h0;refine⟨j1,λx=>?_⟩;rw[j2,bL hy.1,bL hy.2,Bool.or_comm];simp
   ·rw[aD hy];refine⟨h,λx=>?_⟩;have:(decide (r.Y0<=y)&&decide (y<r.Y1))=false:=by rw[Bool.and_eq_false_iff,decide_eq_false_iff_not,decide_eq_false_iff_not];omega
    rw[this];simp
  obtain⟨m1,m2⟩:=zg y l (jG y out r) (λr' hr'=>hr r'<|g9 _ hr') hst.1;refine⟨m1,λx=>?_⟩;rw[m2,hst.2,Bool.or_assoc];rfl
theorem wP{l:List aH}(h:∀r∈l,r.X0<r.X1)(y:Int):jT (dC<|kX l y)/\∀x,jg (kX l y) x=vf l x y:=by
 obtain⟨h1,h2⟩:=zg y l [] h jX;exact⟨h1,λx=>by rw[show jg (kX l y) x=_ from h2 x,show jg [] x=false from rfl,Bool.false_or]⟩
theorem xq{y y':Int}:∀(l:List aH)(out:List (Int×Int)),(∀r∈l,(r.Y0<=y/\y<r.Y1)↔(r.Y0<=y'/\y'<r.Y1))->l.foldl (jG y) out=l.foldl (jG y') out
 | [],out,_=>rfl
 |r::l,out,h=>by
  rw[List.foldl_cons,List.foldl_cons,xq l _<|λr' hr'=>h r'<|g9 _ hr'];congr 1;unfold jG;have:=h r (by simp)
  by_cases h1:r.Y0<=y/\y<r.Y1
  ·rw[aC h1,aC<|this.1 h1]
  ·rw[aD h1,aD<|λh2=>h1<|this.2 h2]
theorem G0{l:List aH}{y y':Int}(h:∀r∈l,(r.Y0<=y/\y<r.Y1)↔(r.Y0<=y'/\y'<r.Y1)):kX l y=kX l y':=xq l [] h
theorem Kh{l:List aH}{y:Int}(h:∀r∈l,¬(r.Y0<=y/\y<r.Y1)):kX l y= []:=by
 have:∀(l:List aH)(out:List (Int×Int)),(∀r∈l,¬(r.Y0<=y/\y<r.Y1))->l.foldl (jG y) out=out:=by
  intro l
  induction l with
  |nil=>intro out _;rfl
  |cons r l ih=>
   intro out h;rw[List.foldl_cons,ih _<|λr' hr'=>h r'<|g9 _ hr'];unfold jG;rw[aD<|h r (by simp)]
 exact this l [] h
theorem G1{l:List aH}{y:Int}(hl:l.length<=134217728)(hN:4398046511104<=N):Ok (iS N l y) (λr=>r.map sp=kX l y):=by
 unfold iS;refine RP (SD (n:=l.length) (λs=>s.2) (λk s=>s.1.map sp=kX (l.take k) y) (Go:=λs=>s.1.map sp=kX l y) (Rt:=λ_=>False) ?_ ?_ (eZ _) rfl rfl (by omega)) ?_
 ·rintro k⟨out,i⟩hk e hI;dsimp only at e hI ⊢;subst e;rw[n9 hk,aO];have hx:l[k]? =some l[k]:=aP hk;have hlen:out.length<=l.length:=by
   have h1:=tX (l.take k) y;rw[<-hI,dY,cQ]at h1;omega
  rw[dS hx,aB];have hst:kX (l.take<|k+1) y=jG y (kX (l.take k) y) l[k]:=by rw[fq hk,IG]
  have hno:¬(l[k].Y0<=y/\y<l[k].Y1)->Ok ((some out).bind λs141=>some (Fl.nx (s141,wrap .i64<|((k:Nat):Int)+1):Fl (List aG×Int) Empty)) (Ku (λs'=>s'.2=((k+1:Nat):Int)/\s'.1.map sp=kX (l.take<|k+1) y) (λs=>s.1.map sp=kX l y)<|λ_=>False):=λhy=>by
   rw[aB];refine Si ⟨cD (by omega),?_⟩;rw[hst];unfold jG;rw[aD hy];exact hI
  by_cases h1:l[k].Y0<=y
  ·rw[bL h1,aO,aB,aB]
   by_cases h2:y<l[k].Y1
   ·rw[bL h2,aO];refine RP (P:=λr:List aG=>r.map sp=kX (l.take<|k+1) y) (RE rfl<|RE rfl<|RP (Dl (by omega) hN)<|λr hr=>RJ ?_)<|λr hr=>Si ⟨cD (by omega),hr⟩
    rw[hr,hI,hst];unfold jG;rw[aC ⟨h1,h2⟩];rfl
   ·rw[bO h2,aQ];exact hno<|λh=>h2 h.2
  ·rw[bO h1,aQ,aB,aQ];exact hno<|λh=>h1 h.1
 ·rintro⟨out,i⟩e hI;dsimp only at e hI ⊢;subst e;rw[rn,aQ];exact Sn (by rw[fS]at hI;exact hI)
 intro o ho;exact Sm ho (λs hs=>RJ hs)<|λr hr=>hr.elim
theorem Dm{l:List aG}{x:Int}(hl:l.length<=1099511627776)(hN:4398046511104<=N):iB N l x=some (jg (l.map sp) x):=by
 refine SJ ?_;unfold iB;have hm:∀b:Bool,(jg (l.map sp) x=b↔(l.any λs=>decide (s.from_<=x)&&decide (x<s.to))=b):=λb=>by unfold jg;rw[List.any_map];rfl
 refine RP (SD (n:=l.length) (λs=>s) (λk s=>∀(j:Nat)y,j<k->l[j]? =some y->¬(y.from_<=x/\x<y.to)) (Go:=λs=>jg (l.map sp) x=false) (Rt:=λr=>r=jg (l.map sp) x) ?_ ?_ (eZ _) rfl (λj y hj=>by omega) (by omega)) ?_
 ·rintro k i hk e hI;subst e;rw[n9 hk,aO];have hx:l[k]? =some l[k]:=aP hk;rw[dS hx,aB]
  have hno:¬(l[k].from_<=x/\x<l[k].to)->Ok (some (Fl.nx (wrap .i64 (((k:Nat):Int)+1)):Fl Int Bool)) (Ku (λs'=>s'=((k+1:Nat):Int)/\∀(j:Nat)y,j<k+1->l[j]? =some y->¬(y.from_<=x/\x<y.to)) (λs=>jg (l.map sp) x=false) (λr=>r=jg (l.map sp) x)):=λhy=>Si ⟨cD (by omega),λj y hj hjy=>by
   by_cases e:j=k
   ·subst e;rw[hx]at hjy;injection hjy with hjy;rw[<-hjy];exact hy
   ·exact hI j y (by omega) hjy⟩
  by_cases h1:l[k].from_<=x
  ·rw[bL h1,aO,aB,aB]
   by_cases h2:x<l[k].to
   ·rw[bL h2,aO];refine SC ?_;symm;rw[hm,jY];exact⟨l[k],cU hk,by rw[bL h1,bL h2];rfl⟩
   ·rw[bO h2,aQ];exact hno<|λh=>h2 h.2
  ·rw[bO h1,aQ,aB,aQ];exact hno<|λh=>h1 h.1
 ·rintro i e hI;subst e;rw[rn,aQ];refine Sn ?_;rw[hm,List.any_eq_false];intro y hy;obtain⟨j,hj⟩:=eO hy;have:=hI j y (bA.1 hj).1 hj;rw[ld,Bool.and_eq_false_iff,decide_eq_false_iff_not,decide_eq_false_iff_not];omega
 intro o ho;exact Sm ho (λs hs=>RJ hs.symm)<|λr hr=>RJ hr
end
section
variable {α:Type}[DecidableEq α]{N:Nat}
def Md(N:Nat)(p0 p1:List α):Option Bool:=
 bif(p0.length:Int) != (p1.length:Int)then some false else((j6 (λ(s32:Int)=>(bif decide (s32<(p0.length:Int))then((idx p0 s32).bind λx45=>(idx p1 s32).bind λx48=>bif(!(decide<|x45=x48))then some (.rt false)else some (.nx<|wrap .i64<|s32+1))else(some<|.br s32):Option (Fl Int Bool))) N 0).bind λo51=>o51.cs (λ(s32:Int)=>some true)<|λr=>some r)
theorem FV{l m:List α}(hl:l.length<=1099511627776)(hN:4398046511104<=N):Md N l m=some (decide<|l=m):=by
 refine SJ ?_;unfold Md
 by_cases he:l.length=m.length
 ·rw[show(((l.length:Nat):Int) != ((m.length:Nat):Int))=false by rw[he];simp,aQ];refine RP (SD (n:=l.length) (λs=>s) (λk s=>∀j,j<k->l[j]? =m[j]?) (Go:=λs=>l=m) (Rt:=λr=>r=false/\l≠m) ?_ ?_ (eZ _) rfl (λj hj=>by omega) (by omega)) ?_
  ·rintro k i hk e hI;subst e;have hx:l[k]? =some l[k]:=aP hk;have hy:m[k]? =some (m[k]'(by omega)):=aP _;rw[n9 hk,aO];refine R0 hx<|R0 hy<|R9 (λhb=>SC ⟨rfl,λe=>?_⟩)<|λhb=>Si ⟨cD (by omega),λj hj=>?_⟩
   ·have h1:some l[k]=some (m[k]'(by omega)):=hx.symm.trans<|(by rw[e]:l[k]? =m[k]?).trans hy
    injection h1 with h1
    rw[h1]at hb;simp at hb
   ·by_cases e:j=k
    ·subst e;rw[hx,hy];simpa using hb
    ·exact hI j (by omega)
  ·rintro i e hI;subst e;rw[rn,aQ];refine Sn<|List.ext_getElem? λj=>?_
   by_cases hj:j<l.length
   ·exact hI j hj
   ·rw[List.getElem?_eq_none (by omega),List.getElem?_eq_none (by omega)]
  intro o ho;exact Sm ho (λs hs=>RJ (bL hs).symm)<|λr hr=>RJ (by rw[hr.1,bO hr.2])
 ·rw[show(((l.length:Nat):Int) != ((m.length:Nat):Int))=true by rw[bne_iff_ne];omega,aO];exact RJ (bO λh=>he (by rw[h])).symm
end
section
variable {N:Nat}
theorem Ej{l m:List aH}(hl:l.length<=1099511627776)(hN:4398046511104<=N):jB N l m=some (decide<|l=m):=FV hl hN
theorem Ek{l m:List aG}(hl:l.length<=1099511627776)(hN:4398046511104<=N):jA N l m=some (decide<|l=m):=FV hl hN
def tj(b:aK):Bd:=⟨b.from_,b.to,dC<|b.iX.map sp⟩
theorem IH{l:List (Int×Int)}:dC l= []↔l= []:=by
 cases l with
 |nil=>exact⟨λ_=>rfl,λ_=>rfl⟩
 |cons s l=>exact⟨λh=>(by cases h),λh=>(by cases h)⟩
theorem II{l m:List aG}:dC (l.map sp)=dC (m.map sp)↔l=m:=⟨λh=>Kg<|Db h,λh=>by rw[h]⟩
theorem G2{l:List aK}{b:aK}(hlt:b.from_<b.to)(hl:l.length<=1073741824)(hs:∀c∈l,c.iX.length<=1099511627776)(hN:4398046511104<=N):
  Ok (fV N l b) (λr=>r.map tj=jD (l.map tj) (tj b)):=by
 unfold fV jD
 by_cases h0:b.iX= []
 ·rw[show(((b.iX.length:Nat):Int)==0)=true by rw[h0];rfl,aO,aC<|.inl (by unfold tj;rw[h0];rfl)];exact RJ rfl
 ·rw[show(((b.iX.length:Nat):Int)==0)=false by rw[beq_eq_false_iff_ne];intro h;exact h0<|List.eq_nil_of_length_eq_zero (by omega),aQ];have hne:¬((tj b).xs= []\/(tj b).y1<=(tj b).y0):=by
   rintro(h|h)
   ·have h:=IH.1 h;exact h0<|List.map_eq_nil_iff.1 h
   ·have h:b.to<=b.from_:=h;omega
  rw[aD hne]
  rcases List.eq_nil_or_concat l with rfl|⟨A,c,hA⟩
  ·rw[show decide (((([]:List aK).length:Nat):Int)>0)=false by decide,aQ,aB,aQ];exact SB (by simp)<|RJ rfl
  ·rw[List.concat_eq_append]at hA;subst hA;have hlen:(A++[c]).length=A.length+1:=by simp
   have hwp:wrap .i64 ((((A++[c]).length:Nat):Int) - 1)=((A.length:Nat):Int):=by rw[BE (by omega) (by omega),hlen];rfl
   have hlast:(A++[c])[A.length]? =some c:=by simp
   rw[hwp,bL (by omega),aO,dS hlast,aB,aB,Ek (by have:=hs c (by simp);omega) hN,aB,aB,cI];have hl2:((A++[c]).map tj).getLast? =some (tj c):=by simp
   have hd2:((A++[c]).map tj).dropLast=A.map tj:=by simp
   rw[hl2,hd2];dsimp only
   by_cases h1:c.to=b.from_/\c.iX=b.iX
   ·rw[aC (show(tj c).y1=(tj b).y0/\(tj c).xs=(tj b).xs from⟨h1.1,by unfold tj;rw[h1.2]⟩),show(c.to==b.from_)=true by rw[h1.1];simp,aO,bL h1.2,aB,aO];refine RJ ?_;rw[List.set_append_right _ _<|bR _,Nat.sub_self];simp[tj]
   ·rw[aD (show ¬((tj c).y1=(tj b).y0/\(tj c).xs=(tj b).xs)from λh=>h1 ⟨h.1,II.1 h.2⟩)];have e2:(bif c.to==b.from_ then some (decide<|c.iX=b.iX)else some false)=some false:=by
     by_cases h2:c.to=b.from_
     ·rw[show(c.to==b.from_)=true by rw[h2];simp,aO,bO<|λh=>h1 ⟨h2,h⟩]
     ·rw[show(c.to==b.from_)=false by simpa using h2,aQ]
    rw[e2,aB,aQ];exact SB (by rw[hlen];simp;omega)<|RJ (by simp)
theorem Ki{s:List Bd}{b c:Bd}(h:c∈jD s b):c.xs=b.xs\/∃d∈s,c.xs=d.xs:=by
 unfold jD at h;split at h
 ·exact .inr ⟨c,h,rfl⟩
 ·split at h
  ·rename_i d hd;split at h
   ·rcases dH.1 h with h|h
    ·exact .inr ⟨c,List.dropLast_subset _ h,rfl⟩
    ·simp at h;exact .inr ⟨d,List.mem_of_getLast? hd,by rw[h]⟩
   ·rcases dH.1 h with h|h
    ·exact .inr ⟨c,h,rfl⟩
    ·simp at h;exact .inl (by rw[h])
  ·simp at h;exact .inl (by rw[h])
theorem rp{f:Int->List Int}{B:Nat}(hf:∀y,(f y).length<=B):∀(ss:List (Int×Int))(out:List Bd),(∀c∈out,c.xs.length<=B)->(∀c∈mD f ss out,c.xs.length<=B)/\(mD f ss out).length<=out.length+ss.length
 | [],out,h=>⟨h,by simp[mD]⟩
 |s::ss,out,h=>by
  obtain⟨h1,h2⟩:=rp hf ss (jD out ⟨s.1,s.2,f s.1⟩) (λc hc=>by
   rcases Ki hc with h3|⟨d,hd,h3⟩
   ·rw[h3];exact hf _
   ·rw[h3];exact h d hd)
  refine⟨h1,?_⟩;have:=Iu out ⟨s.1,s.2,f s.1⟩;show(mD f ss<|jD out ⟨s.1,s.2,f s.1⟩).length<=_;rw[fR];omega
theorem nc:∀(ys:List Int),(kp ys).length=ys.length - 1
 | []=>rfl
 | [_]=>rfl
 |a::b::l=>by
  show(kp<|b::l).length+1=_;rw[nc<|b::l];simp
theorem B5:∀(ys:List Int)(k:Nat)(h:k+1<ys.length),(kp ys)[k]? =some (ys[k],ys[k+1])
 | [],k,h=>by simp at h
 | [_],k,h=>by simp at h
 |a::b::l,0,h=>rfl
 |a::b::l,k+1,h=>by
  have:=B5 (b::l) k (by simp at h ⊢;omega);show(kp<|b::l)[k]? =_;rw[this];rfl
theorem FW(f:Int->List Int)(ss:List (Int×Int))(s:Int×Int)(out:List Bd):mD f (ss++[s]) out=jD (mD f ss out) ⟨s.1,s.2,f s.1⟩:=by unfold mD;rw[List.foldl_append];rfl
theorem B6{ys:List Int}(hy:jT ys){f:Int->List Int}{B:Nat}(hf:∀y,(f y).length<=B)(hB:B<=1099511627776)(hys:ys.length<=1073741824){out:List aK}{k:Nat}(h1:1<=k)(hk:k<ys.length)
  (hI:out.map tj=mD f ((kp ys).take<|k - 1) []) {r:List aG} (hr:dC (r.map sp)=f (ys[k - 1]'(by omega))) (hN:4398046511104<=N):
  Ok (fV N out ⟨ys[k - 1]'(by omega),ys[k],r⟩) (λo=>o.map tj=mD f ((kp ys).take k) []):=by
 have hlt:ys[k - 1]'(by omega)<ys[k]:=mF.1 hy (k - 1) k (by omega) hk (by omega);obtain⟨s1,s2⟩:=rp hf ((kp ys).take<|k - 1) [] (λc hc=>by cases hc);have hol:out.length<=ys.length:=by
  have:(out.map tj).length<=ys.length:=by
   rw[hI];have h3:=nc ys;rw[cQ]at s2;simp only[List.length_nil]at s2;omega
  rwa[dY]at this
 refine(G2 hlt (by omega) (λc hc=>?_) hN).mono λo ho=>?_
 ·have h3:(tj c).xs.length<=B:=s1 _ (by rw[<-hI];exact cY.2 ⟨c,hc,rfl⟩);have h4:(tj c).xs.length=2*c.iX.length:=by unfold tj;rw[kd,dY]
  omega
 ·have hg:=B5 ys (k - 1) (by omega);have hts:(kp ys).take k=(kp ys).take (k - 1)++[(ys[k - 1]'(by omega),ys[k])]:=by
   have hl:k - 1<(kp ys).length:=by rw[nc];omega
   have e:=fq hl;rw[show k - 1+1=k by omega]at e;rw[e];congr 1;rw[aP hl]at hg;injection hg with hg
   rw[hg];simp only[show k - 1+1=k by omega]
  rw[ho,hI,hts,FW];congr 1;unfold tj;simp only[hr]
def qC(b:aK):List aH:=b.iX.map λs=>⟨s.from_,b.from_,s.to,b.to⟩
def l3(l:List aK):List aH:=l.flatMap qC
theorem FX:∀(l:List (Int×Int)),BG (dC l)=l
 | []=>rfl
 |s::l=>by rw[jh];show(s.1,s.2)::BG (dC l)=_;rw[FX l]
theorem z7:∀{l:List aK}{s:List aA},l.map tj=s.map bY->l3 l=aR s
 | [],[],_=>rfl
 | [],_::_,h=>by cases h
 |_::_,[],h=>by cases h
 |b::l,c::s,h=>by
  rw[dT,dT]at h;injection h with h1 h2
  have e:=z7 h2;show qC b++l3 l=m8 c++aR s;rw[e];congr 1;unfold tj bY at h1;injection h1 with g1 g2 g3
  unfold qC m8;rw[<-g3,FX,g1,g2,List.map_map];rfl
theorem FY(l:List aK)(b:aK):l3 (l++[b])=l3 l++qC b:=by unfold l3;rw[List.flatMap_append];simp
theorem HS{l:List aK}(hl:l.length<=1099511627776)(hs:∀b∈l,b.iX.length<=1099511627776)(hr:(l3 l).length<=1099511627776)(hN:4398046511104<=N):jd N l=some (l3 l):=by
 refine SJ ?_;unfold jd;refine RP (SD (n:=l.length) (λs=>s.2) (λk s=>s.1=l3 (l.take k)) (Go:=λs=>s.1=l3 l) (Rt:=λ_=>False) ?_ ?_ (eZ _) rfl rfl (by omega)) ?_
 ·rintro k⟨out,i⟩hk e hI;dsimp only at e hI ⊢;subst e;subst hI;rw[n9 hk,aO];have hx:l[k]? =some l[k]:=aP hk;have hsl:=hs _<|cU hk
  have hts:l3 (l.take<|k+1)=l3 (l.take k)++qC l[k]:=by rw[fq hk,FY]
  have hlen:(l3<|l.take k).length+l[k].iX.length<=(l3 l).length:=by
   have h1:(l3 l).length=(l3<|l.take<|k+1).length+(l3<|l.drop<|k+1).length:=by
    rw[<-dF];unfold l3;rw[<-List.flatMap_append,List.take_append_drop]
   have h2:(qC l[k]).length=l[k].iX.length:=by unfold qC;rw[dY]
   rw[hts,dF,h2]at h1;omega
  refine RP (SD (n:=l[k].iX.length) (λs=>s.2) (λj s=>s.1=l3 (l.take k)++(qC l[k]).take j) (Go:=λs=>s.1=l3 (l.take<|k+1)) (Rt:=λ_=>False) ?_ ?_ (eZ _) rfl (by simp) (by omega)) ?_
  ·rintro j⟨o2,i2⟩hj e hI;dsimp only at e hI ⊢;subst e;subst hI;have hy:l[k].iX[j]? =some l[k].iX[j]:=aP hj;have hjr:j<(qC l[k]).length:=by unfold qC;rw[dY];exact hj
   refine R0 hx ?_;rw[n9 hj,aO];refine R0 hx<|R0 hy<|R0 hx<|R0 hx<|R0 hy<|R0 hx<|SB ?_<|Si ⟨cD (by omega),?_⟩
   ·rw[dF,cQ];simp only[fR,List.length_nil];omega
   ·dsimp only;rw[lN];congr 1;rw[fq hjr];congr 1;simp[qC]
  ·rintro⟨o2,i2⟩e hI;dsimp only at e hI ⊢;subst e;subst hI;refine R0 hx ?_;rw[rn,aQ];refine Sn ?_;dsimp only;rw[hts];congr 1;exact mE (by unfold qC;rw[dY];omega)
  intro o ho;exact Sm ho (λs hs=>Si ⟨cD (by omega),hs⟩)<|λr hr=>hr.elim
 ·rintro⟨out,i⟩e hI;dsimp only at e hI ⊢;subst e;rw[rn,aQ];exact Sn (by rw[fS]at hI;exact hI)
 intro o ho;exact Sm ho (λs hs=>RJ hs)<|λr hr=>hr.elim
theorem z8{l:List aH}{ys:List Int}(hm:∀r∈l,r.Y0∈ys/\r.Y1∈ys){s:Int×Int}{y:Int}(hs:s∈kp ys)(hy:jT ys)(h1:s.1<=y)(h2:y<s.2):kX l y=kX l s.1:=G0 λr hr=>by
 obtain⟨m1,m2⟩:=hm r hr;obtain⟨_,_,_,h⟩:=rC hy s hs
 rcases h _ m1 with h3|h3 <;> rcases h _ m2 with h4|h4 <;> constructor <;> intro h5 <;> omega
theorem El{l:List aH}{ys:List Int}(hm:∀r∈l,r.Y0∈ys/\r.Y1∈ys){y:Int}(h:(∀c∈ys,y<c)\/(∀c∈ys,c<=y)):kX l y= []:=Kh λr hr hc=>by
 obtain⟨m1,m2⟩:=hm r hr
 rcases h with h|h
 ·have:=h _ m1;omega
 ·have:=h _ m2;omega
theorem Em{l:List aH}:∀r∈l,r.Y0∈kA (jm l)/\r.Y1∈kA (jm l):=λr hr=>⟨z6.2<|lG.2 ⟨r,hr, .inl rfl⟩,z6.2<|lG.2 ⟨r,hr, .inr rfl⟩⟩
theorem Kj(l:List aH):(kA<|jm l).length<=2*l.length:=by
 have:=tW<|jm l
 rwa[jw]at this
theorem uL{l:List aH}{s:List aA}(hc:eR (s.map bY))(hcov:∀x y,vh (s.map bY) x y=vf l x y)(hl:l.length<=10000000)(hok:∀r∈l,r.X0<r.X1)(hr:(aR s).length<=1099511627776)(hN:4398046511104<=N):
  fw N l=some (aR s):=by
 refine SJ ?_;unfold fw;refine RE (B3 (by omega) hN) ?_;have hyl:=Kj l;have hyi:=nF<|jm l
 have hf:∀y,jT (dC<|kX l y)/\(dC<|kX l y).length % 2=0:=λy=>⟨(wP hok y).1,by rw[kd];omega⟩;have hfl:∀y,(dC<|kX l y).length<=20000000:=λy=>by rw[kd];have:=tX l y;omega
 obtain⟨b1,b2⟩:=An (f:=λy=>dC<|kX l y) hf hyi (λt ht y h1 h2=>by(try dsimp only);rw[z8 Em ht hyi h1 h2]) (λy h=>by(try dsimp only);rw[El Em h];rfl);have hsame:mD (λy=>dC<|kX l y) (kp<|kA<|jm l) []=s.map bY:=uD b1 hc λx y=>by
  rw[hcov];unfold vh;rw[b2,tN (hf y).1,(wP hok y).2]
 have hmy:= @Em l;generalize kA (jm l)=ys at *;refine RP (SD (n:=max 1 ys.length) (λs=>s.2) (λk st=>1<=k/\st.1.map tj=mD (λy=>dC<|kX l y) ((kp ys).take<|k - 1) []) (Go:=λst=>st.1.map tj=s.map bY) (Rt:=λ_=>False) ?_ ?_ (k0:=1) (by omega) rfl ⟨bR _,rfl⟩ (by omega)) ?_
 ·rintro k⟨out,i⟩hk e⟨hk1,hI⟩;dsimp only at e hI ⊢;subst e;have hk2:k<ys.length:=by omega
  rw[n9 hk2,aO,je hk1 (by omega)];refine SA (by omega)<|SA hk2<|SA (by omega)<|RP (G1 (by omega) hN) λr hr=>RP (B6 hyi (f:=λy=>dC<|kX l y) hfl (by omega) (by omega) hk1 hk2 hI (by(try dsimp only);rw[hr]) hN) λo ho=>Si ⟨cD (by omega),by omega,?_⟩
  rw[Nat.add_sub_cancel];exact ho
 ·rintro⟨out,i⟩e⟨hk1,hI⟩;dsimp only at e hI ⊢;subst e;rw[Ar (by omega),aQ];refine Sn ?_;rw[mE (by rw[nc];omega),hsame]at hI;exact hI
 intro o ho;refine Sm ho (λst hs=>?_)<|λr hr=>hr.elim
 have e:=z7 hs;obtain⟨s1,s2⟩:=rp (f:=λy=>dC<|kX l y) hfl (kp ys) [] (λc hc=>by cases hc);refine RE (HS (l:=st.1) ?_ ?_ (by rw[e];exact hr) hN)<|RJ e
 ·have:(st.1.map tj).length<=ys.length:=by rw[hs,<-hsame];have:=nc ys;simp only[List.length_nil]at s2;omega
  rw[dY]at this;omega
 ·intro b hb;have h3:=s1 (tj b) (by rw[hsame,<-hs];exact cY.2 ⟨b,hb,rfl⟩);have h4:(tj b).xs.length=2*b.iX.length:=by unfold tj;rw[kd,dY]
  omega
def sd(w:Int)(p q:Bool):Bool:=((((w==1)&&(p||q))||(((w==2)&&p)&&q))||(((w==3)&&p)&&(!q)))
theorem Kk(w:Int):sd w false false=false:=by unfold sd;simp
theorem Av(gO:Bool->Bool->Bool)(a b ss:List (Int×Int))(s:Int×Int)(out:List (Int×Int)):mC gO a b (ss++[s]) out=if gO (jg a s.1) (jg b s.1)=true then lX (mC gO a b ss out) s else mC gO a b ss out:=by unfold mC;rw[List.foldl_append];rfl
theorem x6(gO:Bool->Bool->Bool)(a b:List (Int×Int)):∀(ss out:List (Int×Int)),(mC gO a b ss out).length<=out.length+ss.length
 | [],out=>by simp[mC]
 |s::ss,out=>by
  have h1:=x6 gO a b ss (if gO (jg a s.1) (jg b s.1)=true then lX out s else out);have h2:(if gO (jg a s.1) (jg b s.1)=true then lX out s else out).length<=out.length+1:=by
   split
   ·exact As _ _
   ·omega
  show(mC gO a b ss (if gO (jg a s.1) (jg b s.1)=true then lX out s else out)).length<=_;rw[fR];omega
def Aw(a b:List (Int×Int)):List Int:=kA<|dC a++dC b
theorem Dn(a b:List (Int×Int)):(Aw a b).length<=2*a.length+2*b.length:=by
 have:=tW<|dC a++dC b
 rw[dF,kd,kd]at this;exact this
theorem Kl{a b:List aG}{w:Int}(ha:a.length<=10000000)(hb:b.length<=10000000)(hN:4398046511104<=N):
  Ok (jN N a b w) (λr=>r.map sp=mC (sd w) (a.map sp) (b.map sp) (kp<|Aw (a.map sp)<|b.map sp) []):=by
 unfold jN;have hfl:∀(l:List aG),(kA<|dC<|l.map sp).length<=2*l.length:=λl=>by
  have:=tW<|dC<|l.map sp
  rwa[kd,dY]at this
 refine RP (SD (n:=a.length) (λs=>s.2) (λk s=>s.1=kA (dC<|(a.take k).map sp)) (Go:=λs=>s.1=kA (dC<|a.map sp)) (Rt:=λ_=>False) ?_ ?_ (eZ _) rfl rfl (by omega)) ?_
 ·rintro k⟨out,i⟩hk e hI;dsimp only at e hI ⊢;subst e;subst hI;rw[n9 hk,aO];have hx:a[k]? =some a[k]:=aP hk;have h1:=hfl<|a.take k
  rw[cQ]at h1;have h2:=zd (kA<|dC<|(a.take k).map sp) a[k].from_;refine R0 hx<|R0 hx<|RE (wO (nF _) (by omega) hN)<|RE (wO (ze<|nF _) (by omega) hN)<|Si ⟨cD (by omega),?_⟩
  rw[fq hk,eN,uE];exact(wh _ _ _).symm
 ·rintro⟨out,i⟩e hI;dsimp only at e hI ⊢;subst e;rw[rn,aQ];exact Sn (by rw[fS]at hI;exact hI)
 intro o ho;refine Sm ho ?_<|λr hr=>hr.elim
 rintro⟨xa,ia⟩hxa;dsimp only at hxa ⊢;subst hxa;refine RP (SD (n:=b.length) (λs=>s.2) (λk s=>s.1=kA (dC (a.map sp)++dC ((b.take k).map sp))) (Go:=λs=>s.1=Aw (a.map sp) (b.map sp)) (Rt:=λ_=>False) ?_ ?_ (eZ _) rfl (by simp[dC]) (by omega)) ?_
 ·rintro k⟨out,i⟩hk e hI;dsimp only at e hI ⊢;subst e;subst hI;rw[n9 hk,aO];have hx:b[k]? =some b[k]:=aP hk;have h1:=tW<|dC (a.map sp)++dC ((b.take k).map sp)
  rw[dF,kd,kd,dY,dY,cQ]at h1;have h2:=zd (kA<|dC (a.map sp)++dC ((b.take k).map sp)) b[k].from_;refine R0 hx<|R0 hx<|RE (wO (nF _) (by omega) hN)<|RE (wO (ze<|nF _) (by omega) hN)<|Si ⟨cD (by omega),?_⟩
  rw[fq hk,eN,uE,<-lN];exact(wh _ _ _).symm
 ·rintro⟨out,i⟩e hI;dsimp only at e hI ⊢;subst e;rw[rn,aQ];exact Sn (by rw[fS]at hI;exact hI)
 intro o ho;refine Sm ho ?_<|λr hr=>hr.elim
 rintro⟨xs,ix⟩hxs;dsimp only at hxs ⊢;have hxl:=Dn (a.map sp)<|b.map sp
 rw[<-hxs,dY,dY]at hxl;rw[<-hxs];clear hxs;refine RP (SD (n:=max 1 xs.length) (λs=>s.2) (λk st=>1<=k/\st.1.map sp=mC (sd w) (a.map sp) (b.map sp) ((kp xs).take<|k - 1) []) (Go:=λst=>st.1.map sp=mC (sd w) (a.map sp) (b.map sp) (kp xs) []) (Rt:=λ_=>False) ?_ ?_ (k0:=1) (by omega) rfl ⟨bR _,rfl⟩ (by omega)) ?_
 ·rintro k⟨out,i⟩hk e⟨hk1,hI⟩;dsimp only at e hI ⊢;subst e;have hk2:k<xs.length:=by omega
  rw[n9 hk2,aO,je hk1 (by omega)];have hx:xs[k - 1]? =some (xs[k - 1]'(by omega)):=aP _;have hy:xs[k]? =some xs[k]:=aP hk2;have hg:=B5 xs (k - 1) (by omega);have hts:(kp xs).take k=(kp xs).take (k - 1)++[(xs[k - 1]'(by omega),xs[k])]:=by
   have hl:k - 1<(kp xs).length:=by rw[nc];omega
   have e:=fq hl;rw[show k - 1+1=k by omega]at e;rw[e];congr 1;rw[aP hl]at hg;injection hg with hg
   rw[hg];simp only[show k - 1+1=k by omega]
  have hol:out.length<=xs.length:=by
   have h1:=x6 (sd w) (a.map sp) (b.map sp) ((kp xs).take<|k - 1) [];rw[<-hI,dY,cQ,nc]at h1;simp only[List.length_nil]at h1;omega
  refine R0 hx<|R0 hx<|RE (Dm (by omega) hN)<|RE (Dm (by omega) hN) ?_
  refine RP (P:=λr:List aG=>r.map sp=mC (sd w) (a.map sp) (b.map sp) ((kp xs).take k) []) (R9 (λhb=>?_)<|λhb=>?_)<|λr hr=>Si ⟨cD (by omega),by omega,by rw[Nat.add_sub_cancel];exact hr⟩
  ·refine R0 hx<|R0 hy<|RP (Dl (by omega) hN)<|λr hr=>RJ ?_
   rw[hr,hI,hts,Av,aC (show sd w _ _=true from hb)];rfl
  ·refine RJ ?_;rw[hI,hts,Av,aD (show ¬sd w _ _=true by rw[ld];exact hb)]
 ·rintro⟨out,i⟩e⟨hk1,hI⟩;dsimp only at e hI ⊢;subst e;rw[Ar (by omega),aQ];refine Sn ?_;rw[mE (by rw[nc];omega)]at hI;exact hI
 intro o ho;exact Sm ho (λs hs=>RJ hs)<|λr hr=>hr.elim
def oz(w:Int)(a b:List aH)(y:Int):List (Int×Int):=mC (sd w) (kX a y) (kX b y) (kp<|Aw (kX a y)<|kX b y) []
theorem FZ(a b:List (Int×Int)):Ends a (Aw a b)/\Ends b (Aw a b):=by
 constructor <;> intro s hs <;> constructor <;> refine z6.2<|dH.2 ?_
 ·exact .inl<|List.mem_flatMap.2 ⟨s,hs,by simp⟩
 ·exact .inl<|List.mem_flatMap.2 ⟨s,hs,by simp⟩
 ·exact .inr<|List.mem_flatMap.2 ⟨s,hs,by simp⟩
 ·exact .inr<|List.mem_flatMap.2 ⟨s,hs,by simp⟩
theorem Ax{a b:List aH}(ha:∀r∈a,r.X0<r.X1)(hb:∀r∈b,r.X0<r.X1)(w y:Int):jT (dC<|oz w a b y)/\∀x,jg (oz w a b y) x=sd w (vf a x y) (vf b x y):=by
 obtain⟨h1,h2⟩:=Fz (gO:=sd w) (Kk w) (a:=kX a y) (b:=kX b y) (xs:=Aw (kX a y)<|kX b y) (nF _) (FZ _ _).1 (FZ _ _).2;exact⟨h1,λx=>by rw[show jg (oz w a b y) x=_ from h2 x,(wP ha y).2,(wP hb y).2]⟩
theorem G3(w:Int)(a b:List aH)(y:Int):(oz w a b y).length<=2*a.length+2*b.length:=by
 have h1:=x6 (sd w) (kX a y) (kX b y) (kp<|Aw (kX a y)<|kX b y) [];have h2:=Dn (kX a y)<|kX b y
 have h3:=tX a y;have h4:=tX b y;rw[nc]at h1;unfold oz;simp only[List.length_nil]at h1;omega
theorem F0{a b:List aH}{w:Int}{s:List aA}(hc:eR (s.map bY))(hcov:∀x y,vh (s.map bY) x y=sd w (vf a x y) (vf b x y))(hla:a.length<=10000000)(hlb:b.length<=10000000)
  (ha:∀r∈a,r.X0<r.X1) (hb:∀r∈b,r.X0<r.X1) (hr:(aR s).length<=1099511627776) (hN:4398046511104<=N):gD N a b w=some (aR s):=by
 refine SJ ?_;unfold gD;refine SB (by simp only[List.length_nil];omega)<|SB (by rw[List.nil_append];omega) ?_
 rw[List.nil_append];refine RE (B3 (by rw[dF];omega) hN) ?_;have hyl:=Kj<|a++b
 rw[dF]at hyl;have hyi:=nF<|jm<|a++b
 have hmy:= @Em<|a++b
 have hma:∀r∈a,r.Y0∈kA (jm<|a++b)/\r.Y1∈kA (jm<|a++b):=λr hr=>hmy r<|List.mem_append_left _ hr
 have hmb:∀r∈b,r.Y0∈kA (jm<|a++b)/\r.Y1∈kA (jm<|a++b):=λr hr=>hmy r<|List.mem_append_right _ hr
 have hf:∀y,jT (dC<|oz w a b y)/\(dC<|oz w a b y).length % 2=0:=λy=>⟨(Ax ha hb w y).1,by rw[kd];omega⟩;have hfl:∀y,(dC<|oz w a b y).length<=80000000:=λy=>by rw[kd];have:=G3 w a b y;omega
 obtain⟨b1,b2⟩:=An (f:=λy=>dC (oz w a b y)) hf hyi (λt ht y h1 h2=>by(try dsimp only);unfold oz;rw[z8 hma ht hyi h1 h2,z8 hmb ht hyi h1 h2]) (λy h=>by
  (try dsimp only);unfold oz;rw[El hma h,El hmb h];rfl)
 have hsame:mD (λy=>dC<|oz w a b y) (kp<|kA<|jm<|a++b) []=s.map bY:=uD b1 hc λx y=>by
  rw[hcov];unfold vh;rw[b2,tN (hf y).1,(Ax ha hb w y).2]
 clear hmy hma hmb;generalize kA (jm<|a++b)=ys at *;refine RP (SD (n:=max 1 ys.length) (λs=>s.2) (λk st=>1<=k/\st.1.map tj=mD (λy=>dC<|oz w a b y) ((kp ys).take<|k - 1) []) (Go:=λst=>st.1.map tj=s.map bY) (Rt:=λ_=>False) ?_ ?_ (k0:=1) (by omega) rfl ⟨bR _,rfl⟩ (by omega)) ?_
 ·rintro k⟨out,i⟩hk e⟨hk1,hI⟩;dsimp only at e hI ⊢;subst e;have hk2:k<ys.length:=by omega
  rw[n9 hk2,aO,je hk1 (by omega)];refine SA (by omega)<|SA hk2<|SA (by omega)<|SA (by omega)<|RP (G1 (by omega) hN) λr1 hr1=>RP (G1 (by omega) hN) λr2 hr2=>?_
  have l1:r1.length<=10000000:=by have:=tX a<|ys[k - 1]'(by omega);rw[<-hr1,dY]at this;omega
  have l2:r2.length<=10000000:=by have:=tX b<|ys[k - 1]'(by omega);rw[<-hr2,dY]at this;omega
  refine RP (Kl l1 l2 hN) λr hr=>RP (B6 hyi (f:=λy=>dC<|oz w a b y) hfl (by omega) (by omega) hk1 hk2 hI (by(try dsimp only);rw[hr,hr1,hr2];rfl) hN) λo ho=>Si ⟨cD (by omega),by omega,?_⟩;rw[Nat.add_sub_cancel];exact ho
 ·rintro⟨out,i⟩e⟨hk1,hI⟩;dsimp only at e hI ⊢;subst e;rw[Ar (by omega),aQ];refine Sn ?_;rw[mE (by rw[nc];omega),hsame]at hI;exact hI
 intro o ho;refine Sm ho (λst hs=>?_)<|λr hr=>hr.elim
 have e:=z7 hs;obtain⟨s1,s2⟩:=rp (f:=λy=>dC<|oz w a b y) hfl (kp ys) [] (λc hc=>by cases hc);refine RE (HS (l:=st.1) ?_ ?_ (by rw[e];exact hr) hN)<|RJ e
 ·have:(st.1.map tj).length<=ys.length:=by rw[hs,<-hsame];have:=nc ys;simp only[List.length_nil]at s2;omega
  rw[dY]at this;omega
 ·intro b hb;have h3:=s1 (tj b) (by rw[hsame,<-hs];exact cY.2 ⟨b,hb,rfl⟩);have h4:(tj b).xs.length=2*b.iX.length:=by unfold tj;rw[kd,dY]
  omega
theorem En(n:Int):cN N n=some (lH n):=rfl
theorem B7{l:List aH}(hl:l.length<=1099511627776)(hN:4398046511104<=N):gY N l=some (lI l):=by
 refine SJ ?_;unfold gY lI
 by_cases h:2000<l.length
 ·rw[bL (by omega),aO,aC h];exact RJ rfl
 ·rw[bO (by omega),aQ,aD h];refine RP (SD (n:=l.length) (λs=>s) (λk s=>∀(j:Nat)x,j<k->l[j]? =some x->kU x=none) (Go:=λs=>l.findSome? kU=none) (Rt:=λr=>l.findSome? kU=some r) ?_ ?_ (eZ _) rfl (λj x hj=>by omega) (by omega)) ?_
  ·rintro k i hk e hI;subst e;rw[n9 hk,aO];have hx:l[k]? =some l[k]:=aP hk;have hrt:∀c,kU l[k]=some c->l.findSome? kU=some c:=λc hc=>by
    rw[List.findSome?_eq_some_iff];refine⟨l.take k,l[k],l.drop<|k+1,?_,hc,λx hx'=>?_⟩
    ·rw[List.getElem_cons_drop,List.take_append_drop]
    ·obtain⟨j,hj⟩:=eO hx';have hjk:j<k:=by have:=(bA.1 hj).1;rw[cQ]at this;omega
     exact hI j x hjk (by rw[List.getElem?_take_of_lt hjk]at hj;exact hj)
   refine R0 hx ?_;have hb:((cN N l[k].X0).bind λx110=>bif(!x110)then some true else((cN N l[k].Y0).bind λx112=>bif(!x112)then some true else((cN N l[k].X1).bind λx114=>bif(!x114)then some true else((cN N l[k].Y1).bind λx116=>some<|!x116))))=some (!fK l[k]):=by
    rw[En,En,En,En];unfold fK;simp only[aB]
    cases lH l[k].X0 <;> cases lH l[k].Y0 <;> cases lH l[k].X1 <;> rfl
   refine RE hb<|R9 (λh1=>SC<|hrt 1 ?_)<|λh1=>R9 (λh2=>SC<|hrt 13 ?_)<|λh2=>Si ⟨cD (by omega),λj x hj hjx=>?_⟩
   ·unfold kU;rw[aD (by rw[ld];simpa using h1)]
   ·unfold kU;rw[aC (by simpa using h1),aC (by rw[dM,bF,bF]at h2;exact h2)]
   ·by_cases e:j=k
    ·subst e;rw[hx]at hjx;injection hjx with hjx;rw[<-hjx]
     unfold kU;rw[aC (by simpa using h1),aD (by rw[<-ld,dM,bF,bF]at h2;exact h2)]
    ·exact hI j x (by omega) hjx
  ·rintro i e hI;subst e;rw[rn,aQ];refine Sn ?_;rw[List.findSome?_eq_none_iff];intro x hx;obtain⟨j,hj⟩:=eO hx;exact hI j x (bA.1 hj).1 hj
  intro o ho;exact Sm ho (λs hs=>RJ (by rw[hs];rfl))<|λr hr=>RJ (by rw[hr];rfl)
theorem G4{l:List aH}{s:List aA}(hs:r7 l s):BU l↔aR s=l:=⟨λ⟨t,h1,h2⟩=>by rw[hs.unique h1];exact h2,λh=>⟨s,hs,h⟩⟩
theorem uV{l:List aH}(hl:l.length<=1073741824)(hN:4398046511104<=N):fD N l=some (iZ l):=by
 refine SJ ?_;unfold fD;refine RE (B7 (by omega) hN) ?_;unfold iZ;refine R9 (λh=>RJ ?_)<|λh=>?_
 ·rw[aC (by simpa using h)]
 ·have h0:lI l=0:=by simpa using h
  rw[aD (by simpa using h0)];obtain⟨hlen,hok⟩:=Ef h0;have hbf:∀a b:aH,((decide (a.Y0<b.Y0)||((a.Y0==b.Y0)&&decide (a.X0<b.X0)))=true)↔¬(b.Y0<a.Y0\/(b.Y0=a.Y0/\b.X0<=a.X0)):=λa b=>by
   rw[dM,bT,bF,bF,beq_iff_eq];omega
  refine RP (SS (Go:=λ_=>MV l) (Rt:=λr=>r=8/\¬MV l) (λs=>∃k:Nat,s=((k:Nat):Int)/\1<=k/\∀(j:Nat)a b,j+1<k->l[j]? =some a->l[j+1]? =some b->¬(b.Y0<a.Y0\/(b.Y0=a.Y0/\b.X0<=a.X0))) (λs=>l.length - s.toNat) ?_ ⟨1,rfl,bR _,λj a b hj=>by omega⟩ (by simp;omega)) ?_
  ·rintro s⟨k,rfl,hk,hI⟩;refine R9 (λh=>?_)<|λh=>Sn λj a b ha hb=>hI j a b ?_ ha hb
   ·have hk2:k<l.length:=by have:=of_decide_eq_true h;omega
    rw[je hk (by omega)];have hx:l[k - 1]? =some (l[k - 1]'(by omega)):=aP _;have hy:l[k]? =some l[k]:=aP hk2;refine R0 hx<|R0 hy ?_
    unfold iv;rw[aB];refine R9 (λhb=>SC ⟨rfl,λhu=>?_⟩)<|λhb=>Si ⟨⟨k+1,by rw[cD (by omega)],by omega,λj a b hj ha hb'=>?_⟩,by rw[cD (by omega)];simp only[cI];omega⟩
    ·have:=(hbf _ _).2<|hu (k - 1) _ _ hx (by rw[show k - 1+1=k by omega];exact hy)
     rw[this]at hb;cases hb
    ·by_cases e:j+1<k
     ·exact hI j a b e ha hb'
     ·have:j+1=k:=by omega
      have h1:l[k - 1]? =some a:=by rw[show k - 1=j by omega];exact ha
      have h2:l[k]? =some b:=by rw[<-this];exact hb'
      rw[hx]at h1;rw[hy]at h2;injection h1 with h1;injection h2 with h2
      rw[<-h1,<-h2];refine(hbf _ _).1 ?_;rw[Bool.not_eq_false']at hb;exact hb
   ·have:=of_decide_eq_false h;have:=(bA.1 hb).1;omega
  ·rintro o ho;refine Sm ho (λs hu=>?_)<|λr hr=>RJ (by rw[hr.1,aD hr.2])
   rw[aC hu];obtain⟨s,_,hs⟩:=pN (N:=N) (l:=l) (by omega) hok (by omega);obtain⟨z1,z2,z3⟩:=hs.FK;have z4:2*l.length*(2*l.length)<=4000*4000:=Nat.mul_le_mul (by omega) (by omega);refine RE (uL hs.can hs.cover (by omega) (λr hr=>(hok r hr).x) (by omega) hN)<|RE (Ej (by omega) hN) ?_
   have hiff:=G4 hs;refine R9 (λh=>RJ ?_)<|λh=>RJ ?_
   ·have h:¬l=aR s:=by simpa using h
    rw[aD<|λh'=>h (hiff.1 h').symm]
   ·have h:l=aR s:=by simpa using h
    rw[aC<|hiff.2 h.symm]
end
theorem B8(n:Nat)(g:Nat->Nat):((List.range<|n+1).map g).sum=((List.range n).map g).sum+g n:=by
 rw[List.range_succ,eN,List.sum_append];simp
def Ph(r:aH)(x y:Int):Bool:=(decide (r.X0<=x)&&decide (x<r.X1))&&(decide (r.Y0<=y)&&decide (y<r.Y1))
def O4(a b:aH):Prop:=∀x y,¬(Ph a x y=true/\Ph b x y=true)
theorem Lj{r:aH}{x y:Int}:Ph r x y=true↔(r.X0<=x/\x<r.X1)/\r.Y0<=y/\y<r.Y1:=by unfold Ph;simp
theorem zh:∀{xs:List Int},jT xs->(BG xs).Pairwise (λp q=>p.2<q.1)
 | [],_=>jX
 | [a],_=>jX
 |a::b::l,h=>by
  unfold BG;rw[oc];exact⟨λq hq=>h.tail.head q.1 (Ea q hq).1,zh h.tail.tail⟩
def sf(a b:aH):Prop:=a.Y1<=b.Y0\/(a.Y0=b.Y0/\a.Y1=b.Y1/\a.X1<b.X0)
theorem sf.apart{a b:aH}(h:sf a b):O4 a b:=λx y⟨h1,h2⟩=>by
 rw[Lj]at h1 h2
 rcases h with h|h <;> omega
theorem rq:∀{s:List aA},eR (s.map bY)->(aR s).Pairwise sf
 | [],_=>jX
 |b::s,h=>by
  rw[m9,nj];refine⟨?_,rq h.tail,λx hx y hy=>?_⟩
  ·unfold m8;rw[List.pairwise_map];exact List.Pairwise.imp (λhpq=> .inr ⟨rfl,rfl,hpq⟩)<|zh (h.each (bY b) (by simp)).2.2.1
  ·unfold m8 at hx;obtain⟨p,_,rfl⟩:=cY.1 hx;obtain⟨c,hc,q,_,rfl⟩:=rD hy;exact .inl<|h.BB (bY c)<|cY.2 ⟨c,hc,rfl⟩
theorem tY{s:List aA}(h:eR (s.map bY)):∀r∈aR s,r.X0<r.X1/\r.Y0<r.Y1:=λr hr=>by
 obtain⟨b,hb,p,hp,rfl⟩:=rD hr;have hc:=h.each (bY b)<|cY.2 ⟨b,hb,rfl⟩
 exact⟨GM hc.2.2.1 p hp,hc.1⟩
theorem F1{s:List aA}(h:eR (s.map bY)):(aR s).Nodup:=by
 have h1:=rq h;have h2:=tY h;refine List.Pairwise.imp_of_mem (λ{a b}ha hb hab e=>?_) h1;subst e;have:=h2 a ha
 rcases hab with h|h <;> omega
def qD(s:List Bd):Nat:=(s.map<|λb=>b.xs.length / 2).sum
theorem wi(s t:List Bd):qD (s++t)=qD s+qD t:=by unfold qD;rw[eN,List.sum_append]
theorem IJ(s:List Bd)(b:Bd):qD (jD s b)<=qD s+b.xs.length / 2:=by
 unfold jD;split
 ·omega
 ·split
  ·rename_i c hc;have hsp:=r6 hc;have e:qD s=qD s.dropLast+c.xs.length / 2:=by
    conv=>lhs;rw[hsp,wi]
    simp[qD]
   split
   ·rw[wi,e];simp[qD]
   ·rw[wi];simp[qD]
  ·simp[qD]
structure Rc (t:List Bd):Prop where
 each:∀b∈t,b.y0<b.y1/\jT b.xs/\b.xs.length % 2=0
 ord:t.Pairwise (λb c=>b.y1<=c.y0)
theorem fold_push:∀(t out:List Bd),Rc t->eR out->(∀c∈out,∀b∈t,c.y1<=b.y0)->eR (t.foldl jD out)/\qD (t.foldl jD out)<=qD out+qD t/\
  ∀y,rowAt (t.foldl jD out) y=if(∃b∈t,b.y0<=y/\y<b.y1)then rowAt t y else rowAt out y
 | [],out,_,hc,_=>⟨hc,by simp[qD],λy=>by simp⟩
 |b::t,out,hl,hc,ho=>by
  have hb:=hl.each b (by simp);have hord:=oc.1 hl.ord;have ho1:∀c∈out,c.y1<=b.y0:=λc h=>ho c h b (by simp);have h1:=wF hc ho1 hb.2.1 hb.2.2;have htop:=wG ho1 (show b.y0<=b.y1 by omega);obtain⟨f1,f2,f3⟩:=fold_push t (jD out b) ⟨λc hcm=>hl.each c<|g9 _ hcm,hord.2⟩ h1 (λc hcm d hd=>by have:=htop c hcm;have:=hord.1 d hd;omega);refine⟨f1,?_,λy=>?_⟩
  ·have:=IJ out b;have e:qD (b::t)=b.xs.length / 2+qD t:=by simp[qD]
   rw[List.foldl_cons,e];omega
  ·rw[List.foldl_cons,f3 y,wE ho1 (λc hcm=>(hc.each c hcm).1)<|λh=>absurd h (by omega),m6]
   by_cases hy:b.y0<=y/\y<b.y1
   ·have hn:¬∃c∈t,c.y0<=y/\y<c.y1:=λ⟨c,hcm,h⟩=>by have:=hord.1 c hcm;omega
    rw[aD hn,aC hy,aC ⟨b,by simp,hy⟩,aC hy]
   ·rw[aD hy]
    by_cases h:∃c∈t,c.y0<=y/\y<c.y1
    ·obtain⟨c,hcm,h⟩:=h;rw[aC ⟨c,hcm,h⟩,aC ⟨c,g9 _ hcm,h⟩,aD hy]
    ·rw[aD h,aD hy,aD (show ¬∃c∈b::t,c.y0<=y/\y<c.y1 from λ⟨c,hcm,h2⟩=>by
      rcases dE.1 hcm with rfl|hcm
      ·exact hy h2
      ·exact h ⟨c,hcm,h2⟩)]
noncomputable def qO(C:List aH)(b:aA):Bd:=⟨b.Y0,b.Y1,dC<|(BG b.Xs).filter<|λp=>decide<|(⟨p.1,b.Y0,p.2,b.Y1⟩:aH)∈C⟩
theorem IK{l m:List (Int×Int)}(h:l.Sublist m):(dC l).Sublist (dC m):=by
 induction h with
 |slnil=>exact List.Sublist.refl _
 |cons a _ ih=>rw[jh];exact(ih.cons _).cons _
 |cons_cons a _ ih=>rw[jh,jh];exact(ih.cons_cons _).cons_cons _
theorem B9(l:List (Int×Int)):(dC l).length % 2=0/\(dC l).length / 2=l.length:=by rw[kd];omega
theorem Dp{s p:List aA}{C:List aH}(hs:eR (s.map bY))(hp:eR (p.map bY))(hC:∀r∈C,r∈aR s)(hcov:∀x y,vh (p.map bY) x y=vf C x y):(aR p).length<=C.length:=by
 have hinc:∀b∈s,jT (qO C b).xs:=λb hb=>by
  have h1:=HK hs b hb;have h2:=IK<|List.filter_sublist (l:=BG b.Xs) (p:=λp=>decide<|(⟨p.1,b.Y0,p.2,b.Y1⟩:aH)∈C)
  rw[yW<|tT hs b hb]at h2;exact List.Pairwise.sublist h2 h1
 have hlow:Rc (s.map<|qO C):=by
  refine⟨λb hb=>?_,?_⟩
  ·obtain⟨c,hc,rfl⟩:=cY.1 hb;exact⟨(hs.each (bY c)<|cY.2 ⟨c,hc,rfl⟩).1,hinc c hc,(B9 _).1⟩
  ·have:=hs.ord;rw[List.pairwise_map]at this ⊢;exact List.Pairwise.imp (λh=>h.1) this
 obtain⟨f1,f2,f3⟩:=fold_push (s.map<|qO C) [] hlow eR.nil (λc hc=>by cases hc);have hrow:∀{t:List aA},(∀b∈t,b∈s)->∀x y,pw (rowAt (t.map<|qO C) y) x=true->vf C x y=true:=by
  intro t ht x y h
  induction t with
  |nil=>cases h
  |cons b t ih=>
   rw[dT,m6]at h;split at h
   ·rename_i hy;have hbm:=ht b (by simp);have h1:=hinc b hbm;have h:pw (dC<|(BG b.Xs).filter<|λp=>decide<|(⟨p.1,b.Y0,p.2,b.Y1⟩:aH)∈C) x=true:=h;rw[tN h1,tM]at h;obtain⟨q,hq,h2⟩:=h;have hq:=k9.1 hq;exact jl.2 ⟨_,of_decide_eq_true hq.2,h2,hy⟩
   ·exact ih (λc hc=>ht c<|g9 _ hc) h
 have hrow2:∀x y,vf C x y=true->pw (rowAt (s.map<|qO C) y) x=true:=by
  intro x y h;obtain⟨r,hr,h1,h2⟩:=jl.1 h;obtain⟨b,hb,q,hq,rfl⟩:=rD<|hC r hr
  dsimp only at h1 h2;have key:∀{t:List aA},(∀c∈t,c∈s)->eR (t.map bY)->b∈t->rowAt (t.map<|qO C) y=(qO C b).xs:=by
   intro t ht hc hbt
   induction t with
   |nil=>cases hbt
   |cons c t ih=>
    rw[dT,m6]
    by_cases hy:c.Y0<=y/\y<c.Y1
    ·rw[aC (show(qO C c).y0<=y/\y<(qO C c).y1 from hy)]
     rcases dE.1 hbt with rfl|hbt
     ·rfl
     ·have:=hc.BB (bY b)<|cY.2 ⟨b,hbt,rfl⟩
      have e1:(bY c).y1=c.Y1:=rfl;have e2:(bY b).y0=b.Y0:=rfl;omega
    ·rw[aD (show ¬((qO C c).y0<=y/\y<(qO C c).y1)from hy)]
     rcases dE.1 hbt with rfl|hbt
     ·exact absurd h2 hy
     ·exact ih (λd hd=>ht d<|g9 _ hd) hc.tail hbt
  rw[key (λc hc=>hc) hs hb];have h1':=hinc b hb;show pw (dC<|(BG b.Xs).filter<|λp=>decide<|(⟨p.1,b.Y0,p.2,b.Y1⟩:aH)∈C) x=true;rw[tN h1',tM];exact⟨q,k9.2 ⟨hq,bL hr⟩,h1⟩
 have hsame:p.map bY=(s.map<|qO C).foldl jD []:=uD hp f1 λx y=>by
  rw[hcov,dZ];have e:rowAt ((s.map<|qO C).foldl jD []) y=rowAt (s.map<|qO C) y:=by
   rw[f3]
   by_cases h:∃b∈s.map (qO C),b.y0<=y/\y<b.y1
   ·rw[aC h]
   ·rw[aD h]
    exact(lW λb hb=>by
     have:¬(b.y0<=y/\y<b.y1):=λh2=>h ⟨b,hb,h2⟩
     omega).symm
  unfold vh;rw[e];exact⟨hrow2 x y,hrow (λb hb=>hb) x y⟩
 have hc1:(aR p).length=qD (p.map bY):=by
  have:∀p:List aA,(aR p).length=qD (p.map bY):=λp=>by
   induction p with
   |nil=>rfl
   |cons b p ih=>rw[m9,dF,nD,ih];unfold qD;rw[dT,dT,List.sum_cons];rfl
  exact this p
 have hc2:∀s:List aA,qD (s.map<|qO C)=((aR s).filter<|λr=>decide<|r∈C).length:=λs=>by
  induction s with
  |nil=>rfl
  |cons b s ih=>
   rw[m9,kJ,dF,<-ih];unfold qD;rw[dT,dT,List.sum_cons];congr 1;show(dC _).length / 2=_;rw[(B9 _).2];unfold m8;rw[List.filter_map,dY];rfl
 have hc3:((aR s).filter<|λr=>decide<|r∈C).length<=C.length:=fP (List.Nodup.sublist List.filter_sublist<|F1 hs) λr hr=>of_decide_eq_true (k9.1 hr).2;rw[hc1,hsame];have e0:qD ([]:List Bd)=0:=rfl;have:=hc2 s;omega
section
variable {N:Nat}
theorem xt{all:List aH}(w:aH->Nat):∀(c:List Nat),((c.filterMap<|λi=>all[i]?).map w).sum=(c.map<|λi=>(all[i]?).elim 0 w).sum
 | []=>rfl
 |i::c=>by
  rw[dT,List.sum_cons,<-xt w c]
  cases h:all[i]? with
  |none=>rw[List.filterMap_cons_none (f:=λi=>all[i]?) h];simp
  |some x=>rw[List.filterMap_cons_some (f:=λi=>all[i]?) h,dT,List.sum_cons];rfl
theorem Ll{all:List aH}{u:Nat->Nat}(h:∀i,i<all.length->u i∈bW all.length u)(w:aH->Nat):((bW all.length u).map<|λk=>((nN all all.length u k).map w).sum).sum=(all.map w).sum:=by
 have e:(λk=>((nN all all.length u k).map w).sum)=λk=>(((List.range all.length).filter<|λx=>decide<|u x=k).map<|λi=>(all[i]?).elim 0 w).sum:=by
  funext k;unfold nN;rw[xt];rfl
 rw[e,FT (oQ _ _) u _<|λx hx=>h x<|ni.1 hx];have:∀m,m<=all.length->((List.range m).map<|λi=>(all[i]?).elim 0 w).sum=((all.take m).map w).sum:=by
  intro m
  induction m with
  |zero=>intro _;rfl
  |succ m ih=>
   intro hm;rw[B8,ih (by omega),fq (by omega),eN,List.sum_append,aP (by omega)];simp
 rw[this _<|bR _,fS]
theorem Ca:∀{l m:List Nat},l.length=m.length->(∀(j x y:Nat),l[j]? =some x->m[j]? =some y->x<=y)->l.sum<=m.sum
 | [],[],_,_=>bR _
 | [],_::_,h,_=>by simp at h
 |_::_,[],h,_=>by simp at h
 |a::l,b::m,h,hle=>by
  have h1:=hle 0 a b rfl rfl;have h2:=Ca (l:=l) (m:=m) (by simpa using h) λj x y hx hy=>hle (j+1) x y (by simpa using hx) (by simpa using hy);rw[List.sum_cons,List.sum_cons];omega
theorem HT{r hs:List aH}{s:List aA}(h1:∀x∈r,fK x=true)(h2:∀x∈hs,fK x=true)(hc:eR (s.map bY))(hl:yb (tQ r++tQ hs) (jm r++jm hs) (s.map bY)):∀q∈aR s,fK q=true/\q.X0<q.X1/\q.Y0<q.Y1:=by
 intro q hq;have hp:=tY hc q hq;obtain⟨b,hb,p,hpm,rfl⟩:=rD hq;have hll:=hl (bY b)<|cY.2 ⟨b,hb,rfl⟩
 have hm:=Ea p hpm;have bx:∀c∈tQ r++tQ hs,-1000000<=c/\c<=1000000:=λc hcm=>by
  rcases dH.1 hcm with h|h
  ·obtain⟨x,hx,h⟩:=tR.1 h;have:=nb<|h1 x hx
   rcases h with rfl|rfl <;> omega
  ·obtain⟨x,hx,h⟩:=tR.1 h;have:=nb<|h2 x hx
   rcases h with rfl|rfl <;> omega
 have by':∀c∈jm r++jm hs,-1000000<=c/\c<=1000000:=λc hcm=>by
  rcases dH.1 hcm with h|h
  ·obtain⟨x,hx,h⟩:=lG.1 h;have:=nb<|h1 x hx
   rcases h with rfl|rfl <;> omega
  ·obtain⟨x,hx,h⟩:=lG.1 h;have:=nb<|h2 x hx
   rcases h with rfl|rfl <;> omega
 have g1:=bx _<|hll.2.2 p.1 hm.1
 have g2:=bx _<|hll.2.2 p.2 hm.2
 have g3:=by' _ hll.1
 have g4:=by' _ hll.2.1
 exact⟨BT ⟨g1,g3,g2,g4⟩,hp⟩
structure sg (r hs:List aH) (s:List aA) (u:Nat->Nat) (ps:List (List aA)):Prop where
 r1:∀x∈r,fK x=true
 r2:∀x∈hs,fK x=true
 k1:∀x∈r,C9 x
 k2:∀x∈hs,C9 x
 dr:uG r hs s
 pt:sO s u ps
 BZ:(aR s).length<=2000
theorem sg.part{r hs:List aH}{s:List aA}{u:Nat->Nat}{ps:List (List aA)}(h:sg r hs s u ps){p:List aA}(hp:p∈ps):eR (p.map bY)/\(aR p).length<=2000/\∀q∈aR p,fK q=true/\q.X0<q.X1/\q.Y0<q.Y1:=by
 obtain⟨sx,sy⟩:=h.dr.small h.k1 h.k2;obtain⟨j,k,g1,g2,g3,g4⟩:=BX h.pt h.dr.can h.dr.lim sx sy hp
 have:=Dp h.dr.can g3.can (λx hx=>by
  obtain⟨i,_,_,hi⟩:=mb.1 hx
  exact gq hi) g3.cover
 have h2:=BP (aR s) (aR s).length u k;have:=h.BZ;exact⟨g3.can,by omega,HT h.r1 h.r2 g3.can g4⟩
theorem sg.bW{r hs:List aH}{s:List aA}{u:Nat->Nat}{ps:List (List aA)}(h:sg r hs s u ps):∀i,i<(aR s).length->u i∈Gk.bW (aR s).length u:=λi hi=>jE.2 ⟨by have:=h.pt.join.le i hi;omega,h.pt.join.rr i hi⟩
theorem sg.total{r hs:List aH}{s:List aA}{u:Nat->Nat}{ps:List (List aA)}(h:sg r hs s u ps):(ps.map<|λp=>(aR p).length).sum<=(aR s).length:=by
 have h1:=Ll h.bW<|λ_=>1
 have one:∀l:List aH,(l.map<|λ_=>1).sum=l.length:=λl=>by
  induction l with
  |nil=>rfl
  |cons x l ih=>simp only[dT,List.sum_cons,ih,fR];omega
 simp only[one]at h1;rw[<-h1];refine Ca (by simp[h.pt.len]) λj x y hx hy=>?_;rw[i5,Option.map_eq_some_iff]at hx hy;obtain⟨p,hp,rfl⟩:=hx;obtain⟨k,hk,rfl⟩:=hy;have hs:=h.pt.each j k p hk hp
 exact Dp h.dr.can hs.can (λx hx=>by
  obtain⟨i,_,_,hi⟩:=mb.1 hx
  exact gq hi) hs.cover
theorem F2{ps:List (List aA)}{x y:Int}:vf (ps.flatMap aR) x y=true↔∃p∈ps,vf (aR p) x y=true:=by
 rw[jl];constructor
 ·rintro⟨r,hr,h⟩;obtain⟨p,hp,hrp⟩:=List.mem_flatMap.1 hr;exact⟨p,hp,jl.2 ⟨r,hrp,h⟩⟩
 ·rintro⟨p,hp,h⟩;obtain⟨r,hr,h⟩:=jl.1 h;exact⟨r,List.mem_flatMap.2 ⟨p,hp,hr⟩,h⟩
theorem sg.cover{r hs:List aH}{s:List aA}{u:Nat->Nat}{ps:List (List aA)}(h:sg r hs s u ps)(x y:Int):vf (ps.flatMap aR) x y=vh (s.map bY) x y:=by
 rw[<-pO h.dr.can,dZ,F2];constructor
 ·rintro⟨p,hp,hc⟩;obtain⟨j,hj⟩:=eO hp;have hjl:=(bA.1 hj).1;have hk:(Gk.bW (aR s).length u)[j]? =some ((Gk.bW (aR s).length u)[j]'(by rw[<-h.pt.len];exact hjl)):=aP _;have hs:=h.pt.each j _ _ hk hj;rw[pO hs.can,hs.cover]at hc;obtain⟨q,hq,h2⟩:=jl.1 hc;obtain⟨i,_,_,hi⟩:=mb.1 hq;exact jl.2 ⟨q,gq hi,h2⟩
 ·intro hc;obtain⟨q,hq,h2⟩:=jl.1 hc;obtain⟨i,hi⟩:=eO hq;have hil:=(bA.1 hi).1;obtain⟨j,hj⟩:=eO<|h.bW i hil
  have hjl:j<ps.length:=by rw[h.pt.len];exact(bA.1 hj).1
  have hs:=h.pt.each j _ _ hj<|aP hjl
  refine⟨_,cU hjl,?_⟩;rw[pO hs.can,hs.cover];exact jl.2 ⟨q,mb.2 ⟨i,hil,rfl,hi⟩,h2⟩
section
variable {a:gm}{me:List (List aA)}{gH:List (List (List aA))}{r:Nat->Nat}{gs:List dD}{ofP ofB qM:List Int}{qB:List gC}
end
end
def Cb(a b:aH):Prop:=(0<min a.X1 b.X1 - max a.X0 b.X0/\0<=min a.Y1 b.Y1 - max a.Y0 b.Y0)\/(0<=min a.X1 b.X1 - max a.X0 b.X0/\0<min a.Y1 b.Y1 - max a.Y0 b.Y0)
theorem IL{all:List aH}(hB:all.Pairwise sf)(hp:∀r∈all,r.X0<r.X1/\r.Y0<r.Y1){i j:Nat}{a c:aH}(ha:all[i]? =some a)(hc:all[j]? =some c):Cb a c↔i=j\/zp all i j\/zp all j i:=by
 have h1:zp all i j↔Ee a c:=⟨λ⟨a',c',e1,e2,h⟩=>by rw[ha]at e1;rw[hc]at e2;injection e1 with e1;injection e2 with e2;rw[e1,e2];exact h,λh=>⟨a,c,ha,hc,h⟩⟩;have h2:zp all j i↔Ee c a:=⟨λ⟨a',c',e1,e2,h⟩=>by rw[hc]at e1;rw[ha]at e2;injection e1 with e1;injection e2 with e2;rw[e1,e2];exact h,λh=>⟨c,a,hc,ha,h⟩⟩;have p1:=hp a<|gq ha
 have p2:=hp c<|gq hc
 rw[h1,h2];obtain⟨l1,e1⟩:=bA.1 ha;obtain⟨l2,e2⟩:=bA.1 hc;unfold Cb Ee
 rcases Nat.lt_trichotomy i j with h|h|h
 ·have:=mF.1 hB i j l1 l2 h;rw[e1,e2]at this;unfold sf at this
  rcases this with this|this
  ·constructor
   ·rintro(h3|h3)
    ·exact .inr<|.inl ⟨by omega,by omega,by omega⟩
    ·omega
   ·rintro(h3|h3|h3)
    ·omega
    ·left;omega
    ·omega
  ·constructor
   ·rintro(h3|h3) <;> omega
   ·rintro(h3|h3|h3) <;> omega
 ·subst h;rw[ha]at hc;injection hc with hc;subst hc
  exact⟨λ_=> .inl rfl,λ_=> .inl (by omega)⟩
 ·have:=mF.1 hB j i l2 l1 h;rw[e1,e2]at this;unfold sf at this
  rcases this with this|this
  ·constructor
   ·rintro(h3|h3)
    ·exact .inr<|.inr ⟨by omega,by omega,by omega⟩
    ·omega
   ·rintro(h3|h3|h3)
    ·omega
    ·omega
    ·left;omega
  ·constructor
   ·rintro(h3|h3) <;> omega
   ·rintro(h3|h3|h3) <;> omega
theorem G5{α:Type}{q q':List α}(h:q <+:q'){t:Nat}{x:α}(hx:q[t]? =some x):q'[t]? =some x:=by
 obtain⟨r,rfl⟩:=h;rw[gz (bA.1 hx).1];exact hx
def uM(f:Int->Int->Bool)(x y:Int):Prop:=f x y=true/\∀x' y',f x' y'=true->y<y'\/(y=y'/\x<=x')
theorem uM.unique{f:Int->Int->Bool}{x y x' y':Int}(h:uM f x y)(h':uM f x' y'):x=x'/\y=y':=by
 have h1:=h.2 _ _ h'.1;have h2:=h'.2 _ _ h.1;omega
theorem G6{a:aH}{l:List aH}(hp:∀r∈a::l,r.X0<r.X1/\r.Y0<r.Y1)(hB:∀r∈l,sf a r):uM (vf<|a::l) a.X0 a.Y0:=by
 have pa:=hp a (by simp);refine⟨jl.2 ⟨a,by simp,by omega,by omega⟩,λx' y' h=>?_⟩;obtain⟨r,hr,hx,hy⟩:=jl.1 h
 rcases dE.1 hr with rfl|hr
 ·omega
 ·have:=hB r hr;unfold sf at this;omega
theorem G7{s:List aA}(hc:eR (s.map bY))(hne:s≠[]):∃r t,aR s=r::t/\uM (λx y=>vh (s.map bY) x y) r.X0 r.Y0/\HQ s= ⟨r.X0,r.Y0⟩:=by
 cases s with
 |nil=>exact absurd rfl hne
 |cons b s=>
  have hx:=hc.each (bY b) (by simp);have hxs:b.Xs≠[]:=hx.2.1;have he:b.Xs.length % 2=0:=hx.2.2.2;obtain⟨x0,x1,xs,e⟩:∃x0 x1 xs,b.Xs=x0::x1::xs:=by
   match hb:b.Xs with
   | []=>exact absurd hb hxs
   | [x0]=>rw[hb]at he;simp at he
   |x0::x1::xs=>exact⟨x0,x1,xs,rfl⟩
  have hr:aR (b::s)= ⟨x0,b.Y0,x1,b.Y1⟩::((BG xs).map (λp=>(⟨p.1,b.Y0,p.2,b.Y1⟩:aH))++aR s):=by
   rw[m9];unfold m8;rw[e];rfl
  have hB:=rq hc;have hpos:=tY hc;rw[hr]at hB hpos;refine⟨_,_,hr,?_,by unfold HQ;dsimp only;rw[e];rfl⟩;have:=G6 hpos (oc.1 hB).1;rw[<-hr]at this;refine⟨?_,λx' y' h=>this.2 x' y' ?_⟩
  ·show vh _ _ _=true;rw[<-pO hc];exact this.1
  ·rw[pO hc];exact h
theorem Dq{all:List aH}{u:Nat->Nat}(hB:all.Pairwise sf)(hp:∀r∈all,r.X0<r.X1/\r.Y0<r.Y1)(hJ:Joined all u){h:Nat}{a:aH}(ha:all[h]? =some a)(hu:u h=h):uM (vf<|nN all all.length u h) a.X0 a.Y0:=by
 obtain⟨hl,e⟩:=bA.1 ha;have pa:=hp a<|gq ha
 refine⟨jl.2 ⟨a,mb.2 ⟨h,hl,hu,ha⟩,by omega,by omega⟩,λx' y' hc=>?_⟩;obtain⟨r,hr,hx,hy⟩:=jl.1 hc;obtain⟨k,hk,huk,hrk⟩:=mb.1 hr;have hle:=hJ.le k hk
 by_cases ek:k=h
 ·subst ek;rw[ha]at hrk;injection hrk with hrk;subst hrk;omega
 ·obtain⟨hl2,e2⟩:=bA.1 hrk;have:=mF.1 hB h k hl hl2 (by omega);rw[e,e2]at this;unfold sf at this;omega
theorem uN{u:Nat->Nat}:∀(d i:Nat),∃t,bW (i+d) u=bW i u++t
 | 0,i=>⟨[],by simp⟩
 |d+1,i=>by
  obtain⟨t,ht⟩:=uN (u:=u) d i;rw[<-Nat.add_assoc,iU,ht];split
  ·exact⟨t++[i+d],by simp⟩
  ·exact⟨t,rfl⟩
theorem Km{u:Nat->Nat}{i n:Nat}(hi:i<n)(hu:u i=i):(bW n u)[(bW i u).length]? =some i:=by
 obtain⟨t,ht⟩:=uN (u:=u) (n -(i+1))<|i+1
 rw[show i+1+(n -(i+1))=n by omega]at ht;rw[ht,iU,aC hu];simp
section
variable {N:Nat}
theorem IM{a b:aH}(ha:C9 a)(hb:C9 b):iW N a b=some (decide<|Cb a b):=by
 have a1:=ha.s1;have a2:=ha.s2;have a3:=ha.s3;have a4:=ha.s4;have b1:=hb.s1;have b2:=hb.s2;have b3:=hb.s3;have b4:=hb.s4;unfold small at a1 a2 a3 a4 b1 b2 b3 b4;unfold iW;rw[zf,zf,pq,pq,eU (x:=min a.X1 b.X1 - max a.X0 b.X0) (by omega) (by omega),eU (x:=min a.Y1 b.Y1 - max a.Y0 b.Y0) (by omega) (by omega)];congr 1;rw[dZ];unfold Cb;simp only[dM,bT,bF,gt_iff_lt,ge_iff_le]
theorem insert_eq{l:List (List aH)}{r0:aH}{t:List aH}(hl:l.length<=1000000)(hN:4398046511104<=N)(h:∀x,l[l.length - 1]? =some x->∃x0 t',x=x0::t'/\¬(r0.Y0<x0.Y0\/(r0.Y0=x0.Y0/\r0.X0<x0.X0))):jt N l (r0::t)=some (l++[r0::t]):=by
 refine SJ ?_;unfold jt;refine RP (SS (Go:=λs=>s=((l.length:Nat):Int)) (Rt:=λ_=>False) (λs=>s=((l.length:Nat):Int)) (λs=>0) ?_ rfl (by omega)) ?_
 ·rintro s rfl
  by_cases h0:l.length=0
  ·rw[bO (by omega),aQ,aB,aQ];exact Sn rfl
  ·rw[bL (by omega),aO,je (by omega) (by omega)];have hx:l[l.length - 1]? =some (l[l.length - 1]'(by omega)):=aP _;obtain⟨x0,t',e,hn⟩:=h _ hx;have i1:idx (r0::t) 0=some r0:=rfl;have i2:idx (l[l.length - 1]'(by omega)) 0=some x0:=by rw[e];rfl
   rw[i1,aB,dS hx,aB,i2,aB];unfold iv
   rw[aB,aB,show((decide (r0.Y0<x0.Y0))||((r0.Y0==x0.Y0)&&(decide (r0.X0<x0.X0))))=false by
    rw[<-ld,dM,bT,bF,bF,beq_iff_eq];exact hn,aQ]
   exact Sn rfl
 intro o ho;refine Sm ho ?_<|λr hr=>hr.elim
 rintro s rfl;refine RE (tx l l.length<|bR _)<|SB ?_<|SB ?_<|RE (rP l l.length<|bR _)<|SB ?_<|RJ ?_
 ·rw[fS];simp only[List.length_nil];omega
 ·rw[fS];simp only[List.length_nil,dF,fR];omega
 ·rw[fS,List.drop_length];simp only[List.length_nil,dF,fR];omega
 ·simp
structure BI (all:List aH) (u:Nat->Nat) (i:Nat) (q:List Nat) (done:List Bool) (own:List aH):Prop where
 len:done.length=all.length
 nd:q.Nodup
 lt:∀k∈q,k<all.length/\u k=i
 hd:i∈q
 dn:∀k,k<all.length->done[k]? =some (decide<|u k<i\/k∈q)
 ow:own.map some=q.map (λk=>all[k]?)
theorem BI.O5{all:List aH}{u:Nat->Nat}{i:Nat}{q:List Nat}{done:List Bool}{own:List aH}(h:BI all u i q done own):own.length=q.length:=by
 have:=congrArg List.length h.ow;rwa[dY,dY]at this
theorem BI.BZ{all:List aH}{u:Nat->Nat}{i:Nat}{q:List Nat}{done:List Bool}{own:List aH}(h:BI all u i q done own):q.length<=all.length:=by
 have:=fP h.nd (m:=List.range all.length) (λk hk=>by rw[ni];exact(h.lt k hk).1);rwa[List.length_range]at this
theorem BI.at_{all:List aH}{u:Nat->Nat}{i:Nat}{q:List Nat}{done:List Bool}{own:List aH}(h:BI all u i q done own){p k:Nat}(hk:q[p]? =some k):own[p]? =all[k]? :=by
 have e:=congrArg (λl=>l[p]?) h.ow;simp only[i5,hk,Option.map_some]at e
 cases ho:own[p]? with
 |none=>rw[ho]at e;cases e
 |some x=>rw[ho]at e;injection e
theorem BI.mem{all:List aH}{u:Nat->Nat}{i:Nat}{q:List Nat}{done:List Bool}{own:List aH}(h:BI all u i q done own){r:aH}:r∈own↔∃k∈q,all[k]? =some r:=by
 have:r∈own↔some r∈own.map some:=by simp
 rw[this,h.ow,cY]
theorem F3{s:List aA}{u:Nat->Nat}{ps:List (List aA)}(hc:eR (s.map bY))(hP:sO s u ps)(hn:(aR s).length<=2000)(hok:∀r∈aR s,C9 r)(hps:∀p∈ps,(aR p).length<=2000)(hN:4398046511104<=N):
  gE N (aR s)=some (ps.map aR):=by
 refine SJ ?_;have hB:=rq hc;have hpos:=tY hc;have hJ:=hP.join;have hlen:=hP.len;have heach:=hP.each;clear hP hc;generalize aR s=all at *;unfold gE;refine RE (rf false (by omega)) ?_;have hadj:∀a b,(zp all a b\/zp all b a)->u a=u b:=λa b h=>h.elim (λh=>hJ.co a b h)<|λh=>(hJ.co b a h).symm
 refine RP (SD (n:=all.length) (λst=>st.2.2) (λi st=>st.1.length=all.length/\(∀k,k<all.length->st.1[k]? =some (decide (u k<i)))/\st.2.1=(ps.take (bW i u).length).map aR) (Go:=λst=>st.2.1=ps.map aR) (Rt:=λ_=>False) ?_ ?_ (eZ _) rfl
  ⟨by simp,λk hk=>by simp[hk],by simp[bW]⟩ (by omega)) ?_
 ·rintro i⟨done,out,ii⟩hi e⟨hdl,hdn,hout⟩;dsimp only at e hdl hdn hout ⊢;subst e;rw[n9 hi,aO];refine R0 (hdn i hi)<|R9 (λhb=>?_)<|λhb=>?_
  ·have hlt:u i<i:=of_decide_eq_true hb;refine Si ⟨cD (by omega),hdl,λk hk=>?_,?_⟩
   ·rw[hdn k hk];congr 1;rw[decide_eq_decide];have hne:u k≠i:=λe=>by have:=hJ.rr k hk;rw[e]at this;omega
    omega
   ·rw[iU,aD (by omega)];exact hout
  ·have hge:¬u i<i:=of_decide_eq_false hb;have hui:u i=i:=by have:=hJ.le i hi;omega
   have hx:all[i]? =some all[i]:=aP hi;refine R0 (hdn i hi)<|R0 hx ?_
   refine RP (SS (Go:=λst=>st.1.length=all.length/\(∀k,k<all.length->st.1[k]? =some (decide (u k<i+1)))/\(∀r,r∈st.2.1↔r∈nN all all.length u i)/\st.2.1.length<=all.length) (Rt:=λ_=>False)
    (λst=>∃(q:List Nat)(t:Nat),st.2.2=((t:Nat):Int)/\t<=q.length/\BI all u i q st.1 st.2.1/\∀(p k j:Nat),p<t->q[p]? =some k->j<all.length->(zp all k j\/zp all j k)->j∈q)
    (λst=>all.length+1 - st.2.2.toNat) ?_ ⟨[i],0,rfl,by simp,?_,λp k j hp=>by omega⟩ (by simp;omega)) ?_
   ·rintro⟨d1,o1,t'⟩⟨q,t,e,ht,hI,hcl⟩;dsimp only at e hI ⊢;subst e;have hql:=hI.BZ;have hol:=hI.O5
    by_cases hlt:t<q.length
    ·rw[n9 (by omega:t<o1.length),aO];have hqt:q[t]? =some q[t]:=aP hlt;have hkt:=hI.lt _<|cU hlt
     have hya:all[q[t]]? =some all[q[t]]:=aP hkt.1
     refine RP (SD (n:=all.length) (λst=>st.2.2) (λj st=>∃q',q <+:q'/\BI all u i q' st.1 st.2.1/\∀j',j'<j->(zp all q[t] j'\/zp all j' q[t])->j'∈q')
      (Go:=λst=>∃q',q <+:q'/\BI all u i q' st.1 st.2.1/\∀j',j'<all.length->(zp all q[t] j'\/zp all j' q[t])->j'∈q') (Rt:=λ_=>False) ?_ ?_ (eZ _) rfl ⟨q,List.prefix_refl _,hI,λj' hj=>by omega⟩ (by omega)) ?_
     ·rintro j⟨d2,o2,jj⟩hj e⟨q',hpre,hI',hc'⟩;dsimp only at e hI' ⊢;subst e;rw[n9 hj,aO];have hq't:q'[t]? =some q[t]:=by rw[G5 hpre hqt]
      have hy2:o2[t]? =some all[q[t]]:=by rw[hI'.at_ hq't];exact hya
      have hz:all[j]? =some all[j]:=aP hj;have htc:=IL hB hpos hya hz;have hcond:((idx d2 ((j:Nat):Int)).bind λx1054=>bif(!x1054)then((idx o2 ((t:Nat):Int)).bind λx1056=>(idx all ((j:Nat):Int)).bind λx1058=>(iW N x1056 x1058).bind λx1061=>some x1061)else some false)=some (!decide (u j<i\/j∈q')&&decide (Cb all[q[t]] all[j])):=by
       rw[dS<|hI'.dn j hj,aB]
       cases decide (u j<i\/j∈q')with
       |true=>rfl
       |false=>rw[oW,aO,dS hy2,aB,dS hz,aB,IM (hok _ (cU hkt.1)) (hok _ (cU hj)),aB,Bool.true_and]
      refine RE hcond ?_;refine RP (P:=λst:List Bool×List aH=>∃q',q <+:q'/\BI all u i q' st.1 st.2/\∀j',j'<j+1->(zp all q[t] j'\/zp all j' q[t])->j'∈q') (R9 (λhb=>?_)<|λhb=>?_)<|λst hst=>Si ⟨cD (by omega),hst⟩
      ·rw[bT,Bool.not_eq_true',decide_eq_false_iff_not,bF]at hb;have hju:u j=i:=by
        rcases htc.1 hb.2 with h|h
        ·rw[<-h];exact hkt.2
        ·rw[<-hadj _ _ h];exact hkt.2
       have hjq:j∉q':=λh=>hb.1<|.inr h
       have hol2:=hI'.O5;have hql2:=hI'.BZ;refine R0 (hI'.dn j hj)<|R0 hz<|SB (by simp only[fR,List.length_nil];omega)<|RJ ⟨q'++[j],hpre.trans<|List.prefix_append _ _,⟨?_,?_,?_,?_,?_,?_⟩,?_⟩
       ·rw[i6];exact hI'.len
       ·rw[List.nodup_append];exact⟨hI'.nd,by simp,λa ha b hb=>by simp at hb;subst hb;exact λe=>hjq<|e▸ha⟩
       ·intro k hk
        rcases dH.1 hk with hk|hk
        ·exact hI'.lt k hk
        ·simp at hk;subst hk;exact⟨hj,hju⟩
       ·exact List.mem_append_left _ hI'.hd
       ·intro k hk;rw[cI,fA]
        by_cases e:j=k
        ·subst e;rw[aC rfl,aC (by rw[hI'.len];exact hj)];congr 1;exact(bL<|.inr (by simp)).symm
        ·rw[aD e,hI'.dn k hk];congr 1;rw[decide_eq_decide,dH];simp only[List.mem_singleton];constructor
         ·exact λh=>h.elim .inl<|λh=> .inr<|.inl h
         ·exact λh=>h.elim .inl<|λh=>h.elim .inr<|λh=>absurd h.symm e
       ·rw[eN,eN,hI'.ow];simp[hz]
       ·intro j' hj' ha
        by_cases e:j'=j
        ·subst e;simp
        ·exact List.mem_append_left _<|hc' j' (by omega) ha
      ·refine RJ ⟨q',hpre,hI',λj' hj' ha=>?_⟩
       by_cases e:j'=j
       ·subst e;have hj2:u j'=i:=by rw[<-hadj _ _ ha];exact hkt.2
        rw[bL<|htc.2<|.inr ha,Bool.and_true,Bool.not_eq_false',bF]at hb
        rcases hb with hb|hb
        ·omega
        ·exact hb
       ·exact hc' j' (by omega) ha
     ·rintro⟨d2,o2,jj⟩e hI2;dsimp only at e hI2 ⊢;subst e;rw[rn,aQ];exact Sn hI2
     intro o ho;refine Sm ho ?_<|λr hr=>hr.elim
     rintro⟨d2,o2,jj⟩⟨q',hpre,hI',hc'⟩;dsimp only at hI' ⊢;refine Si ⟨⟨q',t+1,cD (by omega),?_,hI',λp k j hp hk hj ha=>?_⟩,?_⟩
     ·have:=hpre.length_le;omega
     ·by_cases e:p=t
      ·subst e;rw[G5 hpre hqt]at hk;injection hk with hk;subst hk
       exact hc' j hj ha
      ·have hpq:q[p]? =some (q[p]'(by omega)):=aP _;rw[G5 hpre hpq]at hk;injection hk with hk;subst hk
       exact hpre.subset<|hcl p _ j (by omega) hpq hj ha
     ·rw[cD (by omega)];simp only[cI];omega
    ·rw[Ar (by omega:o1.length<=t),aQ];have htq:t=q.length:=by omega
     have hcls:∀k,k<all.length->(k∈q↔u k=i):=λk hk=>⟨λh=>(hI.lt k h).2,λh=>by
      have hstep:∀a b,zp all a b->(a∈q↔b∈q):=λa b hab=>by
       have hab':=hab;obtain⟨ra,rb,e1,e2,_⟩:=hab';have hla:=(bA.1 e1).1;have hlb:=(bA.1 e2).1;constructor
       ·intro h';obtain⟨p,hp⟩:=eO h';exact hcl p a b (by rw[htq];exact(bA.1 hp).1) hp hlb<|.inl hab
       ·intro h';obtain⟨p,hp⟩:=eO h';exact hcl p b a (by rw[htq];exact(bA.1 hp).1) hp hla<|.inr hab
      exact hJ.fi (λk=>k∈q) hstep i k hi hk (by rw[hui,h]) hI.hd⟩
     refine Sn ⟨hI.len,λk hk=>?_,λr=>?_,by rw[hol];exact hql⟩
     ·rw[hI.dn k hk];congr 1;rw[decide_eq_decide,hcls k hk];omega
     ·rw[hI.mem,mb];constructor
      ·rintro⟨k,hk,h⟩;exact⟨k,(hI.lt k hk).1,(hI.lt k hk).2,h⟩
      ·rintro⟨k,hk,h1,h2⟩;exact⟨k,(hcls k hk).2 h1,h2⟩
   ·refine⟨by rw[i6];exact hdl,by simp,λk hk=>by simp at hk;subst hk;exact⟨hi,hui⟩,by simp,λk hk=>?_,by simp[hx]⟩;rw[cI,fA]
    by_cases e:i=k
    ·subst e;rw[aC rfl,aC (by rw[hdl];exact hi)];congr 1;exact(bL<|.inr (by simp)).symm
    ·rw[aD e,hdn k hk];congr 1;rw[decide_eq_decide];simp only[List.mem_singleton];omega
   intro o ho;refine Sm ho ?_<|λr hr=>hr.elim
   rintro⟨d1,o1,t'⟩⟨g1,g2,g3,g4⟩;dsimp only at g1 g2 g3 g4 ⊢;have hh:=Km hi hui;have hml:(bW i u).length<ps.length:=by rw[hlen];exact(bA.1 hh).1
   have hpp:ps[(bW i u).length]? =some ps[(bW i u).length]:=aP hml;have nk:=heach _ _ _ hh hpp;have hcov:∀x y,vh (ps[(bW i u).length].map bY) x y=vf o1 x y:=λx y=>by rw[nk.cover];exact(Lb g3 x y).symm
   have hpl:=hps _<|cU hml
   refine RE (uL nk.can hcov (by omega) (λr hr=>?_) (by omega) hN) ?_
   ·obtain⟨k,_,_,hk⟩:=mb.1<|(g3 r).1 hr
    exact(hpos r<|gq hk).1
   have hfirst:∀(j h:Nat)p,(bW all.length u)[j]? =some h->ps[j]? =some p->∃r t a,aR p=r::t/\all[h]? =some a/\r.X0=a.X0/\r.Y0=a.Y0:=λj h p hj hp=>by
    have hs:=heach j h p hj hp;obtain⟨hhl,hhu⟩:=jE.1<|gq hj
    have ha:all[h]? =some all[h]:=aP hhl;have hne:p≠[]:=λe=>by
     have hL:=(Dq hB hpos hJ ha hhu).1;rw[<-hs.cover,e]at hL
     cases hL
    obtain⟨r,t,e1,e2,_⟩:=G7 hs.can hne;have e2':uM (vf<|nN all all.length u h) r.X0 r.Y0:=⟨by rw[<-hs.cover];exact e2.1,λx' y' hxy=>e2.2 x' y' (by simp only;rw[hs.cover];exact hxy)⟩;obtain⟨e3,e4⟩:=e2'.unique<|Dq hB hpos hJ ha hhu
    exact⟨r,t,all[h],e1,ha,e3,e4⟩
   obtain⟨r,t,a,e1,e2,e3,e4⟩:=hfirst _ _ _ hh hpp;have hheads:(bW i u).length<=i:=pP i u;rw[e1];refine RE (insert_eq (by rw[hout,dY,cQ];omega) hN<|λx hxl=>?_)<|Si ⟨cD (by omega),g1,g2,?_⟩
   ·have hol:out.length=(bW i u).length:=by rw[hout,dY,cQ];omega
    have hpos2:0<(bW i u).length:=by
     have:=(bA.1 hxl).1;omega
    rw[hout,i5,dY,cQ,show min (bW i u).length ps.length=(bW i u).length by omega,List.getElem?_take_of_lt (by omega)]at hxl;have hp2:ps[(bW i u).length - 1]? =some (ps[(bW i u).length - 1]'(by omega)):=aP _;rw[hp2]at hxl;injection hxl with hxl
    have hh2:(bW i u)[(bW i u).length - 1]? =some ((bW i u)[(bW i u).length - 1]'(by omega)):=aP _;have hm2:=jE.1<|gq hh2
    obtain⟨tl,htl⟩:=uN (u:=u) (all.length - i) i;rw[show i+(all.length - i)=all.length by omega]at htl;have hh3:(bW all.length u)[(bW i u).length - 1]? =some ((bW i u)[(bW i u).length - 1]'(by omega)):=by rw[htl,gz (by omega)];exact hh2
    obtain⟨r',t',a',f1,f2,f3,f4⟩:=hfirst _ _ _ hh3 hp2;refine⟨r',t',by rw[<-hxl];exact f1,?_⟩;obtain⟨l1,q1⟩:=bA.1 f2;obtain⟨l2,q2⟩:=bA.1 e2;have hbh:=mF.1 hB _ _ l1 l2 hm2.1;rw[q1,q2]at hbh;have p1:=hpos a'<|gq f2
    unfold sf at hbh;rw[e3,e4,f3,f4];omega
   ·dsimp only;rw[iU,aC hui,dF,hout];simp only[fR,List.length_nil];rw[fq hml,eN,dT,List.map_nil,e1]
 ·rintro⟨done,out,ii⟩e⟨_,_,hout⟩;dsimp only at e hout ⊢;subst e;rw[rn,aQ];refine Sn ?_;dsimp only;rw[hout,mE (by rw[hlen];omega)]
 intro o ho;exact Sm ho (λs hs=>RJ hs)<|λr hr=>hr.elim
end
section
variable {α β:Type}
theorem Kn{N:Nat}{l:List α}{s:β}{φ:α->β->Option Int}(c:α->Int)(hφ:∀x,φ x s=some (c x))(hs:∀(i j:Nat)(x y:α),i<j->l[i]? =some x->l[j]? =some y->0<=c x->0<c y)
  (hl:l.length<=1048576) (hN:4194304<=N):∃r,JN N l s φ=some r/\r.2=l.any (λx=>c x==0)/\(r.2=true->r.1=Im l (λx=>c x==0)):=by
 show Ok (JN N l s φ) (λr=>r.2=l.any (λx=>c x==0)/\(r.2=true->r.1=Im l (λx=>c x==0)));unfold JN
 refine RP (SS (Go:=λst:Int×Int=>∃a:Nat,st.1=((a:Nat):Int)/\a<=l.length/\(∀j x,j<a->l[j]? =some x->c x<0)/\(∀j x,a<=j->l[j]? =some x->0<=c x)) (Rt:=λ_=>True)
  (λst=>∃a b:Nat,st=(((a:Nat):Int),((b:Nat):Int))/\a<=b/\b<=l.length/\(∀j x,j<a->l[j]? =some x->c x<0)/\(∀j x,b<=j->l[j]? =some x->0<=c x))
  (λst=>(st.2 - st.1).toNat) ?_ ⟨0,l.length,rfl,by omega,bR _,λj x hj=>by omega,λj x hj hx=>by have:=(bA.1 hx).1;omega⟩ (by simp only;omega)) ?_
 ·rintro st⟨a,b,rfl,hab,hb,h1,h2⟩;dsimp only
  by_cases hlt:a<b
  ·have hm:(a+b) / 2<l.length:=by omega
   have hx:l[(a+b) / 2]? =some l[(a+b) / 2]:=aP hm;rw[show decide (((a:Nat):Int)<((b:Nat):Int))=true by rw[bF];omega,aO,Io hlt (by omega:b<=4611686018427387904)];refine R0 hx<|RE (hφ _) ?_
   by_cases hc:c l[(a+b) / 2]<0
   ·rw[bL hc,aO,aB];refine Si ⟨⟨(a+b) / 2+1,b,?_,by omega,hb,λj x hj hx'=>?_,h2⟩,?_⟩
    ·rw[cD (by omega)]
    ·by_cases e:j=(a+b) / 2
     ·subst e;rw[hx]at hx';injection hx' with hx';rw[<-hx'];exact hc
     ·by_cases h0:c x<0
      ·exact h0
      ·have:=hs j _ x _ (by omega) hx' hx (by omega);omega
    ·rw[cD (by omega)];simp only;omega
   ·rw[bO hc,aQ,aB];refine Si ⟨⟨a,(a+b) / 2,rfl,by omega,by omega,h1,λj x hj hx'=>?_⟩,by simp only;omega⟩
    by_cases e:j=(a+b) / 2
    ·subst e;rw[hx]at hx';injection hx' with hx';rw[<-hx'];omega
    ·have:=hs _ j _ x (by omega) hx hx' (by omega);omega
  ·rw[show decide (((a:Nat):Int)<((b:Nat):Int))=false by rw[decide_eq_false_iff_not];omega,aQ];exact Sn ⟨a,rfl,by omega,h1,λj x hj hx=>h2 j x (by omega) hx⟩
 intro o ho;refine Sm ho ?_<|λr hr=>r.elim
 rintro⟨st1,st2⟩⟨a,ha,hle,h1,h2⟩;dsimp only at ha ⊢;subst ha
 by_cases hlt:a<l.length
 ·have hx:l[a]? =some l[a]:=aP hlt;rw[show decide (((a:Nat):Int)<((l.length:Nat):Int))=true by rw[bF];omega,aO,dS hx,aB,hφ,aB,aB];refine RJ ?_
  by_cases he:c l[a]=0
  ·have hb:(c l[a]==0)=true:=by rw[beq_iff_eq];exact he
   rw[hb];refine⟨(jY.2 ⟨_,cU hlt,hb⟩).symm,λ_=>?_⟩;rw[Fw hx hb (λj y hj hy=>by have:=h1 j y hj hy;rw[beq_eq_false_iff_ne];omega)]
  ·have hb:(c l[a]==0)=false:=by rw[beq_eq_false_iff_ne];exact he
   rw[hb];refine⟨?_,λh=>by cases h⟩;symm;rw[List.any_eq_false];intro x hx';obtain⟨j,hj⟩:=eO hx';rw[ld,beq_eq_false_iff_ne]
   by_cases hja:j<a
   ·have:=h1 j x hja hj;omega
   ·by_cases e:j=a
    ·subst e;rw[hx]at hj;injection hj with hj;rw[<-hj];exact he
    ·have h3:=h2 a _ (bR _) hx;have:=hs a j _ x (by omega) hx hj h3;omega
 ·rw[show decide (((a:Nat):Int)<((l.length:Nat):Int))=false by rw[decide_eq_false_iff_not];omega,aQ,aB];refine RJ ⟨?_,λh=>by cases h⟩;symm;rw[List.any_eq_false];intro x hx';obtain⟨j,hj⟩:=eO hx';have:=(bA.1 hj).1;have:=h1 j x (by omega) hj;rw[ld,beq_eq_false_iff_ne];omega
end
def wj(p q:eA):Prop:=eC.lt p.Part q.Part\/(p.Part=q.Part/\eC.lt p.eA q.eA)
theorem HU{p q:eA}(h1:p.Part=q.Part)(h2:p.eA=q.eA):p=q:=by cases p;cases q;simp at h1 h2;subst h1;subst h2;rfl
theorem wj.irrefl(p:eA):¬wj p p:=λh=>by
 rcases h with h|⟨_,h⟩
 ·exact eC.lt_irrefl _ h
 ·exact eC.lt_irrefl _ h
theorem wj.trans{p q r:eA}(h1:wj p q)(h2:wj q r):wj p r:=by
 rcases h1 with h1|⟨e1,h1⟩ <;> rcases h2 with h2|⟨e2,h2⟩
 ·exact .inl<|eC.lt_trans h1 h2
 ·exact .inl (by rw[<-e2];exact h1)
 ·exact .inl (by rw[e1];exact h2)
 ·exact .inr ⟨e1.trans e2,eC.lt_trans h1 h2⟩
theorem wj.total(p q:eA):wj p q\/p=q\/wj q p:=by
 rcases eC.Fu p.Part q.Part with h|h|h
 ·exact .inl<|.inl h
 ·rcases eC.Fu p.eA q.eA with h'|h'|h'
  ·exact .inl<|.inr ⟨h,h'⟩
  ·exact .inr<|.inl<|HU h h'
  ·exact .inr<|.inr<|.inr ⟨h.symm,h'⟩
 ·exact .inr<|.inr<|.inl h
theorem wj.asymm{p q:eA}(h:wj p q):¬wj q p:=λh'=>wj.irrefl p<|h.trans h'
theorem wj.ne{p q:eA}(h:wj p q):p≠q:=λe=>by subst e;exact wj.irrefl _ h
theorem tZ{a b:eC}:Lib.compareBytes a.cW b.cW=0↔a=b:=⟨λh=>eC.ext'<|(xO _ _).1 h,λh=>(xO _ _).2 (by rw[h])⟩
theorem l4{p q:eA}:ga p q=0↔p=q:=by
 unfold ga
 by_cases h:Lib.compareBytes p.Part.cW q.Part.cW=0
 ·rw[aD (by simpa using h),tZ];exact⟨λh'=>HU (tZ.1 h) h',λh'=>by rw[h']⟩
 ·rw[aC h];exact⟨λh'=>absurd h' h,λh'=>absurd (tZ.2 (by rw[h'])) h⟩
theorem x8{p q:eA}:ga p q<0↔wj p q:=by
 unfold ga wj
 by_cases h:Lib.compareBytes p.Part.cW q.Part.cW=0
 ·rw[aD (by simpa using h),xN];have e:=tZ.1 h;constructor
  ·exact λh'=> .inr ⟨e,h'⟩
  ·rintro(h'|⟨_,h'⟩)
   ·rw[e]at h';exact absurd h'<|eC.lt_irrefl _
   ·exact h'
 ·rw[aC h,xN];constructor
  ·exact λh'=> .inl h'
  ·rintro(h'|⟨e,_⟩)
   ·exact h'
   ·exact absurd (tZ.2 e) h
theorem oA{p q:eA}:0<ga p q↔wj q p:=by
 constructor
 ·intro h
  rcases wj.total p q with h'|h'|h'
  ·have:=x8.2 h';omega
  ·have:=l4.2 h';omega
  ·exact h'
 ·intro h
  by_cases h1:ga p q<0
  ·exact absurd (x8.1 h1) h.asymm
  ·by_cases h2:ga p q=0
   ·exact absurd (l4.1 h2).symm h.ne
   ·omega
section
variable {N:Nat}
structure G8 (a:gm) (x:dN):Prop where
 name:nO x.Part=true/\isWord x.eA=true
 O0:0<=x.fT/\x.fT<((a.aJ.length:Nat):Int)
 at_:qK x.At=true
structure oS (a:gm):Prop where
 BZ:a.bJ.length<=1000
 each:∀x∈a.bJ,G8 a x
 up:a.bJ.Pairwise (λx y=>wj (jV x)<|jV y)
theorem Eo{a:gm}{k:Nat}{x:dN}(hx:a.bJ[k]? =some x)(h:jF a k=none):G8 a x/\∀y,0<k->a.bJ[k - 1]? =some y->wj (jV y) (jV x):=by
 unfold jF at h;rw[hx,Option.bind_some]at h;split at h
 ·rename_i h1;split at h
  ·rename_i h2;split at h
   ·cases h
   ·rename_i h3;rw[bT]at h1 h2;unfold fJ at h2;rw[bT,bF,bF]at h2;refine⟨⟨h1,⟨by omega,by omega⟩,h2.2⟩,λy hk hy=>?_⟩;have h4:¬ga (jV x) (jV y)<=0:=λh4=>h3 ⟨hk,y,hy,h4⟩;exact oA.1 (by omega)
  ·cases h
 ·cases h
theorem Cc{a:gm}{k:Nat}{e:Int}(h:jF a k=some e):e≠0:=by
 unfold jF at h
 cases hx:a.bJ[k]? with
 |none=>rw[hx]at h;cases h
 |some x=>
  rw[hx,Option.bind_some]at h
  repeat' split at h
  all_goals first|(injection h with h;omega)|cases h
theorem IP{a:gm}(h:lJ a=0):oS a:=by
 unfold lJ at h;split at h
 ·omega
 rename_i hl;have hn:qc a.bJ.length (jF a)=none:=by
  cases hf:qc a.bJ.length (jF a)with
  |none=>rfl
  |some e=>
   rw[hf]at h;obtain⟨k,_,hk,_⟩:=kc.1 hf;exact absurd h<|Cc hk
 rw[kb]at hn;have hg:∀(k:Nat)x,a.bJ[k]? =some x->G8 a x/\∀y,0<k->a.bJ[k - 1]? =some y->wj (jV y) (jV x):=λk x hx=>Eo hx<|hn k (bA.1 hx).1
 refine⟨by omega,λx hx=>?_,?_⟩
 ·obtain⟨k,hk⟩:=eO hx;exact(hg k x hk).1
 ·have hstep:∀(n i:Nat)x y,a.bJ[i]? =some x->a.bJ[i+n+1]? =some y->wj (jV x) (jV y):=by
   intro n
   induction n with
   |zero=>intro i x y hx hy;exact(hg (i+1) y hy).2 x (by omega) hx
   |succ n ih=>
    intro i x y hx hy;have hz:i+n+1<a.bJ.length:=by have:=(bA.1 hy).1;omega
    have h1:=ih i x _ hx<|aP hz
    exact h1.trans<|(hg (i+(n+1)+1) y hy).2 _ (by omega) (by rw[show i+(n+1)+1 - 1=i+n+1 by omega];exact aP hz)
  rw[mF];intro i j hi hj hij;exact hstep (j - i - 1) i _ _ (aP hi) (by rw[show i+(j - i - 1)+1=j by omega];exact aP hj)
theorem oS.inj{a:gm}(h:oS a){i j:Nat}{x y:dN}(hx:a.bJ[i]? =some x)(hy:a.bJ[j]? =some y)(e:jV x=jV y):i=j:=by
 obtain⟨h1,rfl⟩:=bA.1 hx;obtain⟨h2,rfl⟩:=bA.1 hy;have hp:=mF.1 h.up
 rcases Nat.lt_trichotomy i j with h3|h3|h3
 ·exact absurd e (hp i j h1 h2 h3).ne
 ·exact h3
 ·exact absurd e.symm (hp j i h2 h1 h3).ne
theorem F4{l:List dN}{p:eA}(hu:l.Pairwise (λx y=>wj (jV x)<|jV y))(hl:l.length<=1048576)(hN:4194304<=N){φ:dN->eA->Option Int}(hφ:∀x,φ x p=some (ga (jV x) p)):
  ∃r,JN N l p φ=some r/\(bif(!r.2)then some (-1)else some r.1)=some (Im l<|λx=>decide<|jV x=p):=by
 obtain⟨r,h1,h2,h3⟩:=Kn (N:=N) (l:=l) (s:=p) (φ:=φ) (λx=>ga (jV x) p) hφ (λi j x y hij hx hy hc=>by
  obtain⟨g1,rfl⟩:=bA.1 hx;obtain⟨g2,rfl⟩:=bA.1 hy;have hlt:=mF.1 hu i j g1 g2 hij;refine oA.2 ?_
  by_cases h0:ga (jV l[i]) p=0
  ·rw[<-l4.1 h0];exact hlt
  ·exact(oA.1 (by omega)).trans hlt) hl hN
 have e:(λx=>ga (jV x) p==0)=(λx=>decide<|jV x=p):=by
  funext x;rw[dZ,beq_iff_eq,bF,l4]
 rw[e]at h2 h3;refine⟨r,h1,?_⟩
 cases hr:r.2 with
 |true=>simp only[lf,aQ];rw[h3 hr]
 |false=>
  simp only[oW,aO];rw[hr]at h2;rw[Fv h2.symm]
def iK(a:gm)(p:eA):Int:=Im a.bJ<|λx=>decide<|jV x=p
theorem Ay(a:gm)(p:eA):(iK a p = -1/\∀x∈a.bJ,jV x≠p)\/∃(k:Nat)(x:dN),iK a p=((k:Nat):Int)/\a.bJ[k]? =some x/\jV x=p:=by
 rcases wC a.bJ (λx=>decide<|jV x=p)with⟨h1,h2⟩|⟨k,x,h1,h2,h3,_⟩
 ·exact .inl ⟨h1,λx hx=>of_decide_eq_false<|h2 x hx⟩
 ·exact .inr ⟨k,x,h1,h2,of_decide_eq_true h3⟩
end
theorem wk{α β:Type}{l:List α}{f:α->Option β}{k:Nat}{x:α}{c:β}(hx:l[k]? =some x)(hn:∀(j:Nat)y,j<k->l[j]? =some y->f y=none)(hc:f x=some c):l.findSome? f=some c:=by
 obtain⟨hk,rfl⟩:=bA.1 hx;rw[List.findSome?_eq_some_iff];refine⟨l.take k,l[k],l.drop<|k+1,?_,hc,λy hy=>?_⟩
 ·rw[List.getElem_cons_drop,List.take_append_drop]
 ·obtain⟨j,hj⟩:=eO hy;have hjk:j<k:=by have:=(bA.1 hj).1;rw[cQ]at this;omega
  exact hn j y hjk (by rw[List.getElem?_take_of_lt hjk]at hj;exact hj)
theorem Az{α β:Type}{l:List α}{f:α->Option β}(h:∀(j:Nat)y,j<l.length->l[j]? =some y->f y=none):l.findSome? f=none:=by
 rw[List.findSome?_eq_none_iff];intro x hx;obtain⟨j,hj⟩:=eO hx;exact h j x (bA.1 hj).1 hj
section
variable {N:Nat}
theorem O6(c:UInt8):(bif(!(((decide (((c.toNat:Nat):Int)>=97)&&decide (((c.toNat:Nat):Int)<=122))||(decide (((c.toNat:Nat):Int)>=65)&&decide (((c.toNat:Nat):Int)<=90)))||(decide (((c.toNat:Nat):Int)>=48)&&decide (((c.toNat:Nat):Int)<=57))))then((gS N (⟨[95,43,45,35]⟩) ((c.toNat:Nat):Int)).bind λx50=>some<|decide<|x50<0)else some false)=some (FG c):=by
 rw[uF,aB];unfold FG;generalize decide (Lib.indexByte (⟨[95,43,45,35]⟩:eC).cW c<0)=p;have e:(!(((decide (((c.toNat:Nat):Int)>=97)&&decide (((c.toNat:Nat):Int)<=122))||(decide (((c.toNat:Nat):Int)>=65)&&decide (((c.toNat:Nat):Int)<=90)))||(decide (((c.toNat:Nat):Int)>=48)&&decide (((c.toNat:Nat):Int)<=57))))=(((decide (((c.toNat:Nat):Int)<65)||decide (((c.toNat:Nat):Int)>90))&&(decide (((c.toNat:Nat):Int)<97)||decide (((c.toNat:Nat):Int)>122)))&&(decide (((c.toNat:Nat):Int)<48)||decide (((c.toNat:Nat):Int)>57))):=by
  rw[dZ];simp only[Bool.not_eq_true',Bool.or_eq_false_iff,Bool.and_eq_false_iff,decide_eq_false_iff_not,bT,dM,bF];omega
 rw[e]
 cases(((decide (((c.toNat:Nat):Int)<65)||decide (((c.toNat:Nat):Int)>90))&&(decide (((c.toNat:Nat):Int)<97)||decide (((c.toNat:Nat):Int)>122)))&&(decide (((c.toNat:Nat):Int)<48)||decide (((c.toNat:Nat):Int)>57)))with
 |true=>rw[aO,Bool.true_and]
 |false=>rw[aQ,Bool.false_and]
theorem AA{s:eC}(h:s.cW.length<=1048576)(hN:4194304<=N):gw N s=some (isWord s):=by
 refine SJ ?_;unfold gw isWord;refine RP (SD (n:=s.cW.length) (λs=>s) (λk _=>∀(j:Nat)x,j<k->s.cW[j]? =some x->FG x=false) (Go:=λ_=>s.cW.any FG=false) (Rt:=λr=>r=false/\s.cW.any FG=true) ?_ ?_ (eZ _) rfl (λj x hj=>by omega) (by omega)) ?_
 ·rintro k i hk e hI;subst e;rw[n9 hk,aO];refine RE (Ft s k hk)<|RE (O6 _)<|R9 (λhb=>SC ⟨rfl,jY.2 ⟨_,cU hk,hb⟩⟩)<|λhb=>Si ⟨cD (by omega),λj x hj hx=>?_⟩
  by_cases e:j=k
  ·subst e;rw[aP hk]at hx;injection hx with hx;rw[<-hx];exact hb
  ·exact hI j x (by omega) hx
 ·rintro i e hI;subst e;rw[rn,aQ];refine Sn ?_;rw[List.any_eq_false];intro x hx;obtain⟨j,hj⟩:=eO hx;rw[hI j x (bA.1 hj).1 hj];exact oT
 intro o ho;refine Sm ho (λs' hs'=>?_)<|λr hr=>RJ (by rw[hr.1,hr.2];rfl)
 rw[hs'];show Ok ((some _).bind _) _;refine RJ ?_;rw[oW,Bool.true_and];congr 1 <;> · rw[decide_eq_decide];omega
theorem F5{s:eC}(h:s.cW.length<=1048576)(hN:4194304<=N):jr N s=some (nO s):=by
 refine SJ ?_;unfold jr nO;refine RE (FI 47 h hN) ?_;have hsn:=Dg s 47;refine RP (SD (n:=(oy s 47).length) (λs=>s) (λk _=>∀(j:Nat)x,j<k->(oy s 47)[j]? =some x->isWord x=true) (Go:=λ_=>(oy s 47).all isWord=true) (Rt:=λr=>r=false/\(oy s 47).all isWord=false) ?_ ?_ (eZ _) rfl (λj x hj=>by omega) (by omega)) ?_
 ·rintro k i hk e hI;subst e;rw[n9 hk,aO];have hx:(oy s 47)[k]? =some (oy s 47)[k]:=aP hk;have hl:=Df<|cU hk
  refine R0 hx<|RE (AA (by omega) hN)<|R9 (λhb=>SC ⟨rfl,?_⟩)<|λhb=>Si ⟨cD (by omega),λj x hj hx'=>?_⟩
  ·rw[List.all_eq_false];exact⟨_,cU hk,by simpa using hb⟩
  ·by_cases e:j=k
   ·subst e;rw[hx]at hx';injection hx' with hx';rw[<-hx'];simpa using hb
   ·exact hI j x (by omega) hx'
 ·rintro i e hI;subst e;rw[rn,aQ];refine Sn ?_;rw[lh];intro x hx;obtain⟨j,hj⟩:=eO hx;exact hI j x (bA.1 hj).1 hj
 intro o ho;refine Sm ho (λs' hs'=>RJ ?_)<|λr hr=>RJ (by rw[hr.1,hr.2,Bool.and_false])
 rw[hs',Bool.and_true,decide_eq_decide];omega
theorem sT(n lo hi:Int):eB N n lo hi=some (fJ n lo hi):=rfl
theorem pU{b:cJ}(h:qL b=true):cZ N b=some (vZ b):=na (N:=N) h
theorem z9{b:cJ}:gI N b=some (mK b).2:=by
 have e1:(bif(!(fJ b.dJ 1 10000))then some true else some (!(qK b.At)))=some (!qL b):=by unfold qL;cases fJ b.dJ 1 10000 <;> rfl
 have e2:∀n,cN N n=some (lH n):=λ_=>rfl;unfold gI mK;rw[sT,aB,Aq,aB,e1,aB]
 cases hf:qL b with
 |false=>rfl
 |true=>
  rw[lf,aQ,pU hf,aB];simp only[e2,aB];unfold fK
  cases lH (vZ b).X0 <;> cases lH (vZ b).Y0 <;> cases lH (vZ b).X1 <;> cases lH (vZ b).Y1 <;> rfl
theorem MY{x y:dN}:(x.Part.mL y.Part||(x.Part.nQ y.Part&&(x.eA.mL y.eA||x.eA.nQ y.eA)))=decide (ga (jV x) (jV y)<=0):=by
 have hle:ga (jV x) (jV y)<=0↔wj (jV x) (jV y)\/jV x=jV y:=by
  rw[<-x8,<-l4];omega
 rw[dZ,bF,hle,dM,bT,dM,yD,yD];unfold wj jV;simp only[eA.mk.injEq];constructor
 ·rintro(h|⟨h1,h2|h2⟩)
  ·exact .inl<|.inl h
  ·exact .inl<|.inr ⟨h1,h2⟩
  ·exact .inr ⟨h1,h2⟩
 ·rintro((h|⟨h1,h2⟩)|⟨h1,h2⟩)
  ·exact .inl h
  ·exact .inr ⟨h1, .inl h2⟩
  ·exact .inr ⟨h1, .inr h2⟩
theorem Cd{a:gm}(hc:a.aJ.length<=1073741824)(hl:a.bJ.length<=1073741824){k:Nat}{x:dN}(hx:a.bJ[k]? =some x)(hn:x.Part.cW.length<=1048576/\x.eA.cW.length<=1048576)(hN:4194304<=N):iz N a ((k:Nat):Int)=some ((jF a k).getD 0):=by
 have hk:=(bA.1 hx).1;have hw:wrap .i64 (((a.aJ.length:Nat):Int) - 1)=((a.aJ.length:Nat):Int) - 1:=eU (by omega) (by omega);unfold iz jF;rw[dS hx,aB,F5 hn.1 hN,aB,hx,Option.bind_some];have e1:(bif(!(nO x.Part))then some true else((gw N x.eA).bind λx44=>some<|!x44))=some (!(nO x.Part&&isWord x.eA)):=by
  rw[AA hn.2 hN,aB]
  cases nO x.Part <;> rfl
 rw[e1,aB]
 cases h1:(nO x.Part&&isWord x.eA)with
 |false=>rw[oW,aO,aD oT];rfl
 |true=>
  rw[lf,aQ,aC rfl,hw,sT,aB];have e2:(bif(!(fJ x.fT 0<|((a.aJ.length:Nat):Int) - 1))then some true else((fW N x.At).bind λx57=>some<|!x57))=some (!(fJ x.fT 0 (((a.aJ.length:Nat):Int) - 1)&&qK x.At)):=by
   rw[Aq,aB]
   cases fJ x.fT 0 (((a.aJ.length:Nat):Int) - 1) <;> rfl
  rw[e2,aB]
  cases h2:(fJ x.fT 0 (((a.aJ.length:Nat):Int) - 1)&&qK x.At)with
  |false=>rw[oW,aO,aD oT];rfl
  |true=>
   rw[lf,aQ,aC rfl]
   by_cases h0:0<k
   ·have hy:a.bJ[k - 1]? =some (a.bJ[k - 1]'(by omega)):=aP _;rw[bL (by omega),aO,je h0 (by omega),dS hy,aB,MY]
    by_cases h3:ga (jV x) (jV<|a.bJ[k - 1]'(by omega))<=0
    ·rw[bL h3,aO,aC ⟨h0,_,hy,h3⟩];rfl
    ·rw[bO h3,aQ,aD (by rintro⟨_,y,hy',h4⟩;rw[hy]at hy';injection hy' with hy';subst hy';exact h3 h4)];rfl
   ·rw[bO (by omega),aQ,aD<|λh=>h0 h.1];rfl
noncomputable def mf(a:gm):Int:=if a.aJ.length=0 then 9 else if 16<a.aJ.length then 2 else match a.aJ.findSome? tU with
 |some e=>e
 |none=>if iZ a.cT≠0 then iZ a.cT else if 2000<a.cT.length+(a.aJ.map List.length).sum then 2 else if iV a≠0 then iV a else lJ a
theorem F6(a:gm):jW a=if mf a≠0 then mf a else if qN a then 12 else 0:=by
 unfold jW mf IF CP
 by_cases h0:a.aJ.length=0
 ·rw[aC h0,aC h0,aC (by decide)]
 rw[aD h0,aD h0]
 by_cases h1:16<a.aJ.length
 ·rw[aC h1,aC h1,aC (by decide)]
 rw[aD h1,aD h1]
 cases hf:a.aJ.findSome? tU with
 |some e=>
  have he:e≠0:=by
   obtain⟨_,x,_,_,hx,_⟩:=List.findSome?_eq_some_iff.1 hf;unfold tU at hx;split at hx
   ·rename_i h;injection hx with hx;rw[<-hx];exact h
   ·cases hx
  dsimp only;rw[aC he]
 |none=>
  dsimp only
  by_cases h2:iZ a.cT≠0
  ·rw[aC h2,aC h2,aC h2]
  rw[aD h2,aD h2]
  by_cases h3:2000<a.cT.length+(a.aJ.map List.length).sum
  ·rw[aC h3,aC h3,aC (by decide)]
  rw[aD h3,aD h3]
  by_cases h4:iV a≠0
  ·rw[aC h4,aC h4,aC h4]
  rw[aD h4,aD h4]
theorem Ce{a:gm}(h:mf a=0):iV a=0:=by
 unfold mf at h
 by_cases h0:a.aJ.length=0
 ·rw[aC h0]at h;omega
 rw[aD h0]at h
 by_cases h1:16<a.aJ.length
 ·rw[aC h1]at h;omega
 rw[aD h1]at h
 cases hf:a.aJ.findSome? tU with
 |some e=>
  rw[hf]at h;have h:e=0:=h;obtain⟨_,x,_,_,hx,_⟩:=List.findSome?_eq_some_iff.1 hf;unfold tU at hx;split at hx
  ·rename_i h';injection hx with hx;rw[hx]at h';exact absurd h h'
  ·cases hx
 |none=>
  rw[hf]at h;dsimp only at h
  by_cases h2:iZ a.cT≠0
  ·rw[aC h2]at h;exact absurd h h2
  rw[aD h2]at h
  by_cases h3:2000<a.cT.length+(a.aJ.map List.length).sum
  ·rw[aC h3]at h;omega
  rw[aD h3]at h
  by_cases h4:iV a≠0
  ·rw[aC h4]at h;exact absurd h h4
  ·simpa using h4
theorem AN{a:gm}(hs:tV a)(hN:4398046511104<=N):gZ N a=some (mf a):=by
 refine SJ ?_;have c1:=hs.cs;have c2:=hs.out;have c3:=hs.bs;have c4:=hs.ls;unfold gZ mf;refine R9 (λh=>RJ ?_)<|λh=>?_
 ·rw[aC (by have:=beq_iff_eq.1 h;omega)]
 have h0:¬a.aJ.length=0:=by rw[beq_eq_false_iff_ne]at h;omega
 rw[aD h0];refine R9 (λh=>RJ ?_)<|λh=>?_
 ·rw[aC (by have:=of_decide_eq_true h;omega)]
 have h1:¬16<a.aJ.length:=by have:=of_decide_eq_false h;omega
 rw[aD h1];have sumle:∀k,k<=a.aJ.length->((a.aJ.take k).map List.length).sum<=k*1048576:=by
  intro k
  induction k with
  |zero=>intro _;simp
  |succ k ih=>
   intro hk;have:=ih (by omega);have h2:=hs.each _<|cU (show k<a.aJ.length by omega)
   rw[fq (by omega),eN,List.sum_append];simp only[dT,List.map_nil,List.sum_cons,List.sum_nil];rw[Nat.add_mul];omega
 refine RP (SD (n:=a.aJ.length) (λs=>s.2) (λk s=>s.1=((a.cT.length+((a.aJ.take k).map List.length).sum:Nat):Int)/\∀(j:Nat)r,j<k->a.aJ[j]? =some r->tU r=none)
  (Go:=λs=>s.1=((a.cT.length+(a.aJ.map List.length).sum:Nat):Int)/\a.aJ.findSome? tU=none) (Rt:=λr=>a.aJ.findSome? tU=some r) ?_ ?_ (eZ _) rfl ⟨by simp,λj r hj=>by omega⟩ (by omega)) ?_
 ·rintro k⟨m,i⟩hk e⟨hm,hI⟩;dsimp only at e hm ⊢;subst e;subst hm;have hx:a.aJ[k]? =some a.aJ[k]:=aP hk;have he:=hs.each _<|cU hk
  have hsl:=sumle k (by omega);rw[n9 hk,aO];refine R0 hx<|RE (uV (by omega) hN)<|R9 (λhb=>SC ?_)<|λhb=>R0 hx<|Si ⟨cD (by omega),?_,λj r hj hr=>?_⟩
  ·exact wk hx hI (by unfold tU;rw[aC (by simpa using hb)])
  ·dsimp only;rw[wrap_add (by omega),fq hk,eN,List.sum_append];simp only[dT,List.map_nil,List.sum_cons,List.sum_nil];omega
  ·by_cases e:j=k
   ·subst e;rw[hx]at hr;injection hr with hr;rw[<-hr]
    unfold tU;rw[aD (by simpa using hb)]
   ·exact hI j r (by omega) hr
 ·rintro⟨m,i⟩e⟨hm,hI⟩;dsimp only at e hm ⊢;subst e;rw[rn,aQ];rw[fS]at hm;exact Sn ⟨hm,Az hI⟩
 intro o ho;refine Sm ho ?_<|λr hr=>RJ (by rw[hr])
 rintro⟨m,i⟩⟨hm,hf⟩;dsimp only at hm ⊢;subst hm;rw[hf];dsimp only;refine RE (uV (by omega) hN)<|R9 (λh=>RJ ?_)<|λh=>?_
 ·rw[aC (by simpa using h)]
 rw[aD (by simpa using h)];have hmr:Ok (bif decide (((a.cT.length+(a.aJ.map List.length).sum:Nat):Int)>2000)then some true else some (decide<|((a.aU.length:Nat):Int)>500)) (λb=>b=decide (2000<a.cT.length+(a.aJ.map List.length).sum\/500<a.aU.length)):=by
  by_cases h2:2000<a.cT.length+(a.aJ.map List.length).sum
  ·rw[bL (by omega),aO];exact RJ (bL<|.inl h2).symm
  ·rw[bO (by omega),aQ];refine RJ ?_;rw[decide_eq_decide];omega
 refine RP hmr λb hb=>?_;subst hb;refine R9 (λh=>RJ ?_)<|λh=>?_
 ·have h:=of_decide_eq_true h
  by_cases h2:2000<a.cT.length+(a.aJ.map List.length).sum
  ·rw[aC h2]
  ·rw[aD h2];have hb:iV a=2:=by unfold iV;rw[aC (by omega)]
   rw[hb,aC (by decide)]
 have h:=of_decide_eq_false h;rw[aD (by omega)];have hbe:iV a=(a.aU.findSome?<|lY a.aJ.length).getD 0:=by unfold iV;rw[aD (by omega)]
 have hw:wrap .i64 (((a.aJ.length:Nat):Int) - 1)=((a.aJ.length:Nat):Int) - 1:=eU (by omega) (by omega);refine RP (SD (n:=a.aU.length) (λs=>s) (λk _=>∀(j:Nat)b,j<k->a.aU[j]? =some b->lY a.aJ.length b=none) (Go:=λ_=>a.aU.findSome? (lY a.aJ.length)=none) (Rt:=λr=>a.aU.findSome? (lY a.aJ.length)=some r/\r≠0) ?_ ?_ (eZ _) rfl (λj b hj=>by omega) (by omega)) ?_
 ·rintro k i hk e hI;subst e;rw[n9 hk,aO];have hx:a.aU[k]? =some a.aU[k]:=aP hk;refine R0 hx<|RE z9<|R9 (λhb=>SC ?_)<|λhb=>?_
  ·have hb:(mK a.aU[k]).2≠0:=by simpa using hb
   exact⟨wk hx hI (by unfold lY;rw[aC hb]),hb⟩
  ·have hb:¬(mK a.aU[k]).2≠0:=by simpa using hb
   rw[hw];have e2:((eB N a.aU[k].cL 0<|((a.aJ.length:Nat):Int) - 1).bind λx135=>bif(!x135)then some true else((eB N a.aU[k].To a.aU[k].cL<|((a.aJ.length:Nat):Int) - 1).bind λx138=>some<|!x138))=some (!(fJ a.aU[k].cL 0 (((a.aJ.length:Nat):Int) - 1)&&fJ a.aU[k].To a.aU[k].cL (((a.aJ.length:Nat):Int) - 1))):=by
    rw[sT,aB,sT,aB]
    cases fJ a.aU[k].cL 0 (((a.aJ.length:Nat):Int) - 1) <;> rfl
   refine RE e2<|R9 (λh3=>SC ⟨wk hx hI ?_,by decide⟩)<|λh3=>Si ⟨cD (by omega),λj b hj hb'=>?_⟩
   ·unfold lY;rw[aD hb,aD (by rintro⟨g1,g2⟩;rw[g1,g2]at h3;cases h3)]
   ·by_cases e:j=k
    ·subst e;rw[hx]at hb';injection hb' with hb';rw[<-hb']
     rw[Bool.not_eq_false',bT]at h3;unfold lY;rw[aD hb,aC h3]
    ·exact hI j b (by omega) hb'
 ·rintro i e hI;subst e;rw[rn,aQ];exact Sn<|Az hI
 intro o ho;refine Sm ho ?_<|λr hr=>RJ ?_
 rotate_left
 ·rw[hbe,hr.1,Option.getD_some,aC hr.2]
 intro _ hbn;rw[hbe,hbn,Option.getD_none,aD (by decide)];unfold lJ;refine R9 (λh=>RJ ?_)<|λh=>?_
 ·rw[aC (by have:=of_decide_eq_true h;omega)]
 have h5:¬1000<a.bJ.length:=by have:=of_decide_eq_false h;omega
 rw[aD h5];refine RP (SD (n:=a.bJ.length) (λs=>s) (λk _=>∀j,j<k->jF a j=none) (Go:=λ_=>qc a.bJ.length (jF a)=none) (Rt:=λr=>qc a.bJ.length (jF a)=some r) ?_ ?_ (eZ _) rfl (λj hj=>by omega) (by omega)) ?_
 ·rintro k i hk e hI;subst e;rw[n9 hk,aO];have hx:a.bJ[k]? =some a.bJ[k]:=aP hk;refine RE (Cd (by omega) (by omega) hx (hs.nm _<|cU hk) (by omega))<|R9 (λhb=>SC ?_)<|λhb=>Si ⟨cD (by omega),λj hj=>?_⟩
  ·cases hl:jF a k with
   |none=>rw[hl]at hb;cases hb
   |some e=>exact kc.2 ⟨k,hk,hl,hI⟩
  ·by_cases e:j=k
   ·subst e
    cases hl:jF a j with
    |none=>rfl
    |some e=>rw[hl]at hb;exact absurd (by simpa using hb) (Cc hl)
   ·exact hI j (by omega)
 ·rintro i e hI;subst e;rw[rn,aQ];exact Sn<|kb.2 hI
 intro o ho;exact Sm ho (λ_ h=>RJ (by rw[h];rfl))<|λr hr=>RJ (by rw[hr];rfl)
theorem Ep(b:cJ)(k:Int):kx N b k=some (kV b k):=rfl
theorem Cf{a:gm}{i:Nat}{r:List aH}{s:List aA}(hb:nE a.aU)(hr:a.aJ[i]? =some r)(hrl:r.length<=2000)(hro:∀x∈r,C9 x)(hd:uG r (kW a.aU ((i:Nat):Int)) s)(hN:4398046511104<=N):iC N a ((i:Nat):Int)=some (aR s):=by
 refine SJ ?_;have hbl:=hb.len;have hhl:=zZ hb ((i:Nat):Int);have hho:=v8 hb ((i:Nat):Int);unfold iC;refine RP (SD (n:=a.aU.length) (λs=>s.2) (λk st=>st.1=kW (a.aU.take k) ((i:Nat):Int)) (Go:=λst=>st.1=kW a.aU ((i:Nat):Int)) (Rt:=λ_=>False) ?_ ?_ (eZ _) rfl rfl (by omega)) ?_
 ·rintro k⟨out,ii⟩hk e hI;dsimp only at e hI ⊢;subst e;subst hI;have hx:a.aU[k]? =some a.aU[k]:=aP hk;have hts:kW (a.aU.take<|k+1) ((i:Nat):Int)=if kV a.aU[k] ((i:Nat):Int)=true then kW (a.aU.take k) ((i:Nat):Int)++[vZ a.aU[k]]else kW (a.aU.take k) ((i:Nat):Int):=by
   unfold kW;rw[fq hk,kJ,eN]
   by_cases h:kV a.aU[k] ((i:Nat):Int)=true
   ·rw[aC h];simp[h]
   ·rw[aD h];simp[h]
  have hlen:(kW (a.aU.take k) ((i:Nat):Int)).length<=k:=by
   unfold kW;rw[dY];have:=oV (λb=>kV b ((i:Nat):Int))<|a.aU.take k
   rw[cQ]at this;omega
  rw[n9 hk,aO];refine R0 hx<|RE (Ep _ _)<|RP (P:=λst:List aH=>st=kW (a.aU.take<|k+1) ((i:Nat):Int)) (R9 (λh=>?_)<|λh=>RJ ?_)<|λst hst=>Si ⟨cD (by omega),hst⟩
  ·refine R0 hx<|RE (pU (hb.ok _<|cU hk).1)<|SB (by simp only[fR,List.length_nil];omega)<|RJ ?_
   rw[hts,aC h]
  ·rw[hts,aD (by rw[ld];exact h)]
 ·rintro⟨out,ii⟩e hI;dsimp only at e hI ⊢;subst e;rw[rn,aQ];exact Sn (by rw[fS]at hI;exact hI)
 intro o ho;refine Sm ho ?_<|λr hr=>hr.elim
 rintro⟨hs,ii⟩hI;dsimp only at hI ⊢;subst hI;obtain⟨t,_,ht⟩:=pN (N:=N) (l:=kW a.aU ((i:Nat):Int)) (by omega) (λx hx=>(hho x hx).1) (by omega);obtain⟨z1,z2,z3⟩:=ht.FK;have z4:2*(kW a.aU ((i:Nat):Int)).length*(2*(kW a.aU ((i:Nat):Int)).length)<=1000*1000:=Nat.mul_le_mul (by omega) (by omega);refine R0 hr<|RE (uL ht.can ht.cover (by omega) (λx hx=>(hho x hx).1.x) (by omega) hN) ?_
 unfold ky;have hsz:=(wM (A:=5000) hd.can hd.lim (by rw[dF,ma,ma];omega) (by rw[dF,jw,jw];omega)).2.2
 have hc:gD N r (aR t) 3=some (aR s):=F0 hd.can (λx y=>by
  rw[hd.cover,pO ht.can,ht.cover];unfold sd;simp) (by omega) (by omega) (λx hx=>(hro x hx).x) (λx hx=>(tY ht.can x hx).1) (by omega) hN
 rw[hc,aB,aB];exact RJ rfl
theorem Dr:∀(gH:List (List<|List aA))(k:Nat),(eG k gH).length=(gH.map List.length).sum
 | [],k=>rfl
 |ps::gH,k=>by
  show(ps.map _++eG (k+1) gH).length=_;rw[dF,dY,Dr gH<|k+1,dT,List.sum_cons]
theorem IQ{a:gm}{me:List (List aA)}{gH:List (List<|List aA)}(hg:pT a)(hD:v9 a.aJ a.aU a.aJ.length me gH){i:Nat}{s:List aA}(hi:i<a.aJ.length)(hd:me[i]? =some s)(hf:(aR s).length<=2000):∃ps u,gH[i]? =some ps/\sg a.aJ[i] (kW a.aU ((i:Nat):Int)) s u ps:=by
 have hp:gH[i]? =some (gH[i]'(by rw[hD.CL];exact hi)):=aP _;have hdr:=hD.dr i _ _ hi (aP hi) hd;obtain⟨u,hu⟩:=hD.pt i _ _ hi hd hp;have hreg:=sR.1<|hg.Rb _<|cU hi
 exact⟨_,u,hp,λx hx=>((ti.1 hreg.1).2 x hx).1,λx hx=>(v8 hg.gb _ x hx).2,(Ef hreg.1).2,λx hx=>(v8 hg.gb _ x hx).1,hdr,hu,hf⟩
theorem sg.pieces{r hs:List aH}{s:List aA}{u:Nat->Nat}{ps:List (List aA)}(h:sg r hs s u ps)(hN:4398046511104<=N):gE N (aR s)=some (ps.map aR):=by
 refine F3 h.dr.can h.pt h.BZ (λq hq=>?_) (λp hp=>(h.part hp).2.1) hN;obtain⟨h1,h2,h3⟩:=HT h.r1 h.r2 h.dr.can h.dr.lim q hq;exact GS h1 h2 h3
theorem G9{a b:aH}(ha:a.X0<a.X1/\a.Y0<a.Y1)(hb:b.X0<b.X1/\b.Y0<b.Y1):fX N a b=some (FQ a b):=by
 unfold fX;rw[zf,zf,pq,pq];have e1:decide (min a.X1 b.X1>max a.X0 b.X0)=zc a.X0 a.X1 b.X0 b.X1:=by
  unfold zc;rw[dZ,bT,bF,bF,bF];omega
 have e2:decide (min a.Y1 b.Y1>max a.Y0 b.Y0)=zc a.Y0 a.Y1 b.Y0 b.Y1:=by
  unfold zc;rw[dZ,bT,bF,bF,bF];omega
 rw[e1,e2];unfold FQ
 cases zc a.X0 a.X1 b.X0 b.X1 <;> rfl
theorem sq_pos{b:cJ}(h:qL b=true):(vZ b).X0<(vZ b).X1/\(vZ b).Y0<(vZ b).Y1:=by
 obtain⟨h1,_,_⟩:=sP h;simp only[vZ];omega
inductive Checked (N:Nat) (a:gm):Prop
 |err (e:Int) (he:e≠0) (h1:ir N a=some (none,e)) (h2:dO N a=some e)
 |ok {me:List (List aA)} {gH:List (List (List aA))} {r:Nat->Nat} {gs:List dD} {ofP ofB qM:List Int} {qB:List gC} (b:wg a me gH r gs ofP ofB qM qB)
  (h1:ir N a=some (some (a.aJ,a.cT,a.aU,a.bJ,me,eG 0 gH,oR a.aU<|eG 0 gH,gs,ofP,ofB,qM,qB),0)) (h2:dO N a=some 0)
theorem HV{a:gm}(hb:nE a.aU)(hN:4398046511104<=N){f:Int->Option Int}{Q:Int->Prop}(hc:qN a->Q 12)(hn:¬qN a->∀s,Ok (f s) Q):
  Ok ((j6 (λ(s35:Int)=>(bif decide (s35<(a.aU.length:Int))then((j6 (λ(s622:Int)=>(bif decide (s622<s35)then(((idx a.aU s35).bind λx869=>(idx a.aU s622).bind λx873=>(iA N x869 x873).bind λx876=>bif x876 then((idx a.aU s35).bind λx879=>(cZ N x879).bind λx882=>(idx a.aU s622).bind λx885=>(cZ N x885).bind λx888=>(fX N x882 x888).bind λx890=>some x890)else some false).bind λs867=>bif s867 then some (.rt 12)else some (.nx<|wrap .i64<|s622+1))else(some<|.br s622):Option (Fl Int Int))) N 0).bind λo911=>o911.cs (λ(s622:Int)=>some<|.nx<|wrap .i64<|s35+1)<|λr=>some<|.rt r)else(some<|.br s35):Option (Fl Int Int))) N 0).bind λo933=>o933.cs f<|λr=>some r) Q:=by
 have hbl:=hb.len;refine RP (SD (n:=a.aU.length) (λs=>s) (λk _=>∀(i j:Nat)(x y:cJ),i<k->j<i->a.aU[i]? =some x->a.aU[j]? =some y->¬r9 x y=true) (Go:=λ_=>¬qN a) (Rt:=λr=>r=12/\qN a) ?_ ?_ (eZ _) rfl (λi j x y hi=>by omega) (by omega)) ?_
 ·rintro k s hk e hI;subst e;rw[n9 hk,aO];have hx:a.aU[k]? =some a.aU[k]:=aP hk;have fx:=(hb.ok _<|cU hk).1;refine RP (SD (n:=k) (λs=>s) (λt _=>∀(j:Nat)(y:cJ),j<t->a.aU[j]? =some y->¬r9 a.aU[k] y=true) (Go:=λ_=>∀(j:Nat)(y:cJ),j<k->a.aU[j]? =some y->¬r9 a.aU[k] y=true) (Rt:=λr=>r=12/\qN a) ?_ ?_ (eZ _) rfl (λj y hj=>by omega) (by omega)) ?_
  ·rintro t s ht e hI2;subst e;rw[n9 ht,aO];have hy:a.aU[t]? =some (a.aU[t]'(by omega)):=aP _;have fy:=(hb.ok _<|cU (show t<a.aU.length by omega)).1;have hcond:((idx a.aU ((k:Nat):Int)).bind λx869=>(idx a.aU ((t:Nat):Int)).bind λx873=>(iA N x869 x873).bind λx876=>bif x876 then((idx a.aU ((k:Nat):Int)).bind λx879=>(cZ N x879).bind λx882=>(idx a.aU ((t:Nat):Int)).bind λx885=>(cZ N x885).bind λx888=>(fX N x882 x888).bind λx890=>some x890)else some false)=some (r9 a.aU[k]<|a.aU[t]'(by omega)):=by
    rw[dS hx,aB,dS hy,aB];unfold iA r9;rw[aB]
    cases(decide (a.aU[k].cL<=(a.aU[t]'(by omega)).To)&&decide ((a.aU[t]'(by omega)).cL<=a.aU[k].To))with
    |false=>rfl
    |true=>rw[aO,aB,pU fx,aB,aB,pU fy,aB,G9 (sq_pos fx) (sq_pos fy),aB,Bool.true_and]
   refine RE hcond<|R9 (λh=>SC ⟨rfl,k,t,_,_,ht,hx,hy,h⟩)<|λh=>Si ⟨cD (by omega),λj y hj hjy=>?_⟩
   by_cases e:j=t
   ·subst e;rw[hy]at hjy;injection hjy with hjy;rw[<-hjy,h];exact oT
   ·exact hI2 j y (by omega) hjy
  ·rintro s e hI2;subst e;rw[rn,aQ];exact Sn hI2
  intro o ho;refine Sm ho (λs hs=>Si ⟨cD (by omega),λi j x y hi hj hix hjy=>?_⟩)<|λr hr=>SC hr
  by_cases e:i=k
  ·subst e;rw[hx]at hix;injection hix with hix;rw[<-hix];exact hs j y hj hjy
  ·exact hI i j x y (by omega) hj hix hjy
 ·rintro s e hI;subst e;rw[rn,aQ];refine Sn ?_;rintro⟨i,j,x,y,hij,hx,hy,hc⟩;exact hI i j x y (bA.1 hx).1 hij hx hy hc
 intro o ho;exact Sm ho (λs hs=>hn hs s)<|λr hr=>RJ (by rw[hr.1];exact hc hr.2)
theorem checked{a:gm}(hs:tV a)(hN:4398046511104<=N):Checked N a:=by
 obtain⟨x,hx,hI⟩:=z5 (N:=N) hs hN;have hbe:=F6 a;have hcp:=AN (N:=N) hs hN
 rcases hI with⟨he,rfl⟩|⟨h0,hg,hcl,me,gH,D,hI⟩
 ·refine .err _ he hx<|SJ ?_
  unfold dO;refine RE hcp ?_
  by_cases h:mf a≠0
  ·rw[aC h]at hbe;rw[show(mf a != 0)=true by simpa using h,aO,hbe];exact RJ rfl
  ·rw[aD h]at hbe;have hp0:mf a=0:=by simpa using h
   have hc:qN a:=by
    by_cases hc:qN a
    ·exact hc
    ·rw[aD hc]at hbe;exact absurd hbe he
   rw[aC hc]at hbe;rw[hp0,show((0:Int) != 0)=false by rfl,aQ];have hbo:=Ce hp0;refine HV ⟨(mw hbo).1,λb hb=>⟨((mw hbo).2 b hb).1,((mw hbo).2 b hb).2.1⟩⟩ hN (λ_=>hbe.symm)<|λh=>absurd hc h
 ·have hp0:mf a=0:=by
   by_cases h:mf a≠0
   ·rw[aC h]at hbe;rw[hbe]at h0;exact h0
   ·simpa using h
  have key:dO N a=some (if Na me gH then 0 else 2):=by
   refine SJ ?_;unfold dO;refine RE hcp ?_;rw[hp0,show((0:Int) != 0)=false by rfl,aQ];refine HV hg.gb hN (λh=>absurd h hcl)<|λ_ _=>?_
   have hc16:=hg.BZ.2
   refine RP (SD (n:=a.aJ.length) (λs=>s.2) (λk st=>st.1=((((gH.take k).map List.length).sum:Nat):Int)/\((gH.take k).map List.length).sum<=k*2000/\∀(j:Nat)s,j<k->me[j]? =some s->(aR s).length<=2000)
    (Go:=λst=>st.1=(((gH.map List.length).sum:Nat):Int)/\∀s∈me,(aR s).length<=2000) (Rt:=λr=>r=2/\¬Na me gH) ?_ ?_ (eZ _) rfl ⟨by simp,by simp,λj s hj=>by omega⟩ (by omega)) ?_
   ·rintro k⟨m,i⟩hk e⟨hm,hml,hI2⟩;dsimp only at e hm ⊢;subst e;subst hm;rw[n9 hk,aO];have hcx:a.aJ[k]? =some a.aJ[k]:=aP hk;have hd:me[k]? =some (me[k]'(by rw[D.len];exact hk)):=aP _;have hcs:=hg.cs _<|cU hk
    refine RE (Cf hg.gb hcx hcs.1 hcs.2 (D.dr k _ _ hk hcx hd) hN)<|R9 (λh=>SC ⟨rfl,λhf=>?_⟩)<|λh=>?_
    ·have:=hf.1 _<|gq hd
     have:=of_decide_eq_true h;omega
    ·have hf:(aR<|me[k]'(by rw[D.len];exact hk)).length<=2000:=by have:=of_decide_eq_false h;omega
     obtain⟨ps,u,hp,L⟩:=IQ hg D hk hd hf;have hpl:=L.pt.BZ;have hkp:k<gH.length:=by rw[D.CL];exact hk
     have hpe:gH[k]=ps:=by rw[aP hkp]at hp;injection hp
     refine RE (L.pieces hN)<|Si ⟨cD (by omega),?_,?_,λj s hj hjs=>?_⟩
     ·dsimp only;rw[dY,wrap_add (by omega),fq hkp,eN,List.sum_append,hpe];simp
     ·rw[fq hkp,eN,List.sum_append,hpe];simp only[dT,List.map_nil,List.sum_cons,List.sum_nil];rw[Nat.add_mul];omega
     ·by_cases e:j=k
      ·subst e;rw[hd]at hjs;injection hjs with hjs;rw[<-hjs];exact hf
      ·exact hI2 j s (by omega) hjs
   ·rintro⟨m,i⟩e⟨hm,hml,hI2⟩;dsimp only at e hm ⊢;subst e;rw[rn,aQ];rw[mE (by rw[D.CL];exact bR _)]at hm;refine Sn ⟨hm,λs hs'=>?_⟩;obtain⟨j,hj⟩:=eO hs';exact hI2 j s (by have:=(bA.1 hj).1;rw[D.len]at this;exact this) hj
   intro o ho;refine Sm ho ?_<|λr hr=>RJ (by rw[hr.1,aD hr.2])
   rintro⟨m,i⟩⟨hm,hf⟩;dsimp only at hm ⊢;subst hm;have hpl:=Dr gH 0;refine R9 (λh=>RJ ?_)<|λh=>RJ ?_
   ·rw[aD];rintro⟨_,h2⟩;have:=of_decide_eq_true h;omega
   ·rw[aC];exact⟨hf,by have:=of_decide_eq_false h;omega⟩
  rcases hI with⟨hf,rfl⟩|⟨hf,r,gs,ofP,ofB,qM,qB,hC,rfl⟩
  ·rw[aD hf]at key;exact .err 2 (by decide) hx key
  ·rw[aC hf]at key;exact .ok ⟨hg,hcl,D,hf,hC⟩ hx key
end
section
variable {N:Nat}
end
section
variable {N:Nat}{a:gm}{me:List (List aA)}{gH:List (List (List aA))}{r:Nat->Nat}{gs:List dD}{ofP ofB qM:List Int}{qB:List gC}
end
structure PS (n:Nat) (r:Nat->Nat) (h:Nat) (q:List Nat) (seen:List Bool) (pieces todo:List Int):Prop where
 sl:seen.length=n
 sn:∀p,p<n->seen[p]? =some (decide<|r p<h\/p∈q)
 qn:q.Nodup
 qi:∀p∈q,p<n/\r p=h
 q0:h∈q
 td:todo=ints q
 pi:jT pieces
 pm:∀x,x∈pieces↔∃p∈q,x=((p:Nat):Int)
structure QS (n m:Nat) (tch:List (List Int)) (r:Nat->Nat) (h:Nat) (q qb:List Nat) (za:List Int) (used:List Bool):Prop where
 ul:used.length=m
 un:∀k,k<m->used[k]? =some (decide<|k∈qb)
 bi:jT za
 bm:∀x,x∈za↔∃k∈qb,x=((k:Nat):Int)
 bk:∀k∈qb,k<m/\r (n+k)=h/\∀l,tch[k]? =some l->∀p:Nat,((p:Nat):Int)∈l->p∈q
theorem PS.BZ{n:Nat}{r:Nat->Nat}{h:Nat}{q:List Nat}{seen:List Bool}{pieces todo:List Int}(H:PS n r h q seen pieces todo):q.length<=n/\pieces.length<=n:=by
 have h1:=fP H.qn (m:=List.range n) (λk hk=>by rw[ni];exact(H.qi k hk).1);rw[List.length_range]at h1;have h2:=fP H.pi.nodup (m:=ints q)<|λx hx=>B0.2<|(H.pm x).1 hx
 rw[pj]at h2;exact⟨h1,by omega⟩
theorem QS.BZ{n m:Nat}{tch:List (List Int)}{r:Nat->Nat}{h:Nat}{q qb:List Nat}{za:List Int}{used:List Bool}(H:QS n m tch r h q qb za used):za.length<=m:=by
 have h2:=fP H.bi.nodup (m:=ints (List.range m)) (λx hx=>by
  obtain⟨k,hk,e⟩:=(H.bm x).1 hx
  exact B0.2 ⟨k,ni.2 (H.bk k hk).1,e⟩)
 rwa[pj,List.length_range]at h2
section
variable {N:Nat}
end
structure Rw (G G':List dD):Prop where
 len:G'.length=G.length
 each:∀(g:Nat)x,G[g]? =some x->∃y,G'[g]? =some y/\y.qm=x.qm/\y.aU=x.aU
section
variable {N:Nat}
end
section
variable {N:Nat}{a:gm}{me:List (List aA)}{gH:List (List (List aA))}{r:Nat->Nat}{gs:List dD}{ofP ofB qM:List Int}{qB:List gC}
theorem wg.xp(b:wg a me gH r gs ofP ofB qM qB):oS a:=IP b.O2.xp
end
section
variable {N:Nat}{a:gm}{me:List (List aA)}{gH:List (List (List aA))}{r:Nat->Nat}{gs:List dD}{ofP ofB qM:List Int}{qB:List gC}
end
section
variable {N:Nat}
end
section
variable {bs:List cJ}{ls:List dN}{pcs:List aL}{r:Nat->Nat}{gs:List dD}{ofP ofB qM:List Int}{qB:List gC}
end
section
variable {N:Nat}{a:gm}{me:List (List aA)}{gH:List (List (List aA))}{r:Nat->Nat}{gs:List dD}{ofP ofB qM:List Int}{qB:List gC}
end
section
variable {N:Nat}
end
section
variable {N:Nat}{a:gm}{me:List (List aA)}{gH:List (List (List aA))}{r:Nat->Nat}{gs:List dD}{ofP ofB qM:List Int}{qB:List gC}
theorem HW(x:dN)(p:eA):jV x=p↔x.Part=p.Part/\x.eA=p.eA:=by
 cases p;unfold jV;rw[eA.mk.injEq]
theorem t7(g:oS a)(p:eA)(hN:4398046511104<=N):eQ N a p=some (iK a p):=by
 obtain⟨r,h1,h2⟩:=F4 (N:=N) (p:=p) g.up (by have:=g.BZ;omega) (by omega) (φ:=jc N) (λx=>by unfold jc;rw[zY,aB,mc,aB]);unfold eQ;have e:fZ N a.bJ p (jc N)=JN N a.bJ p (jc N):=rfl;rw[e,h1,aB];exact h2
end
section
variable {N:Nat}
end
theorem CM.uniq{n m:Nat}{tch:List (List Int)}{r1 r2:Nat->Nat}(h1:CM n m tch r1)(h2:CM n m tch r2){i j:Nat}(hi:i<n+m)(hj:j<n+m):r1 i=r1 j↔r2 i=r2 j:=by
 have key:∀{r1 r2:Nat->Nat},CM n m tch r1->CM n m tch r2->r1 i=r1 j->r2 i=r2 j:=λ{r1 r2}h1 h2 e=>
  (h1.fi (λx=>r2 i=r2 x) (λa b hab=>by rw[h2.co a b hab]) i j hi hj e) rfl
 exact⟨key h1 h2,key h2 h1⟩
section
variable {N:Nat}{a:gm}{me:List (List aA)}{gH:List (List (List aA))}{r:Nat->Nat}{gs:List dD}{ofP ofB qM:List Int}{qB:List gC}
theorem MZ(x y:Int)(u:List Int):lz N x y [] u=eF N u x y:=by
 show(((eF N u x y).bind λx38=>some x38).bind λs36=>some s36)=_
 cases eF N u x y <;> rfl
theorem Ha{bs:List cJ}{pcs:List aL}{l:dN}{h:gC}(hh:sD bs pcs l=some h)(hn:pcs.length+bs.length<=1000000000):
  j9 N h ((pcs.length:Nat):Int)=some ((j5 pcs.length h:Nat):Int)/\j5 pcs.length h<pcs.length+bs.length:=by
 obtain⟨k,e,h1,h2⟩:=(GX hh).num;unfold j9 j5
 cases hB:h.cJ with
 |true=>
  have:=(h1 hB).1;rw[aO,aC rfl,e,cI,wrap_add (by omega)];exact⟨rfl,by omega⟩
 |false=>
  have:=h2 hB;rw[aQ,aD oT,e,cI];exact⟨rfl,by omega⟩
structure Lm (bs:List cJ) (pcs:List aL) (ls:List dN) (r2:Nat->Nat) (j:Nat) (up:List Int) (fm:List (Int×Int)) (out:List Int):Prop where
 uf:UF (pcs.length+bs.length) up r2
 len:out.length=ls.length
 no:∀i l,i<j->ls[i]? =some l->sD bs pcs l=none->out[i]? =some (-1)
 yes:∀i l h,i<j->ls[i]? =some l->sD bs pcs l=some h->lL fm ((r2 (j5 pcs.length h):Nat):Int)=true/\out[i]? =some (fC fm ((r2 (j5 pcs.length h):Nat):Int) 0)
 low:∀x,lL fm x=true->∃v:Nat,fC fm x 0=((v:Nat):Int)/\v<j
 inj:∀x y,lL fm x=true->lL fm y=true->fC fm x 0=fC fm y 0->x=y
theorem Hb{bs:List cJ}{pcs:List aL}{ls:List dN}(hn:pcs.length+bs.length<=1000000000)(hp:pcs.length<=1073741824)(hbl:bs.length<=1073741824)(hl:ls.length<=1073741824)(hof:qM=ls.map (IX bs pcs r))(hat:qB=ls.map (λl=>(sD bs pcs l).getD ⟨false,0⟩))(hN:4398046511104<=N):
  ∃r2 c up fm,mn N bs ls pcs (oR bs pcs) qM qB []=some c/\CM pcs.length bs.length (oR bs pcs) r2/\Lm bs pcs ls r2 ls.length up fm c:=by
 suffices h:Ok (mn N bs ls pcs (oR bs pcs) qM qB []) (λc=>∃r2 up fm,CM pcs.length bs.length (oR bs pcs) r2/\Lm bs pcs ls r2 ls.length up fm c)by
  obtain⟨c,h1,r2,up,fm,h2,h3⟩:=h;exact⟨r2,c,up,fm,h1,h2,h3⟩
 unfold mn;refine RE (x:=[]) rfl ?_;rw[wrap_add (by omega)];obtain⟨up0,u1,u2⟩:=Ao (N:=N) (n:=pcs.length+bs.length) (by omega);refine RE u1 ?_;simp only[MZ];refine RP (Di (n:=pcs.length) (m:=bs.length) (by unfold oR;simp) (FP (by omega)) (by omega) (by omega) u2 hN) ?_;rintro up1⟨r2,v1,v2⟩;refine RE (x:=up1) rfl<|RE (rf 0 (by omega)) ?_
 have t9:qB.length=ls.length:=by rw[hat,dY]
 refine RP (SR (λj(st:List Int×List (Int×Int)×List Int)=>Lm bs pcs ls r2 j st.1 st.2.1 st.2.2) (by omega) ⟨v1,by simp,λi l h=>by omega,λi l h h1=>by omega,λx hx=>(by cases hx),λx y hx=>(by cases hx)⟩ ?_)<|λst I=>RJ ⟨r2,st.1,st.2.1,v2,by rw[<-t9];exact I⟩
 rintro j⟨up,fm,out⟩hj I;rw[t9]at hj;dsimp only at I ⊢;have hx:ls[j]? =some ls[j]:=aP hj;have h1:qB[j]? =some ((sD bs pcs ls[j]).getD ⟨false,0⟩):=by rw[hat,i5,hx];rfl
 have h2:qM[j]? =some (IX bs pcs r ls[j]):=by rw[hof,i5,hx];rfl
 have h3:out[j]? =some (out[j]'(by rw[I.len];exact hj)):=aP _;have hjo:j<out.length:=by rw[I.len];exact hj
 refine R0 h1 ?_
 cases hh:sD bs pcs ls[j]with
 |none=>
  have e1:IX bs pcs r ls[j] = -1:=by unfold IX y9;rw[hh];rfl
  refine RE (x:=0) rfl<|RE (x:=true) (by rw[dS h2,aB,e1];rfl) ?_
  refine R0 h3<|RJ ?_
  dsimp only;rw[cI];refine⟨I.uf,by rw[i6];exact I.len,λi l hi hil hn=>?_,λi l h hi hil hs=>?_,λx hx=>?_,I.inj⟩
  ·by_cases e:i=j
   ·subst e;rw[List.getElem?_set_self hjo]
   ·rw[List.getElem?_set_ne<|Ne.symm e];exact I.no i l (by omega) hil hn
  ·by_cases e:i=j
   ·subst e;rw[hx]at hil;injection hil with hil;subst hil;rw[hh]at hs;cases hs
   ·rw[List.getElem?_set_ne<|Ne.symm e];exact I.yes i l h (by omega) hil hs
  ·obtain⟨v,q1,q2⟩:=I.low x hx;exact⟨v,q1,by omega⟩
 |some h=>
  obtain⟨c1,c2⟩:=Ha (N:=N) hh hn;have e1:∃g:Nat,IX bs pcs r ls[j]=((g:Nat):Int):=by unfold IX y9;rw[hh];exact⟨_,rfl⟩
  obtain⟨g,e1⟩:=e1;refine RE c1<|RE (x:=false) (by rw[dS h2,aB,e1,bO (show ¬((g:Nat):Int)<0 by omega),aQ];rfl) ?_
  rw[aQ];obtain⟨up2,t1,t2⟩:=vW (N:=N) I.uf c2 (by omega);refine RE t1 ?_;dsimp only;have fin:∀(up3:List Int)(fm2:List (Int×Int)),UF (pcs.length+bs.length) up3 r2->(∀x,lL fm x=true->lL fm2 x=true/\fC fm2 x 0=fC fm x 0)->lL fm2 ((r2 (j5 pcs.length h):Nat):Int)=true->(∀x,lL fm2 x=true->∃v:Nat,fC fm2 x 0=((v:Nat):Int)/\v<j+1)->(∀x y,lL fm2 x=true->lL fm2 y=true->fC fm2 x 0=fC fm2 y 0->x=y)->
    Lm bs pcs ls r2 (j+1) up3 fm2 (out.set j<|fC fm2 ((r2 (j5 pcs.length h):Nat):Int) 0):=λup3 fm2 g1 g2 g3 g4 g5=>by
   refine⟨g1,by rw[i6];exact I.len,λi l hi hil hn=>?_,λi l h' hi hil hs=>?_,g4,g5⟩
   ·by_cases e:i=j
    ·subst e;rw[hx]at hil;injection hil with hil;subst hil;rw[hh]at hn;cases hn
    ·rw[List.getElem?_set_ne<|Ne.symm e];exact I.no i l (by omega) hil hn
   ·by_cases e:i=j
    ·subst e;rw[hx]at hil;injection hil with hil;subst hil;rw[hh]at hs;injection hs with hs;subst hs
     exact⟨g3,by rw[List.getElem?_set_self hjo]⟩
    ·obtain⟨q1,q2⟩:=I.yes i l h' (by omega) hil hs;rw[List.getElem?_set_ne<|Ne.symm e,q2,(g2 _ q1).2];exact⟨(g2 _ q1).1,rfl⟩
  cases hm:lL fm ((r2 (j5 pcs.length h):Nat):Int)with
  |true=>
   rw[lf,aQ];obtain⟨up3,t3,t4⟩:=vW (N:=N) t2 c2 (by omega);refine RE (x:=(up2,fm)) rfl<|RE t3<|R0 h3<|RJ ?_
   dsimp only;rw[cI];exact fin up3 fm t4 (λx hx=>⟨hx,rfl⟩) hm (λx hx=>by obtain⟨v,q1,q2⟩:=I.low x hx;exact⟨v,q1,by omega⟩) I.inj
  |false=>
   rw[oW,aO];obtain⟨up3,t3,t4⟩:=vW (N:=N) t2 c2 (by omega);obtain⟨up4,t5,t6⟩:=vW (N:=N) t4 c2 (by omega);refine RE (x:=(up3,ql fm ((r2 (j5 pcs.length h):Nat):Int) ((j:Nat):Int))) (by rw[t3,aB])<|RE t5<|R0 h3<|RJ ?_
   dsimp only;rw[cI];refine fin up4 _ t6 (λx hx=>?_) (by rw[tP];simp) (λx hx=>?_)<|λx y hx hy e=>?_
   ·have hne:x≠((r2 (j5 pcs.length h):Nat):Int):=λe=>by rw[e,hm]at hx;cases hx
    rw[tP,pM,aD hne,hx];exact⟨by simp,rfl⟩
   ·rw[pM]
    by_cases e:x=((r2 (j5 pcs.length h):Nat):Int)
    ·rw[aC e];exact⟨j,rfl,by omega⟩
    ·rw[aD e];rw[tP,bO e,Bool.false_or]at hx;obtain⟨v,q1,q2⟩:=I.low x hx;exact⟨v,q1,by omega⟩
   ·rw[pM,pM]at e;rw[tP]at hx hy
    by_cases ex:x=((r2 (j5 pcs.length h):Nat):Int)
    ·by_cases ey:y=((r2 (j5 pcs.length h):Nat):Int)
     ·rw[ex,ey]
     ·rw[aC ex,aD ey]at e;rw[bO ey,Bool.false_or]at hy;obtain⟨v,q1,q2⟩:=I.low y hy;omega
    ·rw[bO ex,Bool.false_or]at hx
     by_cases ey:y=((r2 (j5 pcs.length h):Nat):Int)
     ·rw[aD ex,aC ey]at e;obtain⟨v,q1,q2⟩:=I.low x hx;omega
     ·rw[aD ex,aD ey]at e;rw[bO ey,Bool.false_or]at hy;exact I.inj x y hx hy e
theorem Ln(b:wg a me gH r gs ofP ofB qM qB){x y:dN}{h h':gC}(hx:sD a.aU (eG 0 gH) x=some h)(hy:sD a.aU (eG 0 gH) y=some h'):(y9 a.aU (eG 0 gH) r x=y9 a.aU (eG 0 gH) r y)↔r (j5 (eG 0 gH).length h)=r (j5 (eG 0 gH).length h'):=by
 have gp:∀{z:dN}{h:gC},sD a.aU (eG 0 gH) z=some h->(live a.aU (eG 0 gH).length ((eG 0 gH).length+a.aU.length) r<|bW ((eG 0 gH).length+a.aU.length) r)[gi a.aU (eG 0 gH).length ((eG 0 gH).length+a.aU.length) r<|r<|j5 (eG 0 gH).length h]? =some (r<|j5 (eG 0 gH).length h):=by
  intro z h hz;obtain⟨k,e,g1,g2⟩:=(GX hz).num;have hle:=b.O3.conn.le;have hrr:=b.O3.conn.rr;have hd:∀i,i<(eG 0 gH).length+a.aU.length->r i∈bW ((eG 0 gH).length+a.aU.length) r:=λi hi=>k9.2 ⟨ni.2 (by have:=hle i hi;omega),by rw[bF];exact hrr i hi⟩;unfold j5
  cases hB:h.cJ with
  |true=>
   obtain⟨k1,k2⟩:=g1 hB;rw[aC rfl,e,cI];exact(Kd (hd _ (by omega))<|Mb k2 (by omega)).2
  |false=>
   have k1:=g2 hB;rw[aD oT,e,cI];exact(Kd (hd _ (by omega))<|Ma k1 (by omega)).2
 unfold y9;rw[hx,hy];constructor
 ·intro e;simp only[Option.map_some,Option.some.injEq]at e;have h1:=gp hx;have h2:=gp hy;rw[e,h2]at h1;injection h1 with h1;exact h1.symm
 ·intro e;simp only[Option.map_some,Option.some.injEq];rw[e]
theorem Er(b:wg a me gH r gs ofP ofB qM qB)(h1:ir N a=some (some (a.aJ,a.cT,a.aU,a.bJ,me,eG 0 gH,oR a.aU<|eG 0 gH,gs,ofP,ofB,qM,qB),0)){p q:eA}{i k:Nat}{x y:dN}(ep:iK a p=((i:Nat):Int))(hx:a.bJ[i]? =some x)(eq:iK a q=((k:Nat):Int))(hy:a.bJ[k]? =some y)(hN:4398046511104<=N):
  jK N a [] p q=some ((y9 a.aU (eG 0 gH) r x).isSome&&decide (y9 a.aU (eG 0 gH) r x=y9 a.aU (eG 0 gH) r y),0):=by
 have hf:=b.BZ.2;have hbl:=b.O2.gb.len;have hlf:=b.xp.BZ;obtain⟨r2,c,up,fm,c1,c2,c3⟩:=Hb (N:=N) (r:=r) (qM:=qM) (qB:=qB) (bs:=a.aU) (pcs:=eG 0 gH) (ls:=a.bJ) (by omega) (by omega) (by omega) (by omega) b.O3.qM b.O3.qB hN;have hil:=(bA.1 hx).1;have hkl:=(bA.1 hy).1;unfold jK;rw[h1,aB,t7 b.xp p hN,t7 b.xp q hN];simp only[Jk,bne_self_eq_false,aQ,aB];have hz:∀(p0:List (List aH))(p1:List aH)(p2:List cJ)(p3:List dN)(p4:List (List aA))(p5:List aL)(p6:List (List Int))(p7:List dD)(p8 p9 p10:List Int)(p11:List gC),ny N p0 p1 p2 p3 p4 p5 p6 p7 p8 p9 p10 p11 []=some 0:=λ_ _ _ _ _ _ _ _ _ _ _ _=>rfl;rw[hz,aB,bne_self_eq_false,aQ,ep,eq,bO (show ¬((i:Nat):Int)<0 by omega),bO (show ¬((k:Nat):Int)<0 by omega),Bool.or_false,aQ,c1,aB]
 cases hhx:sD a.aU (eG 0 gH) x with
 |none=>
  have e1:y9 a.aU (eG 0 gH) r x=none:=by unfold y9;rw[hhx];rfl
  rw[dS<|c3.no i x hil hx hhx,aB,e1];rfl
 |some h=>
  obtain⟨q1,q2⟩:=c3.yes i x h hil hx hhx;obtain⟨v,v1,_⟩:=c3.low _ q1;have e1:(y9 a.aU (eG 0 gH) r x).isSome=true:=by unfold y9;rw[hhx];rfl
  rw[dS q2,aB,v1,bL (show((v:Nat):Int)>=0 by omega),aO,aB,e1,Bool.true_and]
  cases hhy:sD a.aU (eG 0 gH) y with
  |none=>
   have e2:y9 a.aU (eG 0 gH) r y=none:=by unfold y9;rw[hhy];rfl
   rw[dS<|c3.no k y hkl hy hhy,aB,aB,bO (λe=>by rw[e,e2]at e1;cases e1),show(((v:Nat):Int)== -1)=false from by rw[beq_eq_false_iff_ne];omega]
  |some h'=>
   obtain⟨s1,s2⟩:=c3.yes k y h' hkl hy hhy;obtain⟨w,w1,_⟩:=c3.low _ s1;rw[dS s2,aB,w1,aB];have t1:=(Ha (N:=N) hhx (by omega)).2;have t2:=(Ha (N:=N) hhy (by omega)).2;have key:(((v:Nat):Int)=((w:Nat):Int))↔y9 a.aU (eG 0 gH) r x=y9 a.aU (eG 0 gH) r y:=by
    rw[Ln b hhx hhy,CM.uniq b.O3.conn c2 t1 t2];constructor
    ·intro e;have:=c3.inj _ _ q1 s1 (by rw[v1,w1];exact e);omega
    ·intro e;rw[e,w1]at v1;exact v1.symm
   congr 2;rw[dZ,beq_iff_eq,bF];exact key
end
def sE:gm:=⟨[[⟨0,0,1,1⟩]],[],[],[⟨⟨[97]⟩,⟨[49]⟩,0,⟨0,0⟩⟩]⟩
def Lo:eA:=⟨⟨[97]⟩,⟨[49]⟩⟩
def uW:aA:=⟨0,1,[0,1]⟩
theorem Lp:r7 [⟨0,0,1,1⟩] [uW]where
 can:=⟨λb hb=>by
  have e:b=bY uW:=by simpa using hb
  subst e
  exact⟨by decide,by decide,by unfold jT;decide,by decide⟩,List.pairwise_singleton _ _⟩
 cover:=λx y=>by
  show pw (if(0:Int)<=y/\y<1 then [0,1]else []) x=((decide ((0:Int)<=x)&&decide (x<1))&&(decide ((0:Int)<=y)&&decide (y<1))||false)
  by_cases h:(0:Int)<=y/\y<1
  ·rw[aC h,bL h.1,bL h.2];unfold pw;rw[n7,n7,D5]
   by_cases h0:(0:Int)<=x
   ·by_cases h1:(1:Int)<=x
    ·rw[aC h0,aC h1,bO (show ¬x<1 by omega)];simp
    ·rw[aC h0,aD h1,bL h0,bL (show x<1 by omega)];rfl
   ·rw[aD h0,aD (show ¬(1:Int)<=x by omega),bO h0];rfl
  ·rw[aD h];have:(decide ((0:Int)<=y)&&decide (y<1))=false:=by
    rw[Bool.eq_false_iff];intro h';rw[bT,bF,bF]at h';exact h h'
   rw[this,Bool.and_false];rfl
 lim:=λb hb=>by
  have e:b=bY uW:=by simpa using hb
  subst e;exact⟨by decide,by decide,by decide⟩
theorem Q0:r7 [] []:=⟨eR.nil,λ_ _=>rfl,λb hb=>by cases hb⟩
theorem Q1:iZ [⟨0,0,1,1⟩]=0:=sR.2 ⟨by decide,λk a b h1 h2=>(by cases k <;> simp at h2),⟨_,Lp,rfl⟩⟩
theorem Q2:iZ []=0:=sR.2 ⟨by decide,λk a b h1 h2=>(by simp at h2),⟨_,Q0,rfl⟩⟩
theorem M1:tV sE:=⟨by decide,by decide,by decide,by decide,by decide,by
 intro x hx;have e:x= ⟨⟨[97]⟩,⟨[49]⟩,0,⟨0,0⟩⟩:=by simpa[sE]using hx
 subst e;decide⟩
theorem M3:jW sE=0:=by
 have e1:sE.aJ.findSome? tU=none:=by
  show [[(⟨0,0,1,1⟩:aH)]].findSome? tU=none;have:tU [⟨0,0,1,1⟩]=none:=by unfold tU;rw[Q1];simp
  simp[this]
 have e2:iV sE=0:=by decide
 have e3:lJ sE=0:=by
  unfold lJ;have:qc sE.bJ.length (jF sE)=none:=kb.2 λk hk=>by
   have hk:k<1:=hk;obtain rfl:k=0:=by omega
   unfold jF;have hx0:sE.bJ[0]? =some ⟨⟨[97]⟩,⟨[49]⟩,0,⟨0,0⟩⟩:=rfl;rw[hx0,Option.bind_some,aC (by decide),aC (by decide),aD (by rintro⟨h,_⟩;omega)]
  rw[this,aD (by decide)];rfl
 have e4:¬qN sE:=by
  rintro⟨i,k,x,y,_,h,_⟩;simp[sE]at h
 unfold jW;rw[aD (by decide),aD (by decide)];unfold IF;rw[e1];show(if iZ []≠0 then iZ []else CP sE)=0;rw[Q2,aD (by simp)];unfold CP;rw[aD (by decide),e2,aD (by simp),e3,aD (by simp),aD e4]
theorem O7{me:List (List aA)}{gH:List (List<|List aA)}(D:v9 sE.aJ sE.aU sE.aJ.length me gH):me= [[uW]]/\gH= [[[uW]]]:=by
 obtain⟨s,rfl⟩:=List.length_eq_one_iff.1 D.len;obtain⟨ps,rfl⟩:=List.length_eq_one_iff.1 D.CL;have hd:=D.dr 0 [⟨0,0,1,1⟩] s (by decide) rfl rfl;have hs:s= [uW]:=FJ hd.can Lp.can λx y=>by
  rw[hd.cover,Lp.cover];show(_&& !vf [] x y)=_;simp[vf]
 subst hs;obtain⟨u,hu⟩:=D.pt 0 [uW] ps (by decide) rfl rfl;have u0:u 0=0:=Nat.le_zero.1<|hu.join.le 0 (by decide)
 have hh:bW (aR [uW]).length u= [0]:=by
  show(List.range 1).filter (λk=>decide<|u k=k)= [0];simp[List.range_succ,u0]
 obtain⟨p,rfl⟩:=List.length_eq_one_iff.1 (show ps.length=1 by rw[hu.len,hh];rfl);have hp:=hu.each 0 0 p (by rw[hh];rfl) rfl;have hc:nN (aR [uW]) (aR [uW]).length u 0= [⟨0,0,1,1⟩]:=by
  show((List.range 1).filter<|λi=>decide<|u i=0).filterMap (λi=>(aR [uW])[i]?)=_;simp[List.range_succ,u0];rfl
 rw[hc]at hp;exact⟨rfl,by rw[hp.unique Lp]⟩
section
variable {N:Nat}
theorem Lq(hN:4398046511104<=N):ju N=some true:=by
 have key:jK N sE [] Lo Lo=some (true,0):=by
  obtain⟨x,hx,hI⟩:=z5 (N:=N) M1 hN
  rcases hI with⟨he,_⟩|⟨_,hg,hcl,me,gH,D,⟨hf,_⟩|⟨hf,r,gs,ofP,ofB,qM,qB,hC,rfl⟩⟩
  ·exact absurd M3 he
  ·obtain⟨rfl,rfl⟩:=O7 D;exact absurd ⟨by decide,by decide⟩ hf
  ·have b:wg sE me gH r gs ofP ofB qM qB:=⟨hg,hcl,D,hf,hC⟩;have e:iK sE Lo=((0:Nat):Int):=by
    rcases Ay sE Lo with⟨_,h⟩|⟨k,x,h,hk,_⟩
    ·exact absurd rfl<|h ⟨⟨[97]⟩,⟨[49]⟩,0,⟨0,0⟩⟩ (by simp[sE])
    ·have:k<1:=(bA.1 hk).1;rw[h];omega
   have hl:sE.bJ[0]? =some ⟨⟨[97]⟩,⟨[49]⟩,0,⟨0,0⟩⟩:=rfl;rw[Er b hx e hl e hl hN];obtain⟨rfl,rfl⟩:=O7 D;have hh:sD sE.aU (eG 0 [[[uW]]]) ⟨⟨[97]⟩,⟨[49]⟩,0,⟨0,0⟩⟩=some ⟨false,0⟩:=by decide
   unfold y9;rw[hh];simp
 unfold ju;have e:jK N (⟨([([(⟨0,0,1,1⟩:aH)]:List aH)]:List (List aH)),([]:List aH),([]:List cJ),([(⟨⟨[97]⟩,⟨[49]⟩,0,⟨0,0⟩⟩:dN)]:List dN)⟩:gm) ([]:List mM) (⟨⟨[97]⟩,⟨[49]⟩⟩:eA) (⟨⟨[97]⟩,⟨[49]⟩⟩:eA)=some (true,0):=key;rw[e,aB];rfl
end
def O8(n:Nat)(fl:List mM)(v:Nat):Prop:=∃x∈fl,x.Open=true/\j5 n x.gC=v
structure Rx (bs:List cJ) (n m:Nat) (fl:List mM):Prop where
 op:∀x∈fl,x.Open=true->L9 bs n m x.gC
 br:∀x∈fl,x.Open=false->∃i k:Nat,x.A=((i:Nat):Int)/\x.B=((k:Nat):Int)/\i<k/\k<n
structure F7 (t:Nat) (L:Nat->Nat->Prop) (r:Nat->Nat):Prop where
 le:∀i,i<t->r i<=i
 rr:∀i,i<t->r (r i)=r i
 co:∀i j,L i j->r i=r j
 fi:∀S:Nat->Prop,(∀i j,L i j->(S i↔S j))->∀i j,i<t->j<t->r i=r j->S i->S j
theorem F7.uniq{t:Nat}{L:Nat->Nat->Prop}{r1 r2:Nat->Nat}(h1:F7 t L r1)(h2:F7 t L r2){i j:Nat}(hi:i<t)(hj:j<t):r1 i=r1 j↔r2 i=r2 j:=by
 have key:∀{r1 r2:Nat->Nat},F7 t L r1->F7 t L r2->r1 i=r1 j->r2 i=r2 j:=λ{r1 r2}h1 h2 e=>
  (h1.fi (λx=>r2 i=r2 x) (λa b hab=>by rw[h2.co a b hab]) i j hi hj e) rfl
 exact⟨key h1 h2,key h2 h1⟩
noncomputable def zi(bs:List cJ)(pcs:List aL)(fl:List mM)(l:dN):Option Nat:=(sD bs pcs l).bind λh=>if O8 pcs.length fl (j5 pcs.length h)then none else some (j5 pcs.length h)
section
variable {N:Nat}{r:Nat->Nat}{qM:List Int}{qB:List gC}
def Q3(t:Nat)(L:Nat->Nat->Prop)(op:Nat->Prop)(done:Nat->Nat->Prop)(u:List Int):Prop:=
 ∃r E,UF t u r/\qA r E/\AM t r E/\(∀p∈E,L p.1 p.2/\¬op p.1/\¬op p.2)/\∀i j,done i j->¬op i->¬op j->(i,j)∈E
theorem Q3.mono{t:Nat}{L:Nat->Nat->Prop}{op:Nat->Prop}{d d':Nat->Nat->Prop}{u:List Int}(h:Q3 t L op d u)(hd:∀i j,d' i j->d i j):Q3 t L op d' u:=by
 obtain⟨r,E,h1,h2,h3,h4,h5⟩:=h;exact⟨r,E,h1,h2,h3,h4,λi j hij=>h5 i j<|hd i j hij⟩
structure Lr (bs:List cJ) (pcs:List aL) (fl:List mM) (ls:List dN) (r2:Nat->Nat) (j:Nat) (up:List Int) (fm:List (Int×Int)) (out:List Int):Prop where
 uf:UF (pcs.length+bs.length) up r2
 len:out.length=ls.length
 no:∀i l,i<j->ls[i]? =some l->zi bs pcs fl l=none->out[i]? =some (-1)
 yes:∀i l v,i<j->ls[i]? =some l->zi bs pcs fl l=some v->lL fm ((r2 v:Nat):Int)=true/\out[i]? =some (fC fm ((r2 v:Nat):Int) 0)
 low:∀x,lL fm x=true->∃(v:Nat)(l:dN)(u:Nat),fC fm x 0=((v:Nat):Int)/\v<j/\ls[v]? =some l/\zi bs pcs fl l=some u/\((r2 u:Nat):Int)=x
 inj:∀x y,lL fm x=true->lL fm y=true->fC fm x 0=fC fm y 0->x=y
 le:∀(i v:Nat),out[i]? =some ((v:Nat):Int)->v<=i
end
structure M4 (c:List Int):Prop where
 neg:∀(i:Nat)(x:Int),c[i]? =some x->x<0->x = -1
 own:∀(i v:Nat),c[i]? =some ((v:Nat):Int)->c[v]? =some ((v:Nat):Int)
def Me(c:List Int)(i k:Nat):Bool:=decide (c.getD i (-1)>=0)&&c.getD i (-1)==c.getD k (-1)
section
variable {r:Nat->Nat}
theorem Lr.first{bs:List cJ}{pcs:List aL}{fl:List mM}{ls:List dN}{r2:Nat->Nat}{up:List Int}{fm:List (Int×Int)}{c:List Int}(h:Lr bs pcs fl ls r2 ls.length up fm c):M4 c where
 neg:=λi x hx h0=>by
  have hi:=(bA.1 hx).1;rw[h.len]at hi;have hl:ls[i]? =some ls[i]:=aP hi
  cases hn:zi bs pcs fl ls[i]with
  |none=>have:=h.no i _ hi hl hn;rw[hx]at this;injection this
  |some u=>
   obtain⟨q1,q2⟩:=h.yes i _ u hi hl hn;obtain⟨v,_,_,q3,_⟩:=h.low _ q1;rw[hx,q3]at q2;injection q2 with q2;omega
 own:=λi v hx=>by
  have hi:=(bA.1 hx).1;rw[h.len]at hi;have hl:ls[i]? =some ls[i]:=aP hi
  cases hn:zi bs pcs fl ls[i]with
  |none=>have:=h.no i _ hi hl hn;rw[hx]at this;injection this with this;omega
  |some u=>
   obtain⟨q1,q2⟩:=h.yes i _ u hi hl hn;obtain⟨v',l',u',q3,q4,q5,q6,q7⟩:=h.low _ q1;have e:v=v':=by rw[hx,q3]at q2;injection q2 with q2;omega
   subst e;obtain⟨s1,s2⟩:=h.yes v l' u' q4 q5 q6;rw[q7,q3]at s2;exact s2
theorem Lr.conn{bs:List cJ}{pcs:List aL}{fl:List mM}{ls:List dN}{r2:Nat->Nat}{up:List Int}{fm:List (Int×Int)}{c:List Int}(h:Lr bs pcs fl ls r2 ls.length up fm c){i k:Nat}{x y:dN}(hx:ls[i]? =some x)(hy:ls[k]? =some y):
  Me c i k=true↔∃u v,zi bs pcs fl x=some u/\zi bs pcs fl y=some v/\r2 u=r2 v:=by
 have hi:=(bA.1 hx).1;have hk:=(bA.1 hy).1;unfold Me;rw[bT,bF,beq_iff_eq,List.getD_eq_getElem?_getD,List.getD_eq_getElem?_getD]
 cases hn:zi bs pcs fl x with
 |none=>
  rw[h.no i x hi hx hn,Option.getD_some];exact⟨λh=>absurd h.1 (by decide),λ⟨u,v,e,_⟩=>(by cases e)⟩
 |some u=>
  obtain⟨q1,q2⟩:=h.yes i x u hi hx hn;obtain⟨a,_,_,q3,_⟩:=h.low _ q1;rw[q2,Option.getD_some,q3]
  cases hm:zi bs pcs fl y with
  |none=>
   rw[h.no k y hk hy hm,Option.getD_some];exact⟨λh=>absurd h.2 (by omega),λ⟨u,v,_,e,_⟩=>(by cases e)⟩
  |some v=>
   obtain⟨s1,s2⟩:=h.yes k y v hk hy hm;obtain⟨b,_,_,s3,_⟩:=h.low _ s1;rw[s2,Option.getD_some,s3];constructor
   ·rintro⟨_,e⟩;have:=h.inj _ _ q1 s1 (by rw[q3,s3];exact e);exact⟨u,v,rfl,rfl,by omega⟩
   ·rintro⟨u',v',e1,e2,e3⟩;injection e1 with e1;injection e2 with e2
    subst e1;subst e2;rw[e3,s3]at q3;exact⟨by omega,q3.symm⟩
end
section
variable {N:Nat}{a:gm}{me:List (List aA)}{gH:List (List (List aA))}{r:Nat->Nat}{gs:List dD}{ofP ofB qM:List Int}{qB:List gC}
end
section
variable {N:Nat}
end
section
variable {N:Nat}{a:gm}{me:List (List aA)}{gH:List (List (List aA))}{r:Nat->Nat}{gs:List dD}{ofP ofB qM:List Int}{qB:List gC}
end
section
variable {N:Nat}{a:gm}{me:List (List aA)}{gH:List (List (List aA))}{r:Nat->Nat}{gs:List dD}{ofP ofB qM:List Int}{qB:List gC}
end
section
variable {N:Nat}
end
def ng(t u:Test):Int:=if ga t.A u.A≠0 then ga t.A u.A else ga t.B u.B
def nP(a:gm)(l:List Test)(k:Nat):Option Int:=(l[k]?).bind λt=>
 if iK a t.A<0\/iK a t.B<0 then some 9 else if ga t.B t.A<=0 then some 8 else if 0<k/\((l[k - 1]?).elim false λu=>decide<|ng t u<=0)=true then some 8 else none
def om(a:gm)(l:List Test):Int:=if 2000<l.length then 2 else(qc l.length<|nP a l).getD 0
structure Ds (a:gm) (t:Test):Prop where
 la:0<=iK a t.A
 lb:0<=iK a t.B
 lt:wj t.A t.B
theorem zj{a:gm}{p:eA}(h:0<=iK a p):∃(k:Nat)(x:dN),iK a p=((k:Nat):Int)/\a.bJ[k]? =some x/\jV x=p/\k<a.bJ.length:=by
 rcases Ay a p with⟨e,_⟩|⟨k,x,e,hx,hp⟩
 ·rw[e]at h;omega
 ·exact⟨k,x,e,hx,hp,(bA.1 hx).1⟩
theorem Es{a:gm}{l:List Test}(h:om a l=0):l.length<=2000/\(∀t∈l,Ds a t)/\∀(k:Nat)t u,0<k->l[k]? =some t->l[k - 1]? =some u->0<ng t u:=by
 unfold om at h;split at h
 ·omega
 rename_i hl;have hn:∀k,k<l.length->nP a l k=none:=by
  cases hf:qc l.length (nP a l)with
  |none=>exact kb.1 hf
  |some e=>
   rw[hf]at h;obtain⟨k,hk,he,_⟩:=kc.1 hf;have h:e=0:=h;subst h;unfold nP at he;rw[aP hk,Option.bind_some]at he
   repeat' split at he
   all_goals (first|(injection he with he;omega)|cases he)
 refine⟨by omega,λt ht=>?_,λk t u hk ht hu=>?_⟩
 ·obtain⟨k,hk,rfl⟩:=List.mem_iff_getElem.1 ht;have:=hn k hk;unfold nP at this;rw[aP hk,Option.bind_some]at this;split at this
  ·cases this
  rename_i h1;split at this
  ·cases this
  rename_i h2;exact⟨by omega,by omega,oA.1 (by omega)⟩
 ·have hlt:=(bA.1 ht).1;have:=hn k hlt;unfold nP at this;rw[ht,Option.bind_some]at this;split at this
  ·cases this
  split at this
  ·cases this
  split at this
  ·cases this
  rename_i h3;rw[hu]at h3;simp only[Option.elim_some,bF]at h3;omega
section
variable {N:Nat}
theorem M5(u v:Int):rG N [u,v]=some (if u≠0 then u else v):=by
 unfold rG
 rw[yE (l:=[u,v]) (λx=>if x≠0 then some x else none) (by simp) (λk x hx=>by
  rw[dS hx,aB]
  by_cases h:x=0
  ·subst h;rfl
  ·rw[show(x != 0)=true by simpa using h,aO,aC h];rfl),aB]
 by_cases h:u=0
 ·subst h
  by_cases h':v=0
  ·subst h';rfl
  ·simp[h',DZ,Fo.cs]
 ·simp[h,DZ,Fo.cs]
theorem AO(t u:Test):ig N t u=some (ng t u):=by
 unfold ig ng;rw[mc,aB,mc,aB,M5,aB]
theorem Ko{a:gm}{e:Int}(he:e≠0)(h:ir N a=some (none,e))(l:List Test):lS N a l=some (none,e):=by
 unfold lS;rw[h,aB];simp only[Jk,show(e != 0)=true by simpa using he,aO]
end
section
variable {N:Nat}{a:gm}{me:List (List aA)}{gH:List (List (List aA))}{r:Nat->Nat}{gs:List dD}{ofP ofB qM:List Int}{qB:List gC}
theorem Ls(b:wg a me gH r gs ofP ofB qM qB)(h1:ir N a=some (some (a.aJ,a.cT,a.aU,a.bJ,me,eG 0 gH,oR a.aU<|eG 0 gH,gs,ofP,ofB,qM,qB),0)){l:List Test}(hl:l.length<=1048576)(hN:4398046511104<=N):
  (om a l≠0/\lS N a l=some (none,om a l))\/(om a l=0/\lS N a l=some (some (a.aJ,a.cT,a.aU,a.bJ,me,eG 0 gH,oR a.aU<|eG 0 gH,gs,ofP,ofB,qM,qB),0)):=by
 unfold lS;rw[h1,aB];simp only[Jk,bne_self_eq_false,aQ]
 by_cases h2:2000<l.length
 ·have e:om a l=2:=by unfold om;rw[aC h2]
  rw[bL (show((l.length:Nat):Int)>2000 by omega),aO,e];exact .inl ⟨by decide,rfl⟩
 rw[bO (show ¬((l.length:Nat):Int)>2000 by omega),aQ]
 rw[rO (λk=>(nP a l k).map (λc=>(none,c))) (by omega) (λk hk _=>by
  have hx:l[k]? =some l[k]:=aP hk;have e1:((eQ N a l[k].A).bind λx149=>bif decide (x149<0)then some true else((eQ N a l[k].B).bind λx153=>some<|decide<|x153<0))=some (decide (iK a l[k].A<0)||decide (iK a l[k].B<0)):=by
   rw[t7 b.xp _ hN,t7 b.xp _ hN,aB,aB]
   cases decide (iK a l[k].A<0) <;> rfl
  have e2:(bif decide ((k:Int)>0)then((idx l<|wrap .i64<|(k:Int) - 1).bind λx208=>(ig N l[k] x208).bind λx211=>some<|decide<|x211<=0)else some false)=some (decide<|0<k/\((l[k - 1]?).elim false λu=>decide<|ng l[k] u<=0)=true):=by
   by_cases h0:0<k
   ·have hp:k - 1<l.length:=by omega
    have hy:l[k - 1]? =some l[k - 1]:=aP hp;rw[bL (show((k:Nat):Int)>0 by omega),aO,je h0 (by omega),dS hy,aB,AO,aB,hy];simp only[Option.elim_some,h0,true_and,bF]
   ·rw[bO (show ¬((k:Nat):Int)>0 by omega),aQ,bO<|λh=>h0 h.1]
  rw[dS hx,aB,e1,aB];unfold nP;rw[hx,Option.bind_some]
  by_cases hA:iK a l[k].A<0\/iK a l[k].B<0
  ·rw[aC hA,show(decide (iK a l[k].A<0)||decide (iK a l[k].B<0))=true by rw[dM,bF,bF];exact hA];rfl
  rw[aD hA,show(decide (iK a l[k].A<0)||decide (iK a l[k].B<0))=false by rw[Bool.or_eq_false_iff,decide_eq_false_iff_not,decide_eq_false_iff_not];omega,aQ,mc,aB]
  by_cases hB:ga l[k].B l[k].A<=0
  ·rw[aC hB,bL hB];rfl
  rw[aD hB,bO hB,aQ,e2,aB]
  by_cases hC:0<k/\((l[k - 1]?).elim false λu=>decide<|ng l[k] u<=0)=true
  ·rw[aC hC,bL hC];rfl
  ·rw[aD hC,bO hC];rfl),aB,<-JJ]
 have hz:om a l=(qc l.length<|nP a l).getD 0:=by unfold om;rw[aD h2]
 cases hf:qc l.length (nP a l)with
 |none=>
  rw[hf]at hz;exact .inr ⟨hz,rfl⟩
 |some e=>
  rw[hf]at hz;have hz:om a l=e:=hz;refine .inl ⟨?_,by rw[hz];rfl⟩;obtain⟨k,hk,he,_⟩:=kc.1 hf;rw[hz];unfold nP at he;rw[aP hk,Option.bind_some]at he
  repeat' split at he
  all_goals (first|(injection he with he;omega)|cases he)
end
section
variable {N:Nat}
end
section
variable {N:Nat}
end
section
variable {N:Nat}{a:gm}{me:List (List aA)}{gH:List (List (List aA))}{r:Nat->Nat}{gs:List dD}{ofP ofB qM:List Int}{qB:List gC}
theorem pV{l:List Test}{o:Option (List (List aH)×List aH×List cJ×List dN×List (List aA)×List aL×List (List Int)×List dD×List Int×List Int×List Int×List gC)}{e:Int}(h:lS N a l=some (o,e)):iu N a l=some e:=by
 unfold iu;rw[h,aB]
 cases o <;> rfl
end
section
variable {N:Nat}
end
section
variable (T:Nat->Nat->Bool)(n:Nat)
def uX(i k:Nat)(K:List Nat):Nat:=(List.range k).countP (T i)+K.countP (T i)
def Lt(K:List Nat)(k:Nat):Bool:=(List.range n).any<|λi=>T i k&&decide (uX T i (k+1) K=1)
def Mf:Nat->List Nat->List Nat
 | 0,K=>K
 |k+1,K=>Mf k (if Lt T n K k=true then k::K else K)
variable {T n}
theorem x9(i k:Nat)(K:List Nat):uX T i (k+1) K=uX T i k K+if T i k=true then 1 else 0:=by
 unfold uX;rw[List.range_succ,List.countP_append,List.countP_singleton];omega
theorem ya(i k:Nat)(K:List Nat):uX T i k (k::K)=uX T i (k+1) K:=by
 rw[x9];unfold uX;rw[List.countP_cons];omega
structure F8 (T:Nat->Nat->Bool) (n m k:Nat) (K:List Nat):Prop where
 up:K.Pairwise (· < ·)
 lo:∀j∈K,k<=j/\j<m
 all:∀i,i<n->(∃j,j<m/\T i j=true)->0<uX T i k K
 own:∀j∈K,∃i,i<n/\T i j=true/\uX T i k K=1
theorem F8.start(T:Nat->Nat->Bool)(n m:Nat):F8 T n m m []where
 up:=jX
 lo:=λj h=>by cases h
 all:=λi _⟨j,h1,h2⟩=>by
  unfold uX;have:0<(List.range m).countP (T i):=List.countP_pos_iff.2 ⟨j,ni.2 h1,h2⟩;omega
 own:=λj h=>by cases h
theorem F8.step{m k:Nat}{K:List Nat}(h:F8 T n m (k+1) K)(hk:k<m):F8 T n m k (if Lt T n K k=true then k::K else K):=by
 by_cases hn:Lt T n K k=true
 ·rw[aC hn];refine⟨oc.2 ⟨λj hj=>by have:=h.lo j hj;omega,h.up⟩,λj hj=>?_,λi hi hj=>?_,λj hj=>?_⟩
  ·rcases dE.1 hj with rfl|hj
   ·exact⟨bR _,hk⟩
   ·have:=h.lo j hj;omega
  ·rw[ya];exact h.all i hi hj
  ·rcases dE.1 hj with rfl|hj
   ·unfold Lt at hn;obtain⟨i,hi,h1⟩:=jY.1 hn;rw[bT,bF]at h1;exact⟨i,ni.1 hi,h1.1,by rw[ya];exact h1.2⟩
   ·obtain⟨i,h1,h2,h3⟩:=h.own j hj;exact⟨i,h1,h2,by rw[ya];exact h3⟩
 ·rw[aD hn];have hno:∀i,i<n->T i k=true->uX T i (k+1) K≠1:=λi hi ht e=>hn<|jY.2 ⟨i,ni.2 hi,by rw[ht,e];rfl⟩
  refine⟨h.up,λj hj=>by have:=h.lo j hj;omega,λi hi hj=>?_,λj hj=>?_⟩
  ·have h1:=h.all i hi hj;have e:=x9 (T:=T) i k K
   by_cases ht:T i k=true
   ·have:=hno i hi ht;rw[aC ht]at e;omega
   ·rw[aD ht]at e;omega
  ·obtain⟨i,h1,h2,h3⟩:=h.own j hj;refine⟨i,h1,h2,?_⟩;have e:=x9 (T:=T) i k K;have hp:0<K.countP (T i):=List.countP_pos_iff.2 ⟨j,hj,h2⟩;have:uX T i k K=(List.range k).countP (T i)+K.countP (T i):=rfl;split at e <;> omega
def Re(T:Nat->Nat->Bool)(n m:Nat):List Nat:=Mf T n m []
end
section
variable {N:Nat}
end
section
variable {N:Nat}{a:gm}{me:List (List aA)}{gH:List (List (List aA))}{r:Nat->Nat}{gs:List dD}{ofP ofB qM:List Int}{qB:List gC}
end
section
variable {N:Nat}
end
def Kv(u t:Test):Prop:=wj u.A t.A\/(u.A=t.A/\wj u.B t.B)
theorem F9{t u:Test}:0<ng t u↔Kv u t:=by
 unfold ng Kv
 by_cases h:ga t.A u.A=0
 ·have e:=l4.1 h;rw[aD (by simpa using h),oA];constructor
  ·exact λh=> .inr ⟨e.symm,h⟩
  ·rintro(h1|⟨_,h1⟩)
   ·rw[e]at h1;exact absurd h1<|wj.irrefl _
   ·exact h1
 ·rw[aC h,oA];constructor
  ·exact .inl
  ·rintro(h1|⟨e,_⟩)
   ·exact h1
   ·exact absurd (l4.2 e.symm) h
theorem Kv.trans{s t u:Test}(h1:Kv s t)(h2:Kv t u):Kv s u:=by
 rcases h1 with h1|⟨e1,h1⟩
 ·rcases h2 with h2|⟨e2,_⟩
  ·exact .inl<|h1.trans h2
  ·exact .inl<|e2▸h1
 ·rcases h2 with h2|⟨e2,h2⟩
  ·exact .inl<|e1▸h2
  ·exact .inr ⟨e1.trans e2,h1.trans h2⟩
section
variable {T:Nat->Nat->Bool}{n:Nat}{l:List Test}
end
section
variable {N:Nat}
end
section
variable {N:Nat}{a:gm}{me:List (List aA)}{gH:List (List (List aA))}{r:Nat->Nat}{gs:List dD}{ofP ofB qM:List Int}{qB:List gC}
end
def Lu(t:Nat)(u:List Int)(r:Nat->Nat):Prop:=u=(List.range t).map (λi=>((r i:Nat):Int))
theorem Lu.len{t:Nat}{u:List Int}{r:Nat->Nat}(h:Lu t u r):u.length=t:=by rw[h];simp
theorem Lu.at{t:Nat}{u:List Int}{r:Nat->Nat}(h:Lu t u r){i:Nat}(hi:i<t):u[i]? =some ((r i:Nat):Int):=by rw[h,i5,List.getElem?_range hi];rfl
structure Ga (t:Nat) (L:Nat->Nat->Prop) (r:Nat->Nat):Prop where
 co:∀i j,L i j->r i=r j
 fi:∀S:Nat->Prop,(∀i j,L i j->(S i↔S j))->∀i j,i<t->j<t->r i=r j->S i->S j
theorem Ga.uniq{t:Nat}{L:Nat->Nat->Prop}{r1 r2:Nat->Nat}(h1:Ga t L r1)(h2:Ga t L r2){i j:Nat}(hi:i<t)(hj:j<t):r1 i=r1 j↔r2 i=r2 j:=by
 have key:∀{r1 r2:Nat->Nat},Ga t L r1->Ga t L r2->r1 i=r1 j->r2 i=r2 j:=λ{r1 r2}h1 h2 e=>
  (h1.fi (λx=>r2 i=r2 x) (λa b hab=>by rw[h2.co a b hab]) i j hi hj e) rfl
 exact⟨key h1 h2,key h2 h1⟩
def wQ(l:List Test)(k:Nat)(t:Test):Prop:=ga t.B t.A<=0\/(0<k/\((l[k - 1]?).elim false λu=>decide<|ng t u<=0)=true)
theorem IU{a:gm}{l:List Test}{k:Nat}{t:Test}(hx:l[k]? =some t):nP a l k=if iK a t.A<0\/iK a t.B<0 then some 9 else if wQ l k t then some 8 else none:=by
 unfold nP wQ;rw[hx,Option.bind_some]
 by_cases h1:iK a t.A<0\/iK a t.B<0
 ·rw[aC h1,aC h1]
 rw[aD h1,aD h1]
 by_cases h2:ga t.B t.A<=0
 ·rw[aC h2,aC<|.inl h2]
 rw[aD h2]
 by_cases h3:0<k/\((l[k - 1]?).elim false λu=>decide<|ng t u<=0)=true
 ·rw[aC h3,aC<|.inr h3]
 ·rw[aD h3,aD<|λh=>h.elim h2 h3]
section
variable {N:Nat}
theorem Cg(p q:eA):gJ N p q=some (decide<|wj p q):=by
 unfold gJ;congr 1;rw[dZ,bF,dM,bT,yD];rfl
theorem Ch(t u:Test):iD N t u=some (decide<|Kv t u):=by
 unfold iD;simp only[Cg,aB]
 by_cases h1:wj t.A u.A
 ·have h:Kv t u:= .inl h1;rw[bL h1,aO,aB,bL h]
 rw[bO h1,aQ]
 by_cases h2:t.A=u.A
 ·rw[bL h2,aO,aB];congr 1;rw[decide_eq_decide];exact⟨λh=> .inr ⟨h2,h⟩,λh=>h.elim (λh=>absurd h h1)<|λh=>h.2⟩
 ·have h:¬Kv t u:=λh=>h.elim h1<|λh=>h2 h.1
  rw[bO h2,aQ,aB,bO h]
theorem Ci{a:gm}(hl:a.bJ.length<=1000000)(p:eA)(hN:4398046511104<=N):dL N a p=some (iK a p):=by
 refine SJ ?_;unfold dL;refine RP (SD (n:=a.bJ.length) (λs=>s) (λk _=>∀(j:Nat)x,j<k->a.bJ[j]? =some x->decide (jV x=p)=false) (Go:=λ_=>iK a p = -1) (Rt:=λr=>r=iK a p) ?_ ?_ (eZ _) rfl (λj x hj=>by omega) (by omega)) ?_
 ·rintro k s hk e hI;subst e;rw[n9 hk,aO];have hx:a.bJ[k]? =some a.bJ[k]:=aP hk;refine RE (x:=decide<|jV a.bJ[k]=p) ?_<|R9 (λh=>SC ?_)<|λh=>Si ⟨cD (by omega),λj x hj hjx=>?_⟩
  ·rw[dS hx,aB,aB,Hy,Hy]
   by_cases h1:a.bJ[k].Part=p.Part
   ·rw[bL h1,aO];congr 1;rw[dZ,bF,bF,HW];exact⟨λh=>⟨h1,h⟩,λh=>h.2⟩
   ·rw[bO h1,aQ,bO<|λh=>h1 ((HW _ _).1 h).1]
  ·exact(Fw hx h hI).symm
  ·by_cases e:j=k
   ·subst e;rw[hx]at hjx;injection hjx with hjx;rw[<-hjx];exact h
   ·exact hI j x (by omega) hjx
 ·rintro s e hI;subst e;rw[rn,aQ];refine Sn ?_;unfold iK;rw[Fv];rw[List.any_eq_false];intro x hx;obtain⟨j,hj⟩:=eO hx;rw[hI j x (bA.1 hj).1 hj];exact oT
 intro o ho;exact Sm ho (λs hs=>RJ hs.symm)<|λr hr=>RJ hr
theorem zk{a:gm}{e:Int}(he:e≠0)(h:dO N a=some e)(l:List Test):cS N a l=some e:=by
 unfold cS;rw[h,aB,show(e != 0)=true by simpa using he,aO]
theorem Aa{a:gm}(ha:a.bJ.length<=1000000)(h:dO N a=some 0){l:List Test}(hl:l.length<=1048576)(hN:4398046511104<=N):cS N a l=some (om a l):=by
 refine SJ ?_;unfold cS;refine RE h ?_;rw[bne_self_eq_false,aQ];unfold om
 by_cases h2:2000<l.length
 ·rw[bL (show((l.length:Nat):Int)>2000 by omega),aO,aC h2];exact RJ rfl
 rw[bO (show ¬((l.length:Nat):Int)>2000 by omega),aQ,aD h2];have hA:∀p,dL N a p=some (iK a p):=λp=>Ci ha p hN;refine RP (SD (n:=l.length) (λs=>s) (λk _=>∀j,j<k->nP a l j=none) (Go:=λ_=>qc l.length (nP a l)=none) (Rt:=λr=>qc l.length (nP a l)=some r) ?_ ?_ (eZ _) rfl (λj hj=>by omega) (by omega)) ?_
 ·rintro k s hk e hI;subst e;rw[n9 hk,aO];have hx:l[k]? =some l[k]:=aP hk;have hte:=IU (a:=a) hx;generalize l[k]=t at hx hte;refine RE (x:=decide<|iK a t.A<0\/iK a t.B<0) ?_<|R9 (λh1=>SC ?_)<|λh1=>?_
  ·simp only[dS hx,aB,hA]
   by_cases q:iK a t.A<0
   ·rw[bL q,aO,bL<|.inl q]
   ·rw[bO q,aQ];congr 1;rw[decide_eq_decide];exact⟨.inr,λh=>h.resolve_left q⟩
  ·rw[aC<|of_decide_eq_true h1]at hte;exact kc.2 ⟨k,hk,hte,hI⟩
  rw[aD<|of_decide_eq_false h1]at hte;refine RE (x:=decide<|wQ l k t) ?_<|R9 (λh2=>SC ?_)<|λh2=>Si ⟨cD (by omega),λj hj=>?_⟩
  ·simp only[dS hx,aB,Cg,Ch];have hle:ga t.B t.A<=0↔¬wj t.A t.B:=by rw[<-oA];omega
   by_cases q:wj t.A t.B
   ·rw[bL q,lf,aQ]
    by_cases h0:0<k
    ·have hp:k - 1<l.length:=by omega
     have hy:l[k - 1]? =some l[k - 1]:=aP hp;have hgt:ng t l[k - 1]<=0↔¬Kv l[k - 1] t:=by rw[<-F9];omega
     rw[bL (show((k:Nat):Int)>0 by omega),aO,je h0 (by omega),dS hy,aB];congr 1;rw[dZ,Bool.not_eq_true',decide_eq_false_iff_not,bF];unfold wQ;rw[hy,Option.elim_some,bF,hgt,hle];exact⟨λh=> .inr ⟨h0,h⟩,λh=>h.elim (λh=>absurd q h)<|λh=>h.2⟩
    ·have hn:¬wQ l k t:=λh=>h.elim (λh=>hle.1 h q)<|λh=>h0 h.1
     rw[bO (show ¬((k:Nat):Int)>0 by omega),aQ,bO hn]
   ·have hn:wQ l k t:= .inl<|hle.2 q
    rw[bO q,oW,aO,bL hn]
  ·rw[aC<|of_decide_eq_true h2]at hte;exact kc.2 ⟨k,hk,hte,hI⟩
  ·by_cases e:j=k
   ·subst e;rw[hte,aD<|of_decide_eq_false h2]
   ·exact hI j (by omega)
 ·rintro s e hI;subst e;rw[rn,aQ];exact Sn<|kb.2 hI
 intro o ho;exact Sm ho (λ_ h=>RJ (by rw[h];rfl))<|λr hr=>RJ (by rw[hr];rfl)
end
def O9(s:List Bool):eC:=⟨s.map (λb=>bif b then 121 else 110)⟩
structure Ry (M:List (eC×Int)) (G:List (List Bool×List mM)):Prop where
 has:∀s,lL M (O9 s)=(G.findIdx?<|λg=>decide<|g.1=s).isSome
 get:∀s i,G.findIdx? (λg=>decide<|g.1=s)=some i->fC M (O9 s) 0=((i:Nat):Int)
section
variable {N:Nat}
end
def Lv(p:cK):Prop:=(-1000000<=p.X/\p.X<=1000000)/\(-1000000<=p.Y/\p.Y<=1000000)
def Cj(g:cK×cK):Prop:=Lv g.1/\Lv g.2
def Ck:cK:=⟨0,0⟩
theorem M6:Cj (Ck,Ck):=⟨⟨⟨by decide,by decide⟩,⟨by decide,by decide⟩⟩,⟨⟨by decide,by decide⟩,⟨by decide,by decide⟩⟩⟩
def Mg(a:gm)(p:eA):cK:=(a.bJ[(iK a p).toNat]?).elim Ck dN.At
def gl(a:gm)(t:Test)(s:Bool):cK×cK:=bif s then(Mg a t.B,Mg a t.A)else(Mg a t.A,Mg a t.B)
def Gi(x y:Int):Int:=max (x - y)<|y - x
def qP(f t:cK×cK):Int:=max (max (max (Gi f.1.X t.1.X)<|Gi f.1.Y t.1.Y)<|Gi f.2.X t.2.X)<|Gi f.2.Y t.2.Y
def tk(f t:cK×cK)(sp:Int):Int:=(qP f t+sp - 1) / sp
theorem wm{x y:Int}(h1: -1000000<=x/\x<=1000000)(h2: -1000000<=y/\y<=1000000):0<=Gi x y/\Gi x y<=2000000:=by unfold Gi;omega
theorem Cl{f t:cK×cK}(hf:Cj f)(ht:Cj t):0<=qP f t/\qP f t<=2000000:=by
 have h1:=wm hf.1.1 ht.1.1;have h2:=wm hf.1.2 ht.1.2;have h3:=wm hf.2.1 ht.2.1;have h4:=wm hf.2.2 ht.2.2;unfold qP;omega
theorem HX{f t:cK×cK}(hf:Cj f)(ht:Cj t){sp:Int}(h:1<=sp/\sp<=1000000):0<=tk f t sp/\tk f t sp<=3000000:=by
 have hd:=Cl hf ht;unfold tk;refine⟨Int.ediv_nonneg (by omega) (by omega),?_⟩;have:(qP f t+sp - 1) / sp<=qP f t+sp - 1:=Int.ediv_le_self _ (by omega);omega
structure Dt (a:gm):Prop where
 BZ:a.bJ.length<=1000
 Rz:∀x∈a.bJ,Lv x.At
theorem Et{a:gm}(h:Dt a)(p:eA):Lv (Mg a p):=by
 unfold Mg
 cases hx:a.bJ[(iK a p).toNat]? with
 |none=>exact M6.1
 |some x=>exact h.Rz x (gq hx)
theorem Kp{a:gm}(h:Dt a)(t:Test)(s:Bool):Cj (gl a t s):=by
 unfold gl
 cases s with
 |true=>exact⟨Et h _,Et h _⟩
 |false=>exact⟨Et h _,Et h _⟩
theorem Eu{a:gm}{p:eA}{k:Nat}{x:dN}(e:iK a p=((k:Nat):Int))(hx:a.bJ[k]? =some x):Mg a p=x.At:=by unfold Mg;rw[e,cI,hx];rfl
def Pa(g:cK×cK):cE:=⟨g.1,g.2⟩
theorem Gb{a:gm}(h:oS a):Dt a:=⟨h.BZ,λx hx=>by
 have:=(h.each x hx).at_;unfold qK lH fJ at this;simp only[bT,bF]at this
 exact⟨⟨by omega,by omega⟩,⟨by omega,by omega⟩⟩⟩
section
variable {N:Nat}
theorem pr{x y:Int}(h1: -1000000<=x/\x<=1000000)(h2: -1000000<=y/\y<=1000000):oD N x y=some (Gi x y):=by
 unfold oD Gi;rw[hQ (n:=x - y) (by omega),hQ (n:=y - x) (by omega),pq]
theorem Lw{f t:cK×cK}(hf:Cj f)(ht:Cj t){sp:Int}(h:1<=sp/\sp<=1000000)(hN:4398046511104<=N):rI N (Pa f) (Pa t) sp=some (tk f t sp):=by
 have b1:=wm hf.1.1 ht.1.1;have b2:=wm hf.1.2 ht.1.2;have b3:=wm hf.2.1 ht.2.1;have b4:=wm hf.2.2 ht.2.2;have hd:=Cl hf ht;refine SJ ?_;unfold rI;refine RP (SD (n:=2) (λst=>st.2) (λk st=>st.1=if k=0 then 0 else if k=1 then max (Gi f.1.X t.1.X) (Gi f.1.Y t.1.Y)else qP f t) (Go:=λst=>st.1=qP f t) (Rt:=λ_=>False) ?_ ?_ (eZ _) rfl rfl (by omega)) ?_
 ·rintro k⟨s,kk⟩hk e hI;dsimp only at e hI ⊢;subst e;rw[show decide (((k:Nat):Int)<2)=true from bL (by omega),aO];refine RE (KL hk) ?_;have:k=0\/k=1:=by omega
  rcases this with rfl|rfl
  ·rw[aC rfl]at hI;subst hI;refine RE (pr hf.1.1 ht.1.1)<|RE (pr hf.1.2 ht.1.2)<|Si ⟨cD (n:=0) (by omega),?_⟩
   dsimp only;rw[pq,pq];show max (max 0<|Gi f.1.X t.1.X) (Gi f.1.Y t.1.Y)=max (Gi f.1.X t.1.X) (Gi f.1.Y t.1.Y);rw[Int.max_eq_right b1.1]
  ·rw[aD (by decide),aC rfl]at hI;subst hI;refine RE (pr hf.2.1 ht.2.1)<|RE (pr hf.2.2 ht.2.2)<|Si ⟨cD (n:=1) (by omega),?_⟩
   dsimp only;rw[pq,pq];rfl
 ·rintro⟨s,kk⟩e hI;dsimp only at e hI ⊢;subst e;rw[aD (by decide),aD (by decide)]at hI;refine Sn ?_;exact hI
 intro o ho;refine Sm ho ?_<|λr hr=>hr.elim
 rintro⟨s,kk⟩hs;dsimp only at hs ⊢;subst hs;have hz:KH sp=some ():=by unfold KH;rw[show(sp==0)=false by rw[beq_eq_false_iff_ne];omega];rfl
 refine RE hz<|RJ ?_
 rw[hQ (n:=qP f t+sp) (by omega),hQ (n:=qP f t+sp - 1) (by omega),Int.tdiv_eq_ediv_of_nonneg (by omega)];have hb:=HX hf ht h;unfold tk at hb ⊢;exact hQ (by omega)
theorem Lx{a:gm}(g:oS a){t:Test}(ht:Ds a t)(s:Bool)(hN:4398046511104<=N):rH N a t s=some (Pa<|gl a t s):=by
 obtain⟨i,x,e1,hx,_,hi⟩:=zj ht.la;obtain⟨j,y,e2,hy,_,hj⟩:=zj ht.lb;have hA:∀p,eQ N a p=some (iK a p):=λp=>t7 g p hN;unfold rH;rw[hA,aB,e1,dS hx,aB,hA,aB,e2,dS hy,aB];unfold gl Pa;rw[Eu e1 hx,Eu e2 hy]
 cases s <;> rfl
theorem xu{a:gm}{l:List Test}{e sp tc:Int}(h:iu N a l=some e):ly N a l sp tc=some (if e≠0 then e else if(1<=sp/\sp<=1000000)/\(0<=tc/\tc<=1000)then 0 else 1):=by
 unfold ly;rw[h,aB]
 by_cases he:e=0
 ·subst he;rw[bne_self_eq_false,aQ,aD (by decide)];have w1:jk N sp 1 1000000=some (decide (sp>=1)&&decide (sp<=1000000)):=rfl;have w2:jk N tc 0 1000=some (decide (tc>=0)&&decide (tc<=1000)):=rfl;rw[w1,w2,aB]
  by_cases h1:1<=sp/\sp<=1000000
  ·rw[show(decide (sp>=1)&&decide (sp<=1000000))=true by rw[bT,bF,bF];exact h1,lf,aQ,aB,aB]
   by_cases h2:0<=tc/\tc<=1000
   ·rw[show(decide (tc>=0)&&decide (tc<=1000))=true by rw[bT,bF,bF];exact h2,aC ⟨h1,h2⟩];rfl
   ·rw[show(decide (tc>=0)&&decide (tc<=1000))=false by rw[Bool.and_eq_false_iff,decide_eq_false_iff_not,decide_eq_false_iff_not];omega,aD<|λh=>h2 h.2];rfl
  ·rw[show(decide (sp>=1)&&decide (sp<=1000000))=false by rw[Bool.and_eq_false_iff,decide_eq_false_iff_not,decide_eq_false_iff_not];omega,aD<|λh=>h1 h.1];rfl
 ·rw[show(e != 0)=true by simpa using he,aO,aC he]
def Pj(a:gm)(l:List Test)(sp tc:Int):aT:=⟨a,l,sp,tc⟩
theorem Cm{a:gm}{l:List Test}{e sp tc:Int}(h:cS N a l=some e):∃m,jO N a l sp tc=some (m,if e≠0 then e else if(1<=sp/\sp<=1000000)/\(0<=tc/\tc<=1000)then 0 else 1)/\(e=0->(1<=sp/\sp<=1000000)/\(0<=tc/\tc<=1000)->m=Pj a l sp tc):=by
 unfold jO;rw[h,aB]
 by_cases he:e=0
 ·subst he;rw[bne_self_eq_false,aQ,aD (by decide)];have w1:eX N sp 1 1000000=some (decide (sp>=1)&&decide (sp<=1000000)):=rfl;have w2:eX N tc 0 1000=some (decide (tc>=0)&&decide (tc<=1000)):=rfl;rw[w1,w2,aB]
  by_cases h1:1<=sp/\sp<=1000000
  ·rw[show(decide (sp>=1)&&decide (sp<=1000000))=true by rw[bT,bF,bF];exact h1,lf,aQ,aB,aB]
   by_cases h2:0<=tc/\tc<=1000
   ·rw[show(decide (tc>=0)&&decide (tc<=1000))=true by rw[bT,bF,bF];exact h2,aC ⟨h1,h2⟩];exact⟨_,rfl,λ_ _=>rfl⟩
   ·rw[show(decide (tc>=0)&&decide (tc<=1000))=false by rw[Bool.and_eq_false_iff,decide_eq_false_iff_not,decide_eq_false_iff_not];omega,aD<|λh=>h2 h.2];exact⟨_,rfl,λ_ h=>absurd h.2 h2⟩
  ·rw[show(decide (sp>=1)&&decide (sp<=1000000))=false by rw[Bool.and_eq_false_iff,decide_eq_false_iff_not,decide_eq_false_iff_not];omega,aD<|λh=>h1 h.1];exact⟨_,rfl,λ_ h=>absurd h.1 h1⟩
 ·rw[show(e != 0)=true by simpa using he,aO,aC he];exact⟨_,rfl,λh=>absurd h he⟩
theorem AB{a:gm}(g:Dt a){l:List Test}{sp tc:Int}{k:Nat}{t:Test}(hx:l[k]? =some t)(ht:Ds a t)(s:Bool)(hN:4398046511104<=N):eL N (Pj a l sp tc) ((k:Nat):Int) s=some (gl a t s):=by
 obtain⟨i,x,e1,hlx,_,hi⟩:=zj ht.la;obtain⟨j,y,e2,hly,_,hj⟩:=zj ht.lb;have hf:=g.BZ;have hA:∀p,dL N a p=some (iK a p):=λp=>Ci (by omega) p hN;unfold eL;show((idx l ((k:Nat):Int)).bind _)=_;rw[dS hx,aB];show((dL N a t.A).bind _)=_;rw[hA,aB];show((idx a.bJ<|iK a t.A).bind _)=_;rw[e1,dS hlx,aB];show((idx l ((k:Nat):Int)).bind _)=_;rw[dS hx,aB];show((dL N a t.B).bind _)=_;rw[hA,aB];show((idx a.bJ<|iK a t.B).bind _)=_;rw[e2,dS hly,aB];unfold gl;rw[Eu e1 hlx,Eu e2 hly]
 cases s <;> rfl
theorem Pb{d1 d2 d3 d4 e1 e2 e3 e4:Int}:zw d1 [e1,d2,e2,d3,e3,d4,e4]=max (max (max (max d1 e1)<|max d2 e2)<|max d3 e3) (max d4 e4):=by
 unfold zw;simp only[List.foldl_cons,List.foldl_nil,pq,Int.max_assoc]
theorem Gc{a:gm}(g:Dt a){l:List Test}{sp tc:Int}(hsp:1<=sp/\sp<=1000000)(htc:0<=tc/\tc<=1000){k:Nat}{t:Test}(hx:l[k]? =some t)(ht:Ds a t)(s:Bool){p:cK×cK}(hp:Cj p)(hN:4398046511104<=N):
  fM N (Pj a l sp tc) p.1 p.2 ((k:Nat):Int) s=some (tk p (gl a t s) sp+tc):=by
 have hg:=Kp g t s;have hd:=Cl hp hg;have hb:=HX hp hg hsp;unfold fM;rw[AB g hx ht s hN,aB];generalize gl a t s=q at *;have hz:KH (Pj a l sp tc).speed=some ():=by show KH sp=_;unfold KH;rw[show(sp==0)=false by rw[beq_eq_false_iff_ne];omega];rfl
 rw[hz,aB];obtain⟨⟨p1,p2⟩,⟨p3,p4⟩⟩:=hp;obtain⟨⟨q1,q2⟩,⟨q3,q4⟩⟩:=hg;rw[hQ (n:=q.1.X - p.1.X) (by omega),hQ (n:=p.1.X - q.1.X) (by omega),hQ (n:=q.1.Y - p.1.Y) (by omega),hQ (n:=p.1.Y - q.1.Y) (by omega),hQ (n:=q.2.X - p.2.X) (by omega),hQ (n:=p.2.X - q.2.X) (by omega),hQ (n:=q.2.Y - p.2.Y) (by omega),hQ (n:=p.2.Y - q.2.Y) (by omega),Pb];have e:max (max (max (max (q.1.X - p.1.X)<|p.1.X - q.1.X)<|max (q.1.Y - p.1.Y)<|p.1.Y - q.1.Y)<|max (q.2.X - p.2.X)<|p.2.X - q.2.X) (max (q.2.Y - p.2.Y)<|p.2.Y - q.2.Y)=qP p q:=by
  unfold qP Gi;rw[Int.max_comm<|q.1.X - p.1.X,Int.max_comm<|q.1.Y - p.1.Y,Int.max_comm<|q.2.X - p.2.X,Int.max_comm<|q.2.Y - p.2.Y]
 rw[e];show some (wrap .i64<|wrap .i64 (Int.tdiv (wrap .i64<|wrap .i64 (qP p q+sp) - 1) sp)+tc)=_;rw[hQ (n:=qP p q+sp) (by omega),hQ (n:=qP p q+sp - 1) (by omega),Int.tdiv_eq_ediv_of_nonneg (by omega)];have e2:(qP p q+sp - 1) / sp=tk p q sp:=rfl;rw[e2,hQ (n:=tk p q sp) (by omega),hQ (by omega)]
end
def Gd:Test:=⟨⟨⟨[]⟩,⟨[]⟩⟩,⟨⟨[]⟩,⟨[]⟩⟩,false⟩
def runT(a:gm)(l:List Test)(sp tc:Int):List Touch->cK×cK->Int->Option Int
 | [],_,now=>some now
 |x::o,p,now=>if x.tp=now+(tk p (gl a (l.getD x.Test.toNat Gd) x.o4) sp+tc)then runT a l sp tc o (gl a (l.getD x.Test.toNat Gd) x.o4) (now+(tk p (gl a (l.getD x.Test.toNat Gd) x.o4) sp+tc))else none
def Hc(n:Nat)(o:List Touch)(k:Nat):Prop:=∃x,o[k]? =some x/\(¬(0<=x.Test/\x.Test<=((n:Nat):Int) - 1)\/∃j y,j<k/\o[j]? =some y/\y.Test=x.Test)
noncomputable def xv(a:gm)(l:List Test)(sp tc:Int)(o:List Touch):Int×Int:=if o.length≠l.length\/∃k,Hc l.length o k then(0,3)else match runT a l sp tc o (Ck,Ck) 0 with|some n=>(n,0)|none=>(0,12)
structure zm (n:Nat) (o:List Touch) (k:Nat) (s:List Bool):Prop where
 len:s.length=n
 at_:∀i,i<n->s[i]? =some (decide (∃j y,j<k/\o[j]? =some y/\y.Test=((i:Nat):Int)))
theorem zm.start(n:Nat)(o:List Touch):zm n o 0 (List.replicate n false):=⟨by simp,λi hi=>by rw[List.getElem?_replicate,aC hi,bO (λ⟨j,y,h,_⟩=>by omega)]⟩
theorem zm.set{n:Nat}{o:List Touch}{k:Nat}{s:List Bool}(h:zm n o k s){x:Touch}(hx:o[k]? =some x){i:Nat}(hi:x.Test=((i:Nat):Int))(hin:i<n):zm n o (k+1) (s.set i true):=by
 refine⟨by rw[i6];exact h.len,λq hq=>?_⟩
 by_cases e:i=q
 ·subst e;rw[List.getElem?_set_self (by rw[h.len];exact hin)];congr 1;exact(bL ⟨k,x,by omega,hx,hi⟩).symm
 ·rw[List.getElem?_set_ne e,h.at_ q hq];congr 1;rw[decide_eq_decide];constructor
  ·rintro⟨j,y,h1,h2,h3⟩;exact⟨j,y,by omega,h2,h3⟩
  ·rintro⟨j,y,h1,h2,h3⟩
   by_cases ej:j=k
   ·subst ej;rw[hx]at h2;injection h2 with h2;subst h2;rw[hi]at h3;omega
   ·exact⟨j,y,by omega,h2,h3⟩
theorem Du{a:gm}{l:List Test}{sp tc:Int}{o:List Touch}{k:Nat}{x:Touch}(hx:o[k]? =some x)(p:cK×cK)(now:Int):runT a l sp tc (o.drop k) p now=if x.tp=now+(tk p (gl a (l.getD x.Test.toNat Gd) x.o4) sp+tc)then runT a l sp tc (o.drop<|k+1) (gl a (l.getD x.Test.toNat Gd) x.o4) (now+(tk p (gl a (l.getD x.Test.toNat Gd) x.o4) sp+tc))else none:=by
 obtain⟨hk,rfl⟩:=bA.1 hx;rw[sF hk];rfl
section
variable {N:Nat}
theorem Ly{a:gm}(g:oS a){l:List Test}{sp tc:Int}(hsp:1<=sp/\sp<=1000000)(htc:0<=tc/\tc<=1000)(h0:iu N a l=some 0)(hl:l.length<=2000)(ht:∀t∈l,Ds a t){o:List Touch}(ho:o.length<=1048576)(hN:4398046511104<=N):
  ot N a l o sp tc=some (xv a l sp tc o):=by
 have gT:=Gb g;have hc:=xu (N:=N) (sp:=sp) (tc:=tc) h0;rw[aD (by decide),aC ⟨hsp,htc⟩]at hc;refine SJ ?_;unfold ot;refine RE hc ?_;rw[bne_self_eq_false,aQ];refine RE (rf false (by omega)) ?_;have hw:∀x:Int,jk N x 0 (wrap .i64<|((l.length:Nat):Int) - 1)=some (decide<|0<=x/\x<=((l.length:Nat):Int) - 1):=λx=>by
  rw[eU (by omega) (by omega)];show some (decide (x>=0)&&decide (x<=((l.length:Nat):Int) - 1))=_;congr 1;rw[dZ,bT,bF,bF,bF]
 refine RP (Tu (λk s=>zm l.length o k s/\∀j,j<k->¬Hc l.length o j) (Go:=λ_=>∀j,¬Hc l.length o j) (Rt:=λr=>r=(0,3)/\∃k,Hc l.length o k) (by omega) ⟨zm.start _ _,λj hj=>by omega⟩ (λk s hk I=>?_)<|λs I=>?_) ?_
 ·obtain⟨I1,I2⟩:=I;have hx:o[k]? =some o[k]:=aP hk;generalize o[k]=x at hx;refine R0 hx ?_
  by_cases hin:0<=x.Test/\x.Test<=((l.length:Nat):Int) - 1
  ·obtain⟨i,hi⟩:∃i:Nat,x.Test=((i:Nat):Int):=⟨x.Test.toNat,by omega⟩;have hil:i<l.length:=by omega
   have hsx:=I1.at_ i hil;refine RE (x:=decide (∃j y,j<k/\o[j]? =some y/\y.Test=((i:Nat):Int))) (by rw[hw,aB,bL hin,lf,aQ,hi,dS hsx,aB])<|R9 (λhb=>SC ⟨rfl,k,x,hx, .inr ?_⟩)<|λhb=>?_
   ·obtain⟨j,y,h1,h2,h3⟩:=of_decide_eq_true hb;exact⟨j,y,h1,h2,by rw[h3,hi]⟩
   ·have hb:=of_decide_eq_false hb;rw[hi];refine R0 hsx<|Si ⟨?_,λj hj=>?_⟩
    ·rw[cI];exact I1.set hx hi hil
    ·by_cases e:j=k
     ·subst e;rintro⟨x',hx',h⟩;rw[hx]at hx';injection hx' with hx';subst hx'
      rcases h with h|⟨j',y,h1,h2,h3⟩
      ·exact h hin
      ·exact hb ⟨j',y,h1,h2,by rw[h3,hi]⟩
     ·exact I2 j (by omega)
  ·refine RE (x:=true) (by rw[hw,aB,bO hin];rfl) ?_;rw[aO];exact SC ⟨rfl,k,x,hx, .inl hin⟩
 ·intro j hj
  by_cases hjo:j<o.length
  ·exact I.2 j hjo hj
  ·obtain⟨x,hx,_⟩:=hj;exact hjo (bA.1 hx).1
 intro out hout;refine Sm hout (λs hnb=>?_)<|λr hr=>RJ ?_
 rotate_left
 ·unfold xv;rw[aC<|.inr hr.2,hr.1]
 by_cases hlen:o.length=l.length
 rotate_left
 ·rw[show(((o.length:Nat):Int) != ((l.length:Nat):Int))=true by rw[bne_iff_ne];omega,aO];refine RJ ?_;unfold xv;rw[aC<|.inl hlen]
 rw[show(((o.length:Nat):Int) != ((l.length:Nat):Int))=false by rw[hlen,bne_self_eq_false],aQ];have hV:xv a l sp tc o=match runT a l sp tc o (Ck,Ck) 0 with|some n=>(n,0)|none=>(0,12):=by
  unfold xv;rw[aD<|λh=>h.elim (λh=>h hlen)<|λ⟨k,h⟩=>hnb k h]
 rw[hV];have hgood:∀(k:Nat)x,o[k]? =some x->∃i:Nat,x.Test=((i:Nat):Int)/\i<l.length:=λk x hx=>by
  have:0<=x.Test/\x.Test<=((l.length:Nat):Int) - 1:=Classical.byContradiction λh=>hnb k ⟨x,hx, .inl h⟩;exact⟨x.Test.toNat,by omega,by omega⟩
 refine RP (Tu (λk s=>∃p:cK×cK,s.1=Pa p/\Cj p/\(0<=s.2/\s.2<=3001000*((k:Nat):Int))/\runT a l sp tc (o.drop k) p s.2=runT a l sp tc o (Ck,Ck) 0) (Go:=λs=>runT a l sp tc o (Ck,Ck) 0=some s.2) (Rt:=λr=>r=(0,12)/\runT a l sp tc o (Ck,Ck) 0=none) (by omega) ⟨(Ck,Ck),rfl,M6,⟨by decide,by decide⟩,rfl⟩ (λk s hk I=>?_)<|λs I=>?_) ?_
 ·obtain⟨q,now⟩:=s;obtain⟨p,rfl,I2,I3,I4⟩:=I;dsimp only at I3 I4 ⊢;have hx:o[k]? =some o[k]:=aP hk;generalize o[k]=x at hx;obtain⟨i,hi,hil⟩:=hgood k x hx;have hlx:l[i]? =some l[i]:=aP hil;have htx:=ht _<|cU hil
  have hgd:l.getD x.Test.toNat Gd=l[i]:=by rw[hi,cI,List.getD_eq_getElem?_getD,hlx];rfl
  have hst:=Du (a:=a) (l:=l) (sp:=sp) (tc:=tc) hx p now;rw[hgd]at hst;have hgk:=Kp gT l[i] x.o4;have htb:=HX I2 hgk hsp;refine R0 hx ?_;rw[hi];refine R0 hlx<|RE (Lx g htx x.o4 hN)<|RE (Lw I2 hgk hsp hN) ?_
  rw[hQ (n:=tk p (gl a l[i] x.o4) sp+tc) (by omega),hQ (n:=now+(tk p (gl a l[i] x.o4) sp+tc)) (by omega)];refine R9 (λhb=>SC ⟨rfl,?_⟩)<|λhb=>Si ⟨_,rfl,hgk,?_,?_⟩
  ·rw[<-I4,hst,aD (by simpa using hb)]
  ·dsimp only;omega
  ·dsimp only;rw[<-I4,hst,aC (by simpa using hb)]
 ·obtain⟨p,I1,I2,I3,I4⟩:=I;rw[List.drop_eq_nil_of_le<|bR _]at I4;rw[<-I4];rfl
 intro out hout;refine Sm hout (λs h=>RJ ?_)<|λr hr=>RJ ?_
 ·rw[h]
 ·rw[hr.2,hr.1]
theorem IV{a:gm}(gT:Dt a){l:List Test}{sp tc:Int}(hsp:1<=sp/\sp<=1000000)(htc:0<=tc/\tc<=1000)(h0:cS N a l=some 0)(hl:l.length<=2000)(ht:∀t∈l,Ds a t){o:List Touch}(ho:o.length<=1048576)(hN:4398046511104<=N):
  gK N a l o sp tc=some (xv a l sp tc o):=by
 obtain⟨m,hm,hmm⟩:=Cm (N:=N) (sp:=sp) (tc:=tc) h0;have hmm:=hmm rfl ⟨hsp,htc⟩;subst hmm;rw[aD (by decide),aC ⟨hsp,htc⟩]at hm;refine SJ ?_;unfold gK;refine RE hm ?_;simp only[bne_self_eq_false,aQ]
 by_cases hlen:o.length=l.length
 rotate_left
 ·rw[show(((o.length:Nat):Int) != ((l.length:Nat):Int))=true by rw[bne_iff_ne];omega,aO];refine RJ ?_;unfold xv;rw[aC<|.inl hlen]
 rw[show(((o.length:Nat):Int) != ((l.length:Nat):Int))=false by rw[hlen,bne_self_eq_false],aQ];refine RE (rf false (by omega)) ?_;have hw:∀x:Int,eX N x 0 (wrap .i64<|((l.length:Nat):Int) - 1)=some (decide<|0<=x/\x<=((l.length:Nat):Int) - 1):=λx=>by
  rw[eU (by omega) (by omega)];show some (decide (x>=0)&&decide (x<=((l.length:Nat):Int) - 1))=_;congr 1;rw[dZ,bT,bF,bF,bF]
 refine RP (SD (n:=o.length) (λst=>st.2) (λk st=>zm l.length o k st.1/\∀j,j<k->¬Hc l.length o j) (Go:=λ_=>∀j,¬Hc l.length o j) (Rt:=λr=>r=(0,3)/\∃k,Hc l.length o k) ?_ ?_ (eZ _) rfl ⟨zm.start _ _,λj hj=>by omega⟩ (by omega)) ?_
 ·rintro k⟨s,kk⟩hk e⟨I1,I2⟩;dsimp only at e I1 ⊢;subst e;rw[n9 hk,aO];have hx:o[k]? =some o[k]:=aP hk;generalize o[k]=x at hx;refine R0 hx ?_
  by_cases hin:0<=x.Test/\x.Test<=((l.length:Nat):Int) - 1
  ·obtain⟨i,hi⟩:∃i:Nat,x.Test=((i:Nat):Int):=⟨x.Test.toNat,by omega⟩;have hil:i<l.length:=by omega
   have hsx:=I1.at_ i hil;refine RE (x:=decide (∃j y,j<k/\o[j]? =some y/\y.Test=((i:Nat):Int))) (by rw[hw,aB,bL hin,lf,aQ,hi,dS hsx,aB])<|R9 (λhb=>SC ⟨rfl,k,x,hx, .inr ?_⟩)<|λhb=>?_
   ·obtain⟨j,y,h1,h2,h3⟩:=of_decide_eq_true hb;exact⟨j,y,h1,h2,by rw[h3,hi]⟩
   ·have hb:=of_decide_eq_false hb;rw[hi];refine R0 hsx<|Si ⟨cD (by omega),?_,λj hj=>?_⟩
    ·dsimp only;rw[cI];exact I1.set hx hi hil
    ·by_cases e:j=k
     ·subst e;rintro⟨x',hx',h⟩;rw[hx]at hx';injection hx' with hx';subst hx'
      rcases h with h|⟨j',y,h1,h2,h3⟩
      ·exact h hin
      ·exact hb ⟨j',y,h1,h2,by rw[h3,hi]⟩
     ·exact I2 j (by omega)
  ·refine RE (x:=true) (by rw[hw,aB,bO hin];rfl) ?_;rw[aO];exact SC ⟨rfl,k,x,hx, .inl hin⟩
 ·rintro⟨s,kk⟩e⟨I1,I2⟩;dsimp only at e I1 ⊢;subst e;rw[rn,aQ];refine Sn λj hj=>?_
  by_cases hjo:j<o.length
  ·exact I2 j hjo hj
  ·obtain⟨x,hx,_⟩:=hj;exact hjo (bA.1 hx).1
 intro out hout;refine Sm hout (λs hnb=>?_)<|λr hr=>RJ ?_
 rotate_left
 ·unfold xv;rw[aC<|.inr hr.2,hr.1]
 have hV:xv a l sp tc o=match runT a l sp tc o (Ck,Ck) 0 with|some n=>(n,0)|none=>(0,12):=by
  unfold xv;rw[aD<|λh=>h.elim (λh=>h hlen)<|λ⟨k,h⟩=>hnb k h]
 rw[hV];have hgood:∀(k:Nat)x,o[k]? =some x->∃i:Nat,x.Test=((i:Nat):Int)/\i<l.length:=λk x hx=>by
  have:0<=x.Test/\x.Test<=((l.length:Nat):Int) - 1:=Classical.byContradiction λh=>hnb k ⟨x,hx, .inl h⟩;exact⟨x.Test.toNat,by omega,by omega⟩
 refine RP (SD (n:=o.length) (λst=>st.2.2.2) (λk st=>Cj (st.1,st.2.1)/\(0<=st.2.2.1/\st.2.2.1<=3001000*((k:Nat):Int))/\runT a l sp tc (o.drop k) (st.1,st.2.1) st.2.2.1=runT a l sp tc o (Ck,Ck) 0) (Go:=λst=>runT a l sp tc o (Ck,Ck) 0=some st.2.2.1) (Rt:=λr=>r=(0,12)/\runT a l sp tc o (Ck,Ck) 0=none) ?_ ?_ (eZ _) rfl ⟨M6,⟨by decide,by decide⟩,rfl⟩ (by omega)) ?_
 ·rintro k⟨p1,p2,now,kk⟩hk e⟨I2,I3,I4⟩;dsimp only at e I2 I3 I4 ⊢;subst e;rw[n9 hk,aO];have hx:o[k]? =some o[k]:=aP hk;generalize o[k]=x at hx;obtain⟨i,hi,hil⟩:=hgood k x hx;have hlx:l[i]? =some l[i]:=aP hil;have htx:=ht _<|cU hil
  have hgd:l.getD x.Test.toNat Gd=l[i]:=by rw[hi,cI,List.getD_eq_getElem?_getD,hlx];rfl
  have hst:=Du (a:=a) (l:=l) (sp:=sp) (tc:=tc) hx (p1,p2) now;rw[hgd]at hst;have hgk:=Kp gT l[i] x.o4;have htb:=HX I2 hgk hsp;have hta:=Gc (N:=N) gT hsp htc hlx htx x.o4 I2 hN;refine R0 hx<|R0 hx ?_
  rw[hi];refine RE hta<|R0 hx ?_
  rw[hQ (n:=now+(tk (p1,p2) (gl a l[i] x.o4) sp+tc)) (by omega)];refine R9 (λhb=>SC ⟨rfl,?_⟩)<|λhb=>R0 hx<|R0 hx ?_
  ·rw[<-I4,hst,aD (by simpa using hb)]
  ·rw[hi];refine RE (AB gT hlx htx x.o4 hN)<|Si ⟨cD (by omega),hgk,?_,?_⟩
   ·dsimp only;omega
   ·dsimp only;rw[<-I4,hst,aC (by simpa using hb)]
 ·rintro⟨p1,p2,now,kk⟩e⟨I2,I3,I4⟩;dsimp only at e I4 ⊢;subst e;rw[rn,aQ];refine Sn ?_;rw[List.drop_eq_nil_of_le<|bR _]at I4;dsimp only;rw[<-I4];rfl
 intro out hout;refine Sm hout (λs h=>RJ ?_)<|λr hr=>RJ ?_
 ·rw[h]
 ·rw[hr.2,hr.1]
theorem uO{a:gm}{l:List Test}{o:List Touch}{sp tc:Int}(ha:bk a<=1048576)(hl:bk l<=1048576)(ho:bk o<=1048576)(_h1:bk sp<=1048576)(_h2:bk tc<=1048576)(hN:4398046511104<=N):dK N a l o sp tc=some true:=by
 have hs:=FR ha;have hll:l.length<=1048576:=by have:=vD l;omega
 have hoo:o.length<=1048576:=by have:=vD o;omega
 have aw:=Lq hN;have fin:∀{x:Int×Int},ot N a l o sp tc=some x->gK N a l o sp tc=some x->dK N a l o sp tc=some true:=λ{x}h1 h2=>by
  unfold dK;rw[h1,aB,h2,aB,aw];simp
 have bad:∀{e:Int},iu N a l=some e->cS N a l=some e->(e≠0\/¬((1<=sp/\sp<=1000000)/\(0<=tc/\tc<=1000)))->dK N a l o sp tc=some true:=λ{e}h1 h2 h3=>by
  have hc:=xu (N:=N) (sp:=sp) (tc:=tc) h1;obtain⟨m,hm,_⟩:=Cm (N:=N) (sp:=sp) (tc:=tc) h2;have hne:(if e≠0 then e else if(1<=sp/\sp<=1000000)/\(0<=tc/\tc<=1000)then 0 else 1)≠0:=by
   by_cases he:e≠0
   ·rw[aC he];exact he
   ·rw[aD he,aD<|h3.resolve_left he];decide
  generalize (if e≠0 then e else if(1<=sp/\sp<=1000000)/\(0<=tc/\tc<=1000)then 0 else 1)=E at *;have hb:(E != 0)=true:=by simpa using hne
  refine fin (x:=(0,E)) ?_ ?_
  ·unfold ot;rw[hc,aB,hb,aO]
  ·unfold gK;rw[hm,aB];dsimp only;rw[hb,aO]
 rcases checked (N:=N) hs hN with⟨e,he,h1,h2⟩|⟨b,h1,h2⟩
 ·exact bad (pV<|Ko he h1 l) (zk he h2 l)<|.inl he
 rename_i me gH r gs ofP ofB qM qB;have hlf:=b.xp.BZ;have hT:=Aa (N:=N) (by omega) h2 hll hN
 rcases Ls b h1 hll hN with⟨e1,e2⟩|⟨e1,e2⟩
 ·exact bad (pV e2) hT<|.inl e1
 rw[e1]at hT;obtain⟨t1,t2,_⟩:=Es e1
 by_cases hst:(1<=sp/\sp<=1000000)/\(0<=tc/\tc<=1000)
 ·exact fin (Ly b.xp hst.1 hst.2 (pV e2) t1 t2 hoo hN)<|IV (Gb b.xp) hst.1 hst.2 hT t1 t2 hoo hN
 ·exact bad (pV e2) hT<|.inr hst
end
end Go.Gk
