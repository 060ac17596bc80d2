/-
  Helping texts: plain functions and plain laws. No statement of the seed is proved here.
-/
import Derived.Test.YtlffnmkhgkppkaaGreatDoorE1
import Derived.Test.YtlffnmkhgkppkaaGreatDoorA2
set_option linter.unusedVariables false
set_option linter.unusedSimpArgs false
set_option linter.unusedSectionVars false
namespace Go.Gk
open Go IntKind Classical
section
variable {N:Nat}
section
variable {α:Type}
def wX(P:α->Bool)(l:List α)(n:Nat):List Nat:=(List.range n).filter<|λk=>(l[k]?).any P
theorem HN{P:α->Bool}{l:List α}{n:Nat}{x:α}(h:l[n]? =some x):wX P l (n+1)=if P x=true then wX P l n++[n]else wX P l n:=by
 unfold wX;rw[List.range_succ,k8]
 by_cases hp:P x=true
 ·rw[aC hp];simp[h,hp]
 ·rw[aD hp];simp[h,hp]
theorem D8(P:α->Bool)(l:List α)(n:Nat):(wX P l n).length<=n:=by
 have:=pw (λk=>(l[k]?).any P)<|List.range n
 rw[List.length_range]at this;exact this
theorem JL{P:α->Bool}{l:List α}{n k:Nat}:k∈wX P l n↔k<n/\(l[k]?).any P=true:=by unfold wX;simp
theorem zR{β:Type}{l:List α}(P:α->Bool)(g:Nat->β):qK l.length (λk=>(l[k]?).bind λx=>if P x=true then some (g k)else none)=(l.findIdx? P).map g:=by
 cases h:l.findIdx? P with
 |none=>
  rw[List.findIdx?_eq_none_iff]at h;refine ky.2 λk hk=>?_;rw[aS hk];have:=h _<|dH hk
  simp[this]
 |some j=>
  obtain⟨hj,hp,hn⟩:=List.findIdx?_eq_some_iff_getElem.1 h;refine kz.2 ⟨j,hj,by rw[aS hj];simp[hp],λi hi=>?_⟩;rw[aS (by omega)];have:=hn i hi;simp[this]
end
def ints(l:List Nat):List Int:=l.map λi=>((i:Nat):Int)
theorem wY(l m:List Nat):ints (l++m)=ints l++ints m:=fu
theorem pK(l:List Nat):(ints l).length=l.length:=eL _
theorem CV{l:List Nat}{x:Int}:x∈ints l↔∃i∈l,x=((i:Nat):Int):=by
 unfold ints;rw[dK];constructor
 ·rintro⟨i,h1,h2⟩;exact⟨i,h1,h2.symm⟩
 ·rintro⟨i,h1,h2⟩;exact⟨i,h1,h2.symm⟩
def IK(p0 p1:aI):Bool:=(((decide (p0.X0<p1.X1)&&decide (p1.X0<p0.X1))&&((p0.Y1==p1.Y0)||(p1.Y1==p0.Y0)))||((decide (p0.Y0<p1.Y1)&&decide (p1.Y0<p0.Y1))&&((p0.X1==p1.X0)||(p1.X1==p0.X0))))
def pL(b:cP)(p:aO):Bool:=b.jX&&(lv b p.fP&&p.ri.any (λr=>IK r<|wS b))
def pq(bs:List cP)(pcs:List aO):List (List Int):=bs.map λb=>ints<|wX (pL b) pcs pcs.length
theorem tA{l:List aI}{φ:aI->Option Bool}(p:aI->Bool)(hl:l.length<=4611686018427387904)(h:∀x∈l,φ x=some (p x)):il N l φ=some (l.any p):=
 uc p hl h
theorem K9{bs:List cP}{pcs:List aO}(hb:nY bs)(hp:pcs.length<=1073741824)(hr:∀p∈pcs,p.ri.length<=1073741824):kF N bs pcs []=some (pq bs pcs):=by
 refine T3 ?_;have hbl:=hb.len;unfold kF;refine Td (T6 (λk st=>st=pq (bs.take k) pcs) (by omega) rfl<|λk st hk e=>?_)<|λst e=>S9 (by rw[e,gj])
 subst e;have hg:=hb.ok _<|dH hk
 refine TY hk ?_;refine Td (P:=λt=>t=ints (wX (pL bs[k]) pcs pcs.length)) (T6 (λj t=>t=ints (wX (pL bs[k]) pcs j)) (by omega) rfl<|λj t hj e=>?_)<|λt e=>?_
 ·subst e;have hjx:pcs[j]? =some pcs[j]:=aS hj;have hl:=D8 (pL bs[k]) pcs j;refine Ti hjx ?_;refine SZ (x:=pL bs[k] pcs[j]) ?_ ?_
  ·unfold pL
   cases bs[k].jX with
   |false=>rfl
   |true=>
    rw[aQ,CS,aB,Bool.true_and]
    cases lv bs[k] pcs[j].fP with
    |false=>rfl
    |true=>
     rw[aQ,tA (λr=>IK r (wS bs[k])) (by have:=hr _ (dH hj);omega) (λr _=>by
      unfold kQ;rw[nG hg.1];rfl),aB,Bool.true_and]
  ·rw[HN hjx]
   cases ht:pL bs[k] pcs[j]with
   |false=>rw[aT,aD (by simp)];exact SZ rfl (S9 rfl)
   |true=>
    rw[aQ,aC rfl];refine SZ (x:=ints (wX (pL bs[k]) pcs j)++[((j:Nat):Int)]) (by rw[lq (by rw[pK];simp;omega),aB])<|S9 ?_
    rw[wY];rfl
 ·subst e;refine TW ?_<|S9 ?_
  ·unfold pq;simp;omega
  ·unfold pq;rw[fJ hk,fu];rfl
def GQ(r:List aI)(p:bL):Bool:=r.any<|λx=>decide (p.X>=x.X0)&&(decide (p.X<x.X1)&&(decide (p.Y>=x.Y0)&&decide (p.Y<x.Y1)))
theorem zS{r:List aI}{p:bL}(hl:r.length<=4611686018427387904):kZ N r p=some (GQ r p):=by
 unfold kZ
 rw[tA (λx=>decide (p.X>=x.X0)&&(decide (p.X<x.X1)&&(decide (p.Y>=x.Y0)&&decide (p.Y<x.Y1)))) hl (λx _=>by
  unfold l7
  cases decide (p.X>=x.X0) <;> cases decide (p.X<x.X1) <;> cases decide (p.Y>=x.Y0) <;> rfl)];rfl
def yM(l:dV)(b:cP):Bool:=b.jX&&(lv b l.fP&&GQ [wS b] l.At)
def zT(l:dV)(p:aO):Bool:=(p.fP==l.fP)&&GQ p.ri l.At
def th(bs:List cP)(pcs:List aO)(l:dV):Option gM:=match bs.findIdx? (yM l)with
 |some k=>some ⟨true,((k:Nat):Int)⟩
 |none=>(pcs.findIdx? (zT l)).map λk=>⟨false,((k:Nat):Int)⟩
theorem La{bs:List cP}{pcs:List aO}(hb:nY bs)(hp:pcs.length<=1073741824)(hr:∀p∈pcs,p.ri.length<=1073741824)(l:dV):
  kH N bs pcs l=some ((th bs pcs l).getD ⟨false,0⟩,(th bs pcs l).isSome):=by
 have hbl:=hb.len;unfold kH
 rw[sw (λk=>(bs[k]?).bind λx=>if yM l x=true then some ((⟨true,((k:Nat):Int)⟩:gM),true)else none) (by omega) (λk hk _=>by
  have hkx:bs[k]? =some bs[k]:=aS hk;have hg:=hb.ok _<|dH hk
  rw[eD hkx,aB,hkx,nG hg.1,aB,aB,zS (by simp)];unfold yM
  cases bs[k].jX with
  |false=>rfl
  |true=>
   show(((bif lv bs[k] l.fP then _ else _:Option Bool)).bind _)=_
   cases lv bs[k] l.fP with
   |false=>rfl
   |true=>
    cases GQ [wS bs[k]] l.At <;> rfl),aB,zR (yM l) (λk=>((⟨true,((k:Nat):Int)⟩:gM),true))]
 unfold th
 cases bs.findIdx? (yM l)with
 |some k=>rfl
 |none=>
  show((uO pcs.length _ ()).bind _)=_
  rw[sw (λk=>(pcs[k]?).bind λx=>if zT l x=true then some ((⟨false,((k:Nat):Int)⟩:gM),true)else none) (by omega) (λk hk _=>by
   have hkx:pcs[k]? =some pcs[k]:=aS hk;rw[eD hkx,aB,hkx,aB,zS (by have:=hr _<|dH hk;omega)];unfold zT
   cases pcs[k].fP==l.fP with
   |false=>rfl
   |true=>cases GQ pcs[k].ri l.At <;> rfl),aB,zR (zT l) (λk=>((⟨false,((k:Nat):Int)⟩:gM),true))]
  cases pcs.findIdx? (zT l) <;> rfl
def Lk(n:Nat)(tch:List (List Int))(i j:Nat):Prop:=∃(k:Nat)(l:List Int),tch[k]? =some l/\((i:Nat):Int)∈l/\j=n+k
structure DE (n m:Nat) (tch:List (List Int)) (r:Nat->Nat):Prop where
 le:∀i,i<n+m->r i<=i
 rr:∀i,i<n+m->r (r i)=r i
 co:∀i j,Lk n tch i j->r i=r j
 fi:∀S:Nat->Prop,(∀i j,Lk n tch i j->(S i↔S j))->∀i j,i<n+m->j<n+m->r i=r j->S i->S j
theorem D9{n m:Nat}{tch:List (List Int)}(hm:tch.length=m)(ht:∀l∈tch,l.length<=1073741824/\∀x∈l,∃i:Nat,i<n/\x=((i:Nat):Int))(hn:n<=1073741824)(hm2:m<=1073741824){up:List Int}(hu:UF (n+m) up (λi=>i))(hN:4398046511104<=N):
  Ok (mB tch.length (λ(k34:Nat)(s35:List Int)=>((idx tch (k34:Int)).bind λx89=>(mB x89.length (λ(k92:Nat)(s93:List Int)=>((idx x89 (k92:Int)).bind λx107=>(eP N s93 x107<|wrap .i64<|(n:Int)+(k34:Int)).bind λx109=>some x109:Option (List Int))) s35).bind λs93=>some s93:Option (List Int))) up)
   (λup'=>∃r,UF (n+m) up' r/\DE n m tch r):=by
 have base:Ok (mB tch.length (λ(k34:Nat)(s35:List Int)=>((idx tch (k34:Int)).bind λx89=>(mB x89.length (λ(k92:Nat)(s93:List Int)=>((idx x89 (k92:Int)).bind λx107=>(eP N s93 x107<|wrap .i64<|(n:Int)+(k34:Int)).bind λx109=>some x109:Option (List Int))) s35).bind λs93=>some s93:Option (List Int))) up)
   (λup'=>∃r E,UF (n+m) up' r/\q8 r E/\BE (n+m) r E/\(∀p∈E,Lk n tch p.1 p.2)/\∀(k:Nat)l(i:Nat),k<tch.length->tch[k]? =some l->((i:Nat):Int)∈l->(i,n+k)∈E):=by
  refine T6 (λq up'=>∃r E,UF (n+m) up' r/\q8 r E/\BE (n+m) r E/\(∀p∈E,Lk n tch p.1 p.2)/\∀(k:Nat)l(i:Nat),k<q->tch[k]? =some l->((i:Nat):Int)∈l->(i,n+k)∈E) (by omega)
   ⟨_,_,hu,q8.id,BE.id _,λp hp=>(by cases hp),λk l i hk=>by omega⟩ (λq up' hq hI=>?_)
  obtain⟨r,E,h1,h2,h3,h4,h5⟩:=hI;have hqx:tch[q]? =some tch[q]:=aS hq;obtain⟨hl1,hl2⟩:=ht _<|dH hq
  refine Ti hqx ?_;rw[wrap_add (by omega)]
  refine Td (T6 (λt up'=>∃r E,UF (n+m) up' r/\q8 r E/\BE (n+m) r E/\(∀p∈E,Lk n tch p.1 p.2)/\(∀(k:Nat)l(i:Nat),k<q->tch[k]? =some l->((i:Nat):Int)∈l->(i,n+k)∈E)/\∀i:Nat,((i:Nat):Int)∈tch[q].take t->(i,n+q)∈E) (by omega)
   ⟨r,E,h1,h2,h3,h4,h5,λi hi=>by simp at hi⟩ (λt up' htl hI=>?_)) (λup' hI=>S9 ?_)
  ·obtain⟨r,E,h1,h2,h3,h4,h5,h6⟩:=hI;refine TY htl ?_;obtain⟨i,hi,e⟩:=hl2 _<|dH htl
   rw[e];obtain⟨u2,a1,a2⟩:=Mp (N:=N) h1 (i:=i) (k:=n+q) (by omega) (by omega) (by omega);refine SZ a1<|S9 ⟨_,_,a2,h2.join i (n+q)<|h1.rr i (by omega),h3.join (by omega) (by omega),λp hp=>?_,λk l j hk hl hj=>List.mem_append_left _<|h5 k l j hk hl hj,λj hj=>?_⟩
   ·rcases dS.1 hp with hp|hp
    ·exact h4 p hp
    ·simp at hp;subst hp;exact⟨q,tch[q],hqx,by rw[<-e];exact dH htl,rfl⟩
   ·rw[fJ htl,dS]at hj
    rcases hj with hj|hj
    ·exact List.mem_append_left _<|h6 j hj
    ·rw[List.mem_singleton,e]at hj;have:j=i:=by omega
     subst this;simp
  ·obtain⟨r,E,h1,h2,h3,h4,h5,h6⟩:=hI;refine⟨r,E,h1,h2,h3,h4,λk l i hk hl hi=>?_⟩
   by_cases hkq:k<q
   ·exact h5 k l i hkq hl hi
   ·have:k=q:=by omega
    subst this;rw[hqx]at hl;injection hl with hl;subst hl
    exact h6 i (by rw[gj];exact hi)
 obtain⟨up',e,r,E,h1,h2,h3,h4,h5⟩:=base;have hE:∀i j,Lk n tch i j->(i,j)∈E:=λi j⟨k,l,hl,hi,hj⟩=>by
  rw[hj];exact h5 k l i (bE.1 hl).1 hl hi
 exact⟨up',e,r,h1,h1.le,h1.rr,λi j h=>h2 (i,j)<|hE i j h,λS hS i j hi hj=>h3 S (λp hp=>hS p.1 p.2<|h4 p hp) i j hi hj⟩
def DF(bs:List cP)(j:Nat):Bool:=(bs[j]?).any<|λb=>b.jX
def gP(n:Nat)(c:List Nat):List Nat:=c.filter<|λi=>decide<|i<n
def gB(bs:List cP)(n:Nat)(c:List Nat):List Nat:=(c.filter<|λi=> !decide (i<n)&&DF bs (i - n)).map<|λi=>i - n
def Lb(bs:List cP)(n:Nat)(c:List Nat):Bool:=decide<|0<(gP n c).length+(gB bs n c).length
def Sy(bs:List cP)(n:Nat)(c:List Nat):dL:=⟨ints<|gP n c,ints<|gB bs n c,[]⟩
theorem IL(n:Nat)(c:List Nat)(i:Nat):gP n (c++[i])=if i<n then gP n c++[i]else gP n c:=by
 unfold gP;rw[k8];split <;> rename_i h <;> simp[h]
theorem IM(bs:List cP)(n:Nat)(c:List Nat)(i:Nat):gB bs n (c++[i])=if i<n then gB bs n c else if DF bs (i - n)=true then gB bs n c++[i - n]else gB bs n c:=by
 unfold gB;rw[k8,fu];split
 ·rename_i h;simp[h]
 ·rename_i h;split <;> rename_i h2 <;> simp[h,h2]
theorem Lc(n:Nat)(c:List Nat):(gP n c).length<=c.length:=pw _ _
theorem Ld(bs:List cP)(n:Nat)(c:List Nat):(gB bs n c).length<=c.length:=by unfold gB;rw[eL];exact pw _ _
def live(bs:List cP)(n t:Nat)(r:Nat->Nat)(hs:List Nat):List Nat:=hs.filter<|λh=>Lb bs n<|cls t r h
def vk(bs:List cP)(n t:Nat)(r:Nat->Nat)(hs:List Nat):List dL:=(live bs n t r hs).map<|λh=>Sy bs n<|cls t r h
theorem JM(bs:List cP)(n t:Nat)(r:Nat->Nat)(hs:List Nat)(h:Nat):live bs n t r (hs++[h])=if Lb bs n (cls t r h)=true then live bs n t r hs++[h]else live bs n t r hs:=by
 unfold live;rw[k8];split <;> rename_i h2 <;> simp[h2]
theorem zU(bs:List cP)(n t:Nat)(r:Nat->Nat)(hs:List Nat):(vk bs n t r hs).length=(live bs n t r hs).length:=by unfold vk;rw[eL]
def gi(bs:List cP)(n t:Nat)(r:Nat->Nat)(h:Nat):Nat:=(live bs n t r<|(cE t r).takeWhile<|λx=>decide<|x≠h).length
theorem yc{l:List Nat}(hn:l.Nodup){k h:Nat}(hk:l[k]? =some h):l.takeWhile (λx=>decide<|x≠h)=l.take k:=by
 induction l generalizing k with
 |nil=>simp at hk
 |cons a l ih=>
  cases k with
  |zero=>simp at hk;subst hk;simp
  |succ k=>
   have hk:l[k]? =some h:=by simpa using hk
   have hne:a≠h:=λe=>(List.nodup_cons.1 hn).1 (by rw[e];exact fK hk);rw[List.takeWhile_cons,aC (by simpa using hne),List.take_succ_cons,ih (List.nodup_cons.1 hn).2 hk]
theorem zV(bs:List cP)(n t:Nat)(r:Nat->Nat)(hs:List Nat):(live bs n t r hs).length<=hs.length:=pw _ _
theorem Le{bs:List cP}{n t:Nat}{r:Nat->Nat}{h:Nat}(hh:h∈cE t r)(hne:Lb bs n (cls t r h)=true):gi bs n t r h<(live bs n t r<|cE t r).length/\(live bs n t r<|cE t r)[gi bs n t r h]? =some h:=by
 obtain⟨k,hk⟩:=eX hh;have hkl:=(bE.1 hk).1;unfold gi;rw[yc (po t r) hk];have e:cE t r=(cE t r).take k++h::(cE t r).drop (k+1):=by
  have h1:=(List.take_append_drop k<|cE t r).symm;rw[tj hkl,(bE.1 hk).2]at h1;exact h1
 have e2:live bs n t r (cE t r)=live bs n t r ((cE t r).take k)++h::live bs n t r ((cE t r).drop<|k+1):=by
  conv=>lhs;rw[e]
  unfold live;rw[k8,List.filter_cons,aC hne]
 constructor
 ·rw[e2];simp
 ·rw[e2];simp
end
section
variable {N:Nat}
theorem Ea{l:List Nat}(h:l.Nodup){i j a:Nat}(hi:l[i]? =some a)(hj:l[j]? =some a):i=j:=
 (List.getElem_inj (h₀:=(bE.1 hi).1) (h₁:=(bE.1 hj).1) h).1 (by rw[(bE.1 hi).2,(bE.1 hj).2])
theorem xF{n i k:Nat}{r:Nat->Nat}:i∈cls n r k↔i<n/\r i=k:=by unfold cls;simp
theorem JN(n:Nat)(r:Nat->Nat)(k:Nat):(cls n r k).Nodup:=List.Nodup.sublist List.filter_sublist List.nodup_range
structure QQ (bs:List cP) (n m:Nat) (r:Nat->Nat) (hs:List Nat) (ofP ofB:List Int):Prop where
 lp:ofP.length=n
 lb:ofB.length=m
 pc:∀i,i<n->r i∈hs->ofP[i]? =some ((gi bs n (n+m) r (r i):Nat):Int)
 bo:∀j,j<m->r (n+j)∈hs->ofB[j]? =some (if DF bs j=true then((gi bs n (n+m) r (r<|n+j):Nat):Int)else -1)
theorem GR{bs:List cP}{n m:Nat}{r:Nat->Nat}(hm:bs.length=m)(hn:n<=1073741824)(hm2:m<=1073741824){op ob:List Int}(hop:op.length=n)(hob:ob.length=m)
  {body:Nat->List dL×List Int×List Int->Option (List dL×List Int×List Int)}
  (hbody:body=(λ(k123:Nat)(s124:List dL×List Int×List Int)=>((idx (sP (n+m) r) (k123:Int)).bind λx455=>(mB x455.length (λ(k458:Nat)(s459:List Int×List Int×List Int×List Int)=>((idx x455 (k458:Int)).bind λx556=>(bif decide (x556<(n:Int))then((idx s459.1 x556).bind λx580=>(app 8 s459.2.2.1 ([x556]:List Int)).bind λx582=>some (s459.1.set (Int.toNat x556) (s124.1.length:Int),s459.2.1,x582,s459.2.2.2))else((idx bs<|wrap .i64<|x556 -(n:Int)).bind λx584=>(bif x584.jX then((idx s459.2.1<|wrap .i64<|x556 -(n:Int)).bind λx594=>(app 8 s459.2.2.2 ([wrap .i64<|x556 -(n:Int)]:List Int)).bind λx596=>some (s459.2.1.set (Int.toNat<|wrap .i64<|x556 -(n:Int)) (s124.1.length:Int),x596))else((idx s459.2.1<|wrap .i64<|x556 -(n:Int)).bind λx598=>some (s459.2.1.set (Int.toNat<|wrap .i64<|x556 -(n:Int))<|-1,s459.2.2.2))).bind λs592=>some (s459.1,s592.1,s459.2.2.1,s592.2))).bind λs577=>some (s577.1,s577.2.1,s577.2.2.1,s577.2.2.2):Option (List Int×List Int×List Int×List Int))) (s124.2.1,s124.2.2,([]:List Int),([]:List Int))).bind λs459=>(bif decide (wrap .i64 ((s459.2.2.1.length:Int)+(s459.2.2.2.length:Int))>0)then((app 72 s124.1 [(⟨s459.2.2.1,s459.2.2.2,([]:List eE)⟩:dL)]).bind λx610=>some x610)else some s124.1).bind λs606=>some (s606,s459.1,s459.2.1):Option (List dL×List Int×List Int)))):
  Ok (mB (sP (n+m) r).length body ([],op,ob)) (λst=>st.1=vk bs n (n+m) r (cE (n+m) r)/\QQ bs n m r (cE (n+m) r) st.2.1 st.2.2):=by
 subst hbody;have hsl:(sP (n+m) r).length=(cE (n+m) r).length:=by unfold sP;simp
 have hhl:=qp (n+m) r;refine Ok.mono (T6 (λ(k:Nat)(st:List dL×List Int×List Int)=>st.1=vk bs n (n+m) r ((cE (n+m) r).take k)/\QQ bs n m r ((cE (n+m) r).take k) st.2.1 st.2.2) (by omega) ⟨rfl,hop,hob,λi hi h=>by simp at h,λj hj h=>by simp at h⟩<|λk st hk hI=>?_) (λst h=>by rw[hsl,gj]at h;exact h);obtain⟨gs,ofP,ofB⟩:=st;obtain⟨e1,I⟩:=hI;dsimp only at e1 I ⊢;subst e1;rw[hsl]at hk;have hkx:(cE (n+m) r)[k]? =some (cE (n+m) r)[k]:=aS hk;have hts:(cE (n+m) r).take (k+1)=(cE (n+m) r).take k++[(cE (n+m) r)[k]]:=fJ hk;have hgk:gi bs n (n+m) r (cE (n+m) r)[k]=(vk bs n (n+m) r<|(cE (n+m) r).take k).length:=by
  unfold gi;rw[yc (po _ _) hkx,zU]
 generalize hh:(cE (n+m) r)[k]=h at *;have hsx:(sP (n+m) r)[k]? =some (ints<|cls (n+m) r h):=by unfold sP;rw[iZ,hkx];rfl
 refine Ti hsx ?_;have hcl:=E3 (n+m) r h;rw[pK];have hgl:(vk bs n (n+m) r<|(cE (n+m) r).take k).length<=n+m:=by
  rw[zU];have:=zV bs n (n+m) r<|(cE (n+m) r).take k
  rw[cW]at this;omega
 have hold:∀i∈cls (n+m) r h,∀i',r i'∈(cE (n+m) r).take k->i≠i':=λi hi i' hi' e=>by
  subst e;rw[(xF.1 hi).2]at hi';obtain⟨j,hj⟩:=eX hi';have hjk:j<k:=by have:=(bE.1 hj).1;rw[cW]at this;omega
  rw[List.getElem?_take_of_lt hjk]at hj;have:=Ea (po (n+m) r) hj hkx;omega
 refine Td (P:=λs'=>QQ bs n m r ((cE (n+m) r).take (k+1)) s'.1 s'.2.1/\s'.2.2.1=ints (gP n (cls (n+m) r h))/\s'.2.2.2=ints (gB bs n (cls (n+m) r h))) (Ok.mono (T6
  (λ(t:Nat)(s':List Int×List Int×List Int×List Int)=>QQ bs n m r ((cE (n+m) r).take k) s'.1 s'.2.1/\s'.2.2.1=ints (gP n ((cls (n+m) r h).take t))/\s'.2.2.2=ints (gB bs n ((cls (n+m) r h).take t))/\
   (∀i∈(cls (n+m) r h).take t,i<n->s'.1[i]? =some ((gi bs n (n+m) r h:Nat):Int))/\∀i∈(cls (n+m) r h).take t,¬i<n->s'.2.1[i - n]? =some (if DF bs (i - n)=true then((gi bs n (n+m) r h:Nat):Int)else -1)) (by omega)
   ⟨I,rfl,rfl,λi hi=>by simp at hi,λi hi=>by simp at hi⟩ (λt s' ht hI'=>?_)) ?_) ?_
 ·obtain⟨oP,oB,pp,bb⟩:=s';obtain⟨J,e2,e3,J1,J2⟩:=hI';dsimp only at J e2 e3 J1 J2 ⊢;subst e2;subst e3;have htx:(ints<|cls (n+m) r h)[t]? =some (((cls (n+m) r h)[t]:Nat):Int):=by unfold ints;rw[iZ,aS ht];rfl
  refine Ti htx ?_;have htt:(cls (n+m) r h).take (t+1)=(cls (n+m) r h).take t++[(cls (n+m) r h)[t]]:=fJ ht;have hcm:=dH ht;have hdist:∀i∈(cls (n+m) r h).take t,i≠(cls (n+m) r h)[t]:=λi hi e=>by
   obtain⟨j,hj⟩:=eX hi;have hjt:j<t:=by have:=(bE.1 hj).1;rw[cW]at this;omega
   rw[List.getElem?_take_of_lt hjt]at hj;have:=Ea (JN (n+m) r h) hj (by rw[e];exact aS ht);omega
  generalize (cls (n+m) r h)[t]=c at *;obtain⟨hc1,hc2⟩:=xF.1 hcm;have hgp:=Lc n<|(cls (n+m) r h).take t
  have hgb:=Ld bs n<|(cls (n+m) r h).take t
  rw[cW]at hgp hgb
  by_cases hcn:c<n
  ·rw[bM (by omega:((c:Nat):Int)<((n:Nat):Int)),aQ];refine Td (P:=λx=>x=(oP.set c ((gi bs n (n+m) r h:Nat):Int),oB,ints (gP n<|(cls (n+m) r h).take t)++[((c:Nat):Int)],ints<|gB bs n<|(cls (n+m) r h).take t)) ?_ ?_
   ·refine TY (by rw[J.lp];exact hcn)<|TW (by rw[pK];simp;omega)<|S9 ?_
    rw[cN,hgk]
   ·rintro _ rfl;refine S9 ⟨⟨by simp[J.lp],J.lb,λi hi hr=>?_,J.bo⟩,?_,?_,λi hi hin=>?_,λi hi hin=>?_⟩
    ·dsimp only;rw[oT (by rw[J.lp];exact hcn),aD<|λe=>hold c hcm i hr e.symm];exact J.pc i hi hr
    ·dsimp only;rw[htt,IL,aC hcn,wY];rfl
    ·dsimp only;rw[htt,IM,aC hcn]
    ·dsimp only;rw[oT (by rw[J.lp];exact hcn)];split
     ·rfl
     ·rename_i hne;rw[htt]at hi
      rcases dS.1 hi with hi|hi
      ·exact J1 i hi hin
      ·exact absurd (by simpa using hi) hne
    ·rw[htt]at hi
     rcases dS.1 hi with hi|hi
     ·exact J2 i hi hin
     ·have:i=c:=by simpa using hi
      subst this;exact absurd hcn hin
  ·rw[bP (by omega:¬((c:Nat):Int)<((n:Nat):Int)),aT];have hw:wrap .i64 (((c:Nat):Int) -((n:Nat):Int))=((c - n:Nat):Int):=by rw[eY (by omega) (by omega)];omega
   have hcm2:c - n<bs.length:=by omega
   have hpl:DF bs (c - n)=bs[c - n].jX:=by unfold DF;rw[aS hcm2];rfl
   rw[hw];refine Td (P:=λx=>x=(oP,oB.set (c - n) (if DF bs (c - n)=true then((gi bs n (n+m) r h:Nat):Int)else -1),ints<|gP n<|(cls (n+m) r h).take t,ints<|gB bs n<|(cls (n+m) r h).take t++[c])) ?_ ?_
   ·refine TY hcm2 ?_;rw[IM,aD hcn,hpl]
    cases hp:bs[c - n].jX with
    |true=>
     rw[aQ,aC rfl,aC rfl];refine SZ (x:=(oB.set (c - n) ((gi bs n (n+m) r h:Nat):Int),ints<|gB bs n ((cls (n+m) r h).take t)++[c - n])) ?_<|S9 rfl
     rw[lI _ _ (by rw[J.lb];omega),aB,lq (by rw[pK];simp;omega),aB,cN,hgk,wY];rfl
    |false=>
     rw[aT,aD (by simp),aD (by simp)];refine SZ (x:=(oB.set (c - n)<|-1,ints<|gB bs n<|(cls (n+m) r h).take t)) ?_<|S9 rfl
     rw[lI _ _ (by rw[J.lb];omega),aB,cN]
   ·rintro _ rfl;refine S9 ⟨⟨J.lp,by simp[J.lb],J.pc,λj hj hr=>?_⟩,?_,?_,λi hi hin=>?_,λi hi hin=>?_⟩
    ·dsimp only;rw[oT (by rw[J.lb];omega),aD<|λe=>hold c hcm (n+j) hr (by omega)];exact J.bo j hj hr
    ·dsimp only;rw[htt,IL,aD hcn]
    ·dsimp only;rw[htt]
    ·rw[htt]at hi
     rcases dS.1 hi with hi|hi
     ·exact J1 i hi hin
     ·have:i=c:=by simpa using hi
      subst this;exact absurd hin hcn
    ·dsimp only;rw[oT (by rw[J.lb];omega)];split
     ·rename_i e;rw[e]
     ·rename_i hne;rw[htt]at hi
      rcases dS.1 hi with hi|hi
      ·exact J2 i hi hin
      ·exact absurd (by have:i=c:=(by simpa using hi);rw[this]) hne
 ·rintro⟨oP,oB,pp,bb⟩⟨J,e2,e3,J1,J2⟩;dsimp only at J e2 e3 J1 J2 ⊢;rw[gj]at e2 e3 J1 J2;refine⟨⟨J.lp,J.lb,λi hi hr=>?_,λj hj hr=>?_⟩,e2,e3⟩
  ·rw[hts]at hr
   rcases dS.1 hr with hr|hr
   ·exact J.pc i hi hr
   ·have hr:r i=h:=by simpa using hr
    rw[hr];exact J1 i (xF.2 ⟨by omega,hr⟩) hi
  ·rw[hts]at hr
   rcases dS.1 hr with hr|hr
   ·exact J.bo j hj hr
   ·have hr:r (n+j)=h:=by simpa using hr
    rw[hr];have:=J2 (n+j) (xF.2 ⟨by omega,hr⟩) (by omega);rwa[Nat.add_sub_cancel_left]at this
 ·rintro⟨oP,oB,pp,bb⟩⟨J,e2,e3⟩;dsimp only at J e2 e3 ⊢;subst e2;subst e3;have hgp:=Lc n<|cls (n+m) r h
  have hgb:=Ld bs n<|cls (n+m) r h
  rw[pK,pK,wrap_add (by omega)];have hgs:vk bs n (n+m) r ((cE (n+m) r).take<|k+1)=if Lb bs n (cls (n+m) r h)=true then vk bs n (n+m) r ((cE (n+m) r).take k)++[Sy bs n<|cls (n+m) r h]else vk bs n (n+m) r ((cE (n+m) r).take k):=by
   unfold vk;rw[hts,JM];split
   ·rw[fu];rfl
   ·rfl
  refine Td (P:=λx=>x=vk bs n (n+m) r ((cE (n+m) r).take<|k+1)) (Ty (λhb=>?_)<|λhb=>S9 ?_)<|λx e=>S9 ⟨e,J⟩
  ·have hne:Lb bs n (cls (n+m) r h)=true:=bM (by have:=of_decide_eq_true hb;omega);refine TW (by simp;omega)<|S9 ?_
   rw[hgs,aC hne];rfl
  ·have hne:¬Lb bs n (cls (n+m) r h)=true:=λh'=>by
    have h1:=of_decide_eq_true h';have h2:=of_decide_eq_false hb;omega
   rw[hgs,aD hne]
end
section
variable {N:Nat}
def ko(n:Nat)(h:gM):Nat:=if h.cP=true then n+h.Number.toNat else h.Number.toNat
structure Ny (bs:List cP) (n m:Nat) (h:gM):Prop where
 num:∃k:Nat,h.Number=((k:Nat):Int)/\(h.cP=true->k<m/\DF bs k=true)/\(h.cP=false->k<n)
theorem HO{bs:List cP}{pcs:List aO}{l:dV}{h:gM}(hh:th bs pcs l=some h):Ny bs pcs.length bs.length h:=by
 unfold th at hh
 cases hf:bs.findIdx? (yM l)with
 |some k=>
  rw[hf]at hh;injection hh with hh;subst hh
  obtain⟨hk,hp,_⟩:=List.findIdx?_eq_some_iff_getElem.1 hf;refine⟨k,rfl,λ_=>⟨hk,?_⟩,λh=>by cases h⟩;unfold yM at hp;unfold DF;rw[aS hk];rw[cD]at hp;exact hp.1
 |none=>
  rw[hf]at hh;dsimp only at hh;rw[Option.map_eq_some_iff]at hh;obtain⟨k,hk,rfl⟩:=hh;obtain⟨hk,_⟩:=List.findIdx?_eq_some_iff_getElem.1 hk;exact⟨k,rfl,λh=>(by cases h),λ_=>hk⟩
def zW(bs:List cP)(pcs:List aO)(r:Nat->Nat)(l:dV):Option Nat:=(th bs pcs l).map λh=>gi bs pcs.length (pcs.length+bs.length) r<|r<|ko pcs.length h
def J6(bs:List cP)(pcs:List aO)(r:Nat->Nat)(l:dV):Int:=match zW bs pcs r l with|some g=>((g:Nat):Int)|none=> -1
def kN(gs:List dL)(lg:dV->Option Nat)(ls:List dV):List dL:=gs.mapIdx<|λg x=>{x with kV:=(ls.filter<|λl=>decide<|lg l=some g).map kd}
theorem mi{gs:List dL}{lg:dV->Option Nat}{ls:List dV}{g:Nat}:(kN gs lg ls)[g]? =(gs[g]?).map λx=>{x with kV:=(ls.filter<|λl=>decide<|lg l=some g).map kd}:=by
 unfold kN;rw[List.getElem?_mapIdx]
theorem E7(gs:List dL)(lg:dV->Option Nat)(ls:List dV):(kN gs lg ls).length=gs.length:=by unfold kN;rw[List.length_mapIdx]
theorem DG{gs:List dL}{lg:dV->Option Nat}{ls:List dV}{l:dV}(h:lg l=none):kN gs lg (ls++[l])=kN gs lg ls:=by
 apply List.ext_getElem?;intro g;rw[mi,mi];congr 2;funext x;rw[k8];simp[h]
theorem E8{gs:List dL}{lg:dV->Option Nat}{ls:List dV}{l:dV}{k:Nat}{x:dL}(h:lg l=some k)(hx:(kN gs lg ls)[k]? =some x):
  (kN gs lg ls).set k {x with kV:=x.kV++[kd l]}=kN gs lg (ls++[l]):=by
 apply List.ext_getElem?;intro g;have hk:=(bE.1 hx).1;rw[fO]
 by_cases e:k=g
 ·subst e;rw[aC rfl,aC hk,mi];rw[mi,Option.map_eq_some_iff]at hx;obtain⟨y,hy,rfl⟩:=hx;rw[hy,k8];simp[h]
 ·rw[aD e,mi,mi];congr 2;funext x;rw[k8];have:¬(lg l=some g):=by rw[h];intro h';injection h' with h';exact e h'
  simp[this]
theorem Nz{bs:List cP}{n t:Nat}{r:Nat->Nat}{i:Nat}(hi:i<n)(ht:i<t):Lb bs n (cls t r<|r i)=true:=by
 unfold Lb;rw[bK];have:i∈gP n (cls t r<|r i):=lE.2 ⟨xF.2 ⟨ht,rfl⟩,by simpa using hi⟩;have:=List.length_pos_of_mem this;omega
theorem NA{bs:List cP}{n t:Nat}{r:Nat->Nat}{j:Nat}(hp:DF bs j=true)(ht:n+j<t):Lb bs n (cls t r<|r<|n+j)=true:=by
 unfold Lb;rw[bK];have:j∈gB bs n (cls t r<|r<|n+j):=dK.2 ⟨n+j,lE.2 ⟨xF.2 ⟨ht,rfl⟩,by simp[hp]⟩,by omega⟩;have:=List.length_pos_of_mem this;omega
structure HQ (bs:List cP) (ls:List dV) (pcs:List aO) (r:Nat->Nat) (gs:List dL) (ofP ofB ry:List Int) (q9:List gM):Prop where
 conn:DE pcs.length bs.length (pq bs pcs) r
 gs:gs=kN (vk bs pcs.length (pcs.length+bs.length) r<|cE (pcs.length+bs.length) r) (zW bs pcs r) ls
 of:QQ bs pcs.length bs.length r (cE (pcs.length+bs.length) r) ofP ofB
 ry:ry=ls.map (J6 bs pcs r)
 q9:q9=ls.map (λl=>(th bs pcs l).getD ⟨false,0⟩)
theorem GS{bs:List cP}{pcs:List aO}(hp:pcs.length<=1073741824):∀l∈pq bs pcs,l.length<=1073741824/\∀x∈l,∃i:Nat,i<pcs.length/\x=((i:Nat):Int):=by
 intro l hl;unfold pq at hl;obtain⟨b,_,rfl⟩:=dK.1 hl;have:=D8 (pL b) pcs pcs.length;refine⟨by rw[pK];omega,λx hx=>?_⟩;obtain⟨i,hi,rfl⟩:=CV.1 hx;exact⟨i,(JL.1 hi).1,rfl⟩
theorem E9{bs:List cP}{ls:List dV}{pcs:List aO}(hb:nY bs)(hp:pcs.length<=1000000000)(hr:∀p∈pcs,p.ri.length<=1073741824)(hl:ls.length<=1073741824)(hN:4398046511104<=N):
  Ok (gG N bs ls pcs (pq bs pcs) [] [] [] []) (λx=>∃r,HQ bs ls pcs r x.1 x.2.1 x.2.2.1 x.2.2.2.1 x.2.2.2.2):=by
 have hbl:=hb.len;unfold gG;rw[wrap_add (by omega)];obtain⟨up0,u1,u2⟩:=Be (N:=N) (n:=pcs.length+bs.length) (by omega);refine SZ u1 ?_;refine Td (D9 (n:=pcs.length) (m:=bs.length) (by unfold pq;simp) (GS (by omega)) (by omega) (by omega) u2 hN) ?_;rintro up1⟨r,v1,v2⟩;refine SZ (oQ 0 (by omega))<|SZ (oQ 0 (by omega)) ?_
 obtain⟨up2,w1,_⟩:=Mq (N:=N) v1 (by omega) (by omega);refine SZ w1 ?_;refine Td (GR (bs:=bs) (n:=pcs.length) (m:=bs.length) (r:=r) rfl (by omega) (by omega) (op:=List.replicate pcs.length 0) (ob:=List.replicate bs.length 0) (by simp) (by simp) rfl) ?_;rintro⟨gs,ofP,ofB⟩⟨e1,I⟩;dsimp only at e1 I ⊢;subst e1;have hgl:(vk bs pcs.length (pcs.length+bs.length) r<|cE (pcs.length+bs.length) r).length<=pcs.length+bs.length:=by
  rw[zU];have:=zV bs pcs.length (pcs.length+bs.length) r<|cE (pcs.length+bs.length) r
  have:=qp (pcs.length+bs.length) r;omega
 refine Td (T6 (λ(k:Nat)(st:List dL×List Int×List Int×List Int×List gM)=>st=(kN (vk bs pcs.length (pcs.length+bs.length) r<|cE (pcs.length+bs.length) r) (zW bs pcs r)<|ls.take k,ofP,ofB,(ls.take k).map<|J6 bs pcs r,(ls.take k).map<|λl=>(th bs pcs l).getD ⟨false,0⟩)) (by omega) ?_<|λk st hk e=>?_) ?_
 ·congr 1;unfold kN;apply List.ext_getElem?;intro g;rw[List.getElem?_mapIdx];unfold vk;rw[iZ]
  cases(live bs pcs.length (pcs.length+bs.length) r<|cE (pcs.length+bs.length) r)[g]? <;> rfl
 ·subst e;dsimp only;have hts:ls.take (k+1)=ls.take k++[ls[k]]:=fJ hk;refine TY hk<|SZ (La hb (by omega) hr _) ?_
  dsimp only;refine Td (P:=λx=>x=(kN (vk bs pcs.length (pcs.length+bs.length) r<|cE (pcs.length+bs.length) r) (zW bs pcs r)<|ls.take k++[ls[k]],J6 bs pcs r ls[k])) ?_ ?_
  ·cases hh:th bs pcs ls[k]with
   |none=>
    refine S9 ?_;have h1:zW bs pcs r ls[k]=none:=by unfold zW;rw[hh];rfl
    rw[DG h1];unfold J6;rw[h1]
   |some h=>
    have h1:zW bs pcs r ls[k]=some (gi bs pcs.length (pcs.length+bs.length) r<|r<|ko pcs.length h):=by unfold zW;rw[hh];rfl
    have h2:J6 bs pcs r ls[k]=((gi bs pcs.length (pcs.length+bs.length) r (r<|ko pcs.length h):Nat):Int):=by unfold J6;rw[h1]
    obtain⟨q,q1,q2,q3⟩:=(HO hh).num;have hix:ko pcs.length h<pcs.length+bs.length/\Lb bs pcs.length (cls (pcs.length+bs.length) r<|r<|ko pcs.length h)=true/\iG N ofP ofB h=some ((gi bs pcs.length (pcs.length+bs.length) r (r<|ko pcs.length h):Nat):Int):=by
     unfold iG ko;rw[q1,cN]
     cases hbo:h.cP with
     |true=>
      obtain⟨q4,q5⟩:=q2 hbo;rw[aQ,aC rfl];refine⟨by omega,NA q5 (by omega),?_⟩;have:=I.bo q q4<|jT.2 ⟨by have:=v2.le (pcs.length+q) (by omega);omega,v2.rr _ (by omega)⟩
      rw[aC q5]at this;rw[eD this,aB]
     |false=>
      have q4:=q3 hbo;rw[aT,aD (by simp)];refine⟨by omega,Nz q4 (by omega),?_⟩;have:=I.pc q q4<|jT.2 ⟨by have:=v2.le q (by omega);omega,v2.rr _ (by omega)⟩
      rw[eD this,aB]
    obtain⟨i1,i2,i3⟩:=hix;have hgi:=Le (r:=r) (t:=pcs.length+bs.length) (bs:=bs) (n:=pcs.length) (h:=r<|ko pcs.length h) (jT.2 ⟨by have:=v2.le _ i1;omega,v2.rr _ i1⟩) i2;have hgx:gi bs pcs.length (pcs.length+bs.length) r (r<|ko pcs.length h)<(kN (vk bs pcs.length (pcs.length+bs.length) r<|cE (pcs.length+bs.length) r) (zW bs pcs r)<|ls.take k).length:=by
     rw[E7,zU];exact hgi.1
    rw[h2];dsimp only[Option.getD,Option.isSome];rw[aQ];refine SZ i3 ?_;generalize gi bs pcs.length (pcs.length+bs.length) r (r<|ko pcs.length h)=g at *;refine TY hgx<|SZ (AM _) ?_
    have hpl:((kN (vk bs pcs.length (pcs.length+bs.length) r<|cE (pcs.length+bs.length) r) (zW bs pcs r)<|ls.take k)[g]).kV.length<=ls.length:=by
     have:=mi (gs:=vk bs pcs.length (pcs.length+bs.length) r<|cE (pcs.length+bs.length) r) (lg:=zW bs pcs r) (ls:=ls.take k) (g:=g);rw[aS hgx]at this;have:=this.symm;rw[Option.map_eq_some_iff]at this;obtain⟨y,_,hy⟩:=this;rw[<-hy,eL];have:=pw (λl=>decide<|zW bs pcs r l=some g)<|ls.take k
     rw[cW]at this;omega
    refine TW (by simp;omega)<|TY hgx<|S9 ?_
    rw[cN];congr 1;exact E8 h1<|aS hgx
  ·rintro _ rfl;dsimp only;refine TW (by simp;omega)<|TW (by simp;omega)<|S9 ?_
   rw[hts,fu,fu];rfl
 ·rintro st rfl;dsimp only;rw[gj];exact S9 ⟨r,v2,rfl,I,rfl,rfl⟩
end
section
variable {N:Nat}
theorem Eb{p:aO}:∀{gY:List (List<|List aA)}{k:Nat},p∈eQ k gY->∃(i:Nat)(ps:List (List aA))(q:List aA),gY[i]? =some ps/\q∈ps/\p= ⟨((k+i:Nat):Int),q,aU q⟩
 | [],k,h=>by cases h
 |ps::gY,k,h=>by
  rcases dS.1 h with h|h
  ·obtain⟨q,hq,rfl⟩:=dK.1 h;exact⟨0,ps,q,rfl,hq,rfl⟩
  ·obtain⟨i,ps',q,h1,h2,h3⟩:=Eb h;refine⟨i+1,ps',q,by simpa using h1,h2,?_⟩;rw[h3,show k+1+i=k+(i+1)by omega]
structure qz (a:fE):Prop where
 CU:0<a.aL.length/\a.aL.length<=16
 Sz:∀r∈a.aL,jk r=0
 out:jk a.dC=0
 many:a.dC.length+(a.aL.map List.length).sum<=2000
 zX:jf a=0
 wZ:lX a=0
theorem qz.gb{a:fE}(h:qz a):nY a.aV:=⟨(mL h.zX).1,λb hb=>⟨((mL h.zX).2 b hb).1,((mL h.zX).2 b hb).2.1⟩⟩
theorem qz.cs{a:fE}(h:qz a):∀r∈a.aL,r.length<=2000/\∀x∈r,D0 x:=λr hr=>E6 (tz.1<|h.Sz r hr).1
structure zY (a:fE) (mz:List (List aA)) (gY:List (List (List aA))) (p:aO) (i:Nat) (r:List aI) (s:List aA) (ps:List (List aA)) (u:Nat->Nat) (j k:Nat):Prop where
 SR:a.aL[i]? =some r
 mz:mz[i]? =some s
 gY:gY[i]? =some ps
 dr:vj r (lx a.aV ((i:Nat):Int)) s
 pt:tv s u ps
 at_:ps[j]? =some p.Set
 head:(cE (aU s).length u)[j]? =some k
 set:sO (oe (aU s) (aU s).length u k) p.Set
 lim:yV (uB r++uB (lx a.aV ((i:Nat):Int))) (jF r++jF (lx a.aV ((i:Nat):Int))) (p.Set.map cG)
 QR:p.fP=((i:Nat):Int)
 QT:p.ri=aU p.Set
theorem Lg{a:fE}{mz:List (List aA)}{gY:List (List<|List aA)}(hg:qz a)(hD:wW a.aL a.aV a.aL.length mz gY){p:aO}(hp:p∈eQ 0 gY):∃i r s ps u j k,zY a mz gY p i r s ps u j k:=by
 obtain⟨i,ps,q,h1,h2,rfl⟩:=Eb hp;have hil:i<a.aL.length:=by have:=(bE.1 h1).1;rw[hD.DD]at this;exact this
 have hc:a.aL[i]? =some a.aL[i]:=aS hil;have hd:mz[i]? =some (mz[i]'(by rw[hD.len];exact hil)):=aS _;have hdr:=hD.dr i _ _ hil hc hd;obtain⟨u,hu⟩:=hD.pt i _ ps hil hd h1;obtain⟨sx,sy⟩:=hdr.small (hg.cs _<|dH hil).2<|λx hx=>(wV hg.gb _ x hx).1
 obtain⟨j,k,g1,g2,g3,g4⟩:=CT hu hdr.can hdr.lim sx sy h2;exact⟨i,_,_,ps,u,j,k,hc,hd,h1,hdr,hu,g1,g2,g3,g4,by rw[iT],rfl⟩
theorem zY.GN{a:fE}{mz:List (List aA)}{gY:List (List<|List aA)}(hg:qz a){p:aO}{i:Nat}{r:List aI}{s:List aA}{ps:List (List aA)}{u:Nat->Nat}{j k:Nat}(h:zY a mz gY p i r s ps u j k):
  p.Set.length<=5000/\(∀b∈p.Set,b.Xs.length<=5000)/\p.ri.length<=5000*5000:=by
 have h1:=(hg.cs r<|fK h.SR).1;have h2:=AN hg.gb ((i:Nat):Int);rw[h.QT];exact xE (A:=5000) h.set.can h.lim (by rw[dG,mw,mw];omega) (by rw[dG,jM,jM];omega)
def zZ(a0 a1 b0 b1:Int):Bool:=decide (b0<a1)&&decide (a0<b1)
def GU(a b:aI):Bool:=zZ a.X0 a.X1 b.X0 b.X1&&zZ a.Y0 a.Y1 b.Y0 b.Y1
theorem CW{a0 a1 b0 b1:Int}(h1: -1000000<=a0/\a0<=1000000)(h2: -1000000<=a1/\a1<=1000000)(h3: -1000000<=b0/\b0<=1000000)(h4: -1000000<=b1/\b1<=1000000):∃n,mG N a0 a1 b0 b1=some n/\0<=n/\(n=0↔zZ a0 a1 b0 b1=true):=by
 unfold mG zZ;have e1:wrap .i64 (b0 - a1)=b0 - a1:=eY (by omega) (by omega);have e2:wrap .i64 (a0 - b1)=a0 - b1:=eY (by omega) (by omega);have e3:wrap .i64 (b0 - a1+1)=b0 - a1+1:=eY (by omega) (by omega);have e4:wrap .i64 (a0 - b1+1)=a0 - b1+1:=eY (by omega) (by omega);rw[e1,e2,e3,e4];refine⟨_,rfl,?_,?_⟩
 ·repeat' split
  all_goals omega
 ·rw[cD,bK,bK]
  repeat' split
  all_goals omega
theorem Ou{a b:aI}(h1:f0 a=true)(h2:f0 b=true):∃n,tV N a b=some n/\(n=0↔GU a b=true):=by
 have b1:=nH h1;have b2:=nH h2;obtain⟨n,n1,n2,n3⟩:=CW (N:=N) (a0:=a.X0) (a1:=a.X1) (b0:=b.X0) (b1:=b.X1) (by omega) (by omega) (by omega) (by omega);obtain⟨m,m1,m2,m3⟩:=CW (N:=N) (a0:=a.Y0) (a1:=a.Y1) (b0:=b.Y0) (b1:=b.Y1) (by omega) (by omega) (by omega) (by omega);unfold tV GU;rw[n1,aB,m1,aB];refine⟨_,rfl,?_⟩;rw[cD,<-n3,<-m3];split <;> omega
def sQ(x y:cP):Bool:=(decide (x.cR<=y.To)&&decide (y.cR<=x.To))&&GU (wS x) (wS y)
def rz(a:fE):Prop:=∃(i k:Nat)(x y:cP),k<i/\a.aV[i]? =some x/\a.aV[k]? =some y/\sQ x y=true
noncomputable def uF(r:List aI):Option Int:=if jk r≠0 then some (jk r)else none
noncomputable def DH(a:fE):Int:=if 2000<a.dC.length+(a.aL.map List.length).sum then 2 else if jf a≠0 then jf a else if lX a≠0 then lX a else if rz a then 12 else 0
noncomputable def JO(a:fE):Int:=match a.aL.findSome? uF with|some e=>e|none=>if jk a.dC≠0 then jk a.dC else DH a
noncomputable def ke(a:fE):Int:=if a.aL.length=0 then 9 else if 16<a.aL.length then 2 else JO a
def OJ(mz:List (List aA))(gY:List (List<|List aA)):Prop:=(∀s∈mz,(aU s).length<=2000)/\(eQ 0 gY).length<=2000
abbrev CX:=List (List aI)×List aI×List cP×List dV×List (List aA)×List aO×List (List Int)×List dL×List Int×List Int×List Int×List gM
def NB(a:fE)(x:Option CX×Int):Prop:=
 (ke a≠0/\x=(none,ke a))\/(ke a=0/\qz a/\¬rz a/\∃mz gY,wW a.aL a.aV a.aL.length mz gY/\
  ((¬OJ mz gY/\x=(none,2))\/(OJ mz gY/\∃r gs ofP ofB ry q9,HQ a.aV a.bN (eQ 0 gY) r gs ofP ofB ry q9/\
   x=(some (a.aL,a.dC,a.aV,a.bN,mz,eQ 0 gY,pq a.aV (eQ 0 gY),gs,ofP,ofB,ry,q9),0))))
structure uG (a:fE):Prop where
 cs:a.aL.length<=1048576
 each:∀r∈a.aL,r.length<=1048576
 out:a.dC.length<=1048576
 bs:a.aV.length<=1048576
 ls:a.bN.length<=1048576
 nm:CR a
theorem GV{a:fE}(h:bk a<=1048576):uG a:=by
 rw[KT]at h;have h1:=yy a.aL;have h2:=yy a.dC;have h3:=yy a.aV;have h4:=yy a.bN;refine⟨by omega,λr hr=>?_,by omega,by omega,by omega,λx hx=>?_⟩
 ·have:=Hz hr;have:=yy r;omega
 ·have:=Hz hx;rw[Iz,KQ,KQ]at this;omega
theorem AO{a:fE}(hs:uG a)(hN:4398046511104<=N):Ok (iH N a) (NB a):=by
 unfold iH;have pe:∀e:Int,e≠0->ke a=e->Ok (some ((none:Option CX),e)) (NB a):=λe he h=>S9<|.inl ⟨by rw[h];exact he,by rw[h]⟩
 have c1:=hs.cs;refine Ty (λh=>?_)<|λh=>?_
 ·have:a.aL.length=0:=by have:=beq_iff_eq.1 h;omega
  exact pe 9 (by omega) (by unfold ke;rw[aC this])
 have h0:¬a.aL.length=0:=by rw[beq_eq_false_iff_ne]at h;omega
 refine Ty (λh=>?_)<|λh=>?_
 ·have h1:16<a.aL.length:=by have:=of_decide_eq_true h;omega
  exact pe 2 (by omega) (by unfold ke;rw[aD h0,aC h1])
 have h1:¬16<a.aL.length:=by have:=of_decide_eq_false h;omega
 have pe1:ke a=JO a:=by unfold ke;rw[aD h0,aD h1]
 have hso:=hs.out;have sumle:∀k,k<=a.aL.length->((a.aL.take k).map List.length).sum<=k*1048576:=by
  intro k
  induction k with
  |zero=>intro _;simp
  |succ k ih=>
   intro hk;have:=ih (by omega);have h2:=hs.each _<|dH (show k<a.aL.length by omega)
   rw[fJ (by omega),fu,List.sum_append];simp only[eB,List.map_nil,List.sum_cons,List.sum_nil];rw[Nat.add_mul];omega
 refine Td (UZ (Go:=λs:Int=>s=((a.dC.length+(a.aL.map List.length).sum:Nat):Int)/\∀r∈a.aL,jk r=0) (Rt:=λx:Option CX×Int=>∃e,e≠0/\x=(none,e)/\a.aL.findSome? uF=some e)
  (λ(k:Nat)(s:Int)=>s=((a.dC.length+((a.aL.take k).map List.length).sum:Nat):Int)/\∀r∈a.aL.take k,jk r=0) (by omega) ⟨by simp,λr hr=>by simp at hr⟩ (λk s hk hI=>?_) (λs hI=>by rw[gj]at hI;exact hI)) ?_
 ·obtain⟨e,hI⟩:=hI;subst e;have hkx:a.aL[k]? =some a.aL[k]:=aS hk;have hts:a.aL.take (k+1)=a.aL.take k++[a.aL[k]]:=fJ hk;have he:=hs.each _<|dH hk
  refine Ti hkx<|SZ (wU (by omega) hN) ?_
  refine Ty (λh=>T8 ?_)<|λh=>Tv ?_
  ·have h:jk a.aL[k]≠0:=by simpa using h
   refine⟨_,h,rfl,?_⟩;rw[List.findSome?_eq_some_iff];refine⟨a.aL.take k,a.aL[k],a.aL.drop<|k+1,?_,by unfold uF;rw[aC h],λr hr=>by unfold uF;rw[aD (by simpa using hI r hr)]⟩;rw[<-tj hk,List.take_append_drop]
  ·have h:jk a.aL[k]=0:=by simpa using h
   have:=sumle k (by omega);have hk16:k*1048576<=16*1048576:=Nat.mul_le_mul_right _ (by omega);refine⟨?_,λr hr=>?_⟩
   ·rw[wrap_add (by omega),hts,fu,List.sum_append];simp only[eB,List.map_nil,List.sum_cons,List.sum_nil];congr 1;omega
   ·rw[hts]at hr
    rcases dS.1 hr with hr|hr
    ·exact hI r hr
    ·simp at hr;subst hr;exact h
 intro o ho;refine TG ho ?_ ?_
 rotate_left
 ·rintro x⟨e,he,rfl,hf⟩;exact pe e he (by rw[pe1];unfold JO;rw[hf])
 rintro s⟨rfl,hreg⟩;have Q3:a.aL.findSome? uF=none:=List.findSome?_eq_none_iff.2 λr hr=>by unfold uF;rw[aD (by simpa using hreg r hr)]
 have pe2:ke a=if jk a.dC≠0 then jk a.dC else DH a:=by rw[pe1];unfold JO;rw[Q3]
 refine SZ (wU (by omega) hN) ?_;refine Ty (λh=>?_)<|λh=>?_
 ·have h:jk a.dC≠0:=by simpa using h
  exact pe _ h (by rw[pe2,aC h])
 have hout:jk a.dC=0:=by simpa using h
 have pe3:ke a=DH a:=by rw[pe2,aD (by simpa using hout)]
 refine Ty (λh=>?_)<|λh=>?_
 ·have h:2000<a.dC.length+(a.aL.map List.length).sum:=by have:=of_decide_eq_true h;omega
  exact pe 2 (by omega) (by rw[pe3];unfold DH;rw[aC h])
 have hmany:¬2000<a.dC.length+(a.aL.map List.length).sum:=by have:=of_decide_eq_false h;omega
 have hbs:=hs.bs;have hls:=hs.ls;refine SZ (DA (by omega) (by omega) (by omega)) ?_;refine Ty (λh=>?_)<|λh=>?_
 ·have h:jf a≠0:=by simpa using h
  exact pe _ h (by rw[pe3];unfold DH;rw[aD hmany,aC h])
 have hbo:jf a=0:=by simpa using h
 refine SZ (DB (by omega) (by omega) hs.nm (by omega)) ?_;refine Ty (λh=>?_)<|λh=>?_
 ·have h:lX a≠0:=by simpa using h
  exact pe _ h (by rw[pe3];unfold DH;rw[aD hmany,aD (by simpa using hbo),aC h])
 have hla:lX a=0:=by simpa using h
 have hg:qz a:=⟨by omega,hreg,hout,by omega,hbo,hla⟩;have pe4:ke a=if rz a then 12 else 0:=by rw[pe3];unfold DH;rw[aD hmany,aD (by simpa using hbo),aD (by simpa using hla)]
 refine Td (UZ (Go:=λ_:Unit=>¬rz a) (Rt:=λx:Option CX×Int=>x=(none,12)/\rz a)
  (λ(k:Nat)(_:Unit)=>∀(i j:Nat)(x y:cP),i<k->j<i->a.aV[i]? =some x->a.aV[j]? =some y->¬sQ x y=true) (by omega) (λi j x y h=>by omega) (λk s hk hI=>?_) (λs hI=>?_)) ?_
 ·have hkx:a.aV[k]? =some a.aV[k]:=aS hk;refine Ti hkx<|SZ (t9 _ k (by omega)) ?_
  have hgk:=hg.gb.ok _<|dH hk
  refine Td (UZ (Go:=λ_:Unit=>∀(j:Nat)(y:cP),j<k->a.aV[j]? =some y->¬sQ a.aV[k] y=true) (Rt:=λx:Option CX×Int=>x=(none,12)/\rz a)
   (λ(t:Nat)(_:Unit)=>∀(j:Nat)(y:cP),j<t->a.aV[j]? =some y->¬sQ a.aV[k] y=true) (by rw[cW];omega) (λj y h=>by omega) (λt s ht hI2=>?_) (λs hI2 j y hj hy=>hI2 j y (by rw[cW];omega) hy)) ?_
  ·have htk:t<k:=by rw[cW]at ht;omega
   have htx:(a.aV.take k)[t]? =some a.aV[t]:=by rw[List.getElem?_take_of_lt htk];exact aS (by omega)
   have hgt:=hg.gb.ok _<|dH (show t<a.aV.length by omega)
   refine Ti htx ?_;refine SZ (x:=sQ a.aV[k] a.aV[t]) ?_ ?_
   ·unfold sQ
    cases hc:(decide (a.aV[k].cR<=a.aV[t].To)&&decide (a.aV[t].cR<=a.aV[k].To))with
    |false=>rfl
    |true=>
     obtain⟨n,n1,n2⟩:=Ou (N:=N) hgk.2 hgt.2;rw[aQ,nG hgk.1,aB,nG hgt.1,aB,n1,aB,Bool.true_and];congr 1;rw[eN,beq_iff_eq];exact n2
   ·refine Ty (λh=>T8 ⟨rfl,k,t,_,_,htk,hkx,aS (by omega),h⟩)<|λh=>Tv λj y hj hy=>?_
    by_cases e:j<t
    ·exact hI2 j y e hy
    ·have:j=t:=by omega
     subst this;rw[aS (by omega)]at hy;injection hy with hy
     rw[<-hy,h];simp
  ·intro o ho;refine TG ho (λs hI2=>Tv λi j x y hi hj hx hy=>?_)<|λx hx=>T8 hx
   by_cases e:i<k
   ·exact hI i j x y e hj hx hy
   ·have:i=k:=by omega
    subst this;rw[hkx]at hx;injection hx with hx
    rw[<-hx];exact hI2 j y hj hy
 ·rintro⟨i,j,x,y,hj,hx,hy,hc⟩;exact hI i j x y (bE.1 hx).1 hj hx hy hc
 intro o ho;refine TG ho ?_ ?_
 rotate_left
 ·rintro x⟨rfl,hc⟩;exact pe 12 (by omega) (by rw[pe4,aC hc])
 intro _ hncl;have pe5:ke a=0:=by rw[pe4,aD hncl]
 refine Td (HM (N:=N) (by omega) hg.cs hg.gb hN) ?_;rintro⟨okk,mz,pcs⟩⟨gY,D,e1,e2⟩;dsimp only at D e1 e2 ⊢;subst e1;refine Ty (λh=>S9<|.inr ⟨pe5,hg,hncl,mz,gY,D, .inl ⟨λhf=>?_,rfl⟩⟩)<|λh=>?_
 ·have:=e2.2 hf;rw[this]at h;cases h
 ·have hf:OJ mz gY:=e2.1 (by cases okk <;> simp_all);have hpr:∀p∈eQ 0 gY,p.ri.length<=1073741824:=λp hp=>by
   obtain⟨i,r,s,ps,u,j,k,hP⟩:=Lg hg D hp;have:=(hP.GN hg).2.2;omega
  have hf2:=hf.2;refine SZ (K9 hg.gb (by omega) hpr) ?_;refine Td (E9 (N:=N) hg.gb (by omega) hpr (by omega) hN) ?_;rintro⟨gs,ofP,ofB,ry,q9⟩⟨r,hC⟩;exact S9<|.inr ⟨pe5,hg,hncl,mz,gY,D, .inr ⟨hf,r,gs,ofP,ofB,ry,q9,hC,rfl⟩⟩
end
section
variable {N:Nat}
theorem IP{w:Nat}{g:Nat->Nat}{a:Nat}:∀{ks:List Nat},ks.Nodup->a∈ks->(ks.map<|λk=>(if a=k then w else 0)+g k).sum=w+(ks.map g).sum
 | [],_,h=>by cases h
 |k::ks,hn,h=>by
  have hn':=List.nodup_cons.1 hn;simp only[eB,List.sum_cons]
  by_cases e:a=k
  ·subst e;rw[aC rfl];have:ks.map (λk=>(if a=k then w else 0)+g k)=ks.map g:=List.map_congr_left λx hx=>by
    rw[aD<|λe=>hn'.1 (by rw[e];exact hx),iT]
   rw[this];omega
  ·rw[aD e,IP hn'.2 (by rcases dO.1 h with h|h;exact absurd h e;exact h)];omega
theorem GW{α:Type}{ks:List Nat}(hn:ks.Nodup)(f w:α->Nat):∀{l:List α},(∀x∈l,f x∈ks)->(ks.map<|λk=>((l.filter<|λx=>decide<|f x=k).map w).sum).sum=(l.map w).sum
 | [],_=>by
  have:∀ks:List Nat,(ks.map<|λ_=>0).sum=0:=λks=>by
   induction ks with
   |nil=>rfl
   |cons k ks ih=>simp only[eB,List.sum_cons,ih]
  simpa using this ks
 |x::l,h=>by
  have ih:=GW hn f w (l:=l) λy hy=>h y<|iv _ hy
  have:ks.map (λk=>(((x::l).filter<|λx=>decide<|f x=k).map w).sum)=ks.map (λk=>(if f x=k then w x else 0)+((l.filter<|λx=>decide<|f x=k).map w).sum):=List.map_congr_left λk _=>by
   rw[List.filter_cons]
   by_cases e:f x=k
   ·rw[aC (by simpa using e),aC e,eB,List.sum_cons]
   ·rw[aD (by simpa using e),aD e,iT]
  rw[this,IP hn<|h x (by simp),ih,eB,List.sum_cons]
def IQ(s:List aA):bL:=match s with|b::_=>⟨b.Xs.headD 0,b.Y0⟩| []=>⟨0,0⟩
theorem zY.ne{a:fE}{mz:List (List aA)}{gY:List (List<|List aA)}{p:aO}{i:Nat}{r:List aI}{s:List aA}{ps:List (List aA)}{u:Nat->Nat}{j k:Nat}(h:zY a mz gY p i r s ps u j k):p.Set≠[]:=by
 intro e;have hh:=jT.1<|fK h.head
 have hx:(aU s)[k]? =some (aU s)[k]:=aS hh.1;have hm:(aU s)[k]∈oe (aU s) (aU s).length u k:=mx.2 ⟨k,hh.1,hh.2,hx⟩;obtain⟨b,hb,q,hq,hr⟩:=r9<|fK hx
 have hbm:cG b∈s.map cG:=dK.2 ⟨b,hb,rfl⟩;have hq1:=HE (h.dr.can.each _ hbm).2.2.1 q hq;have hb1:=(h.dr.can.each _ hbm).1;have hc:=h.set.cover q.1 b.Y0;rw[e]at hc;have:vW (oe (aU s) (aU s).length u k) q.1 b.Y0=true:=jE.2 ⟨_,hm,by rw[hr];exact⟨⟨Int.le_refl _,hq1⟩,Int.le_refl _,hb1⟩⟩;rw[this]at hc
 cases hc
structure w3 (a:fE) (mz:List (List aA)) (gY:List (List (List aA))) (r:Nat->Nat) (gs:List dL) (ofP ofB ry:List Int) (q9:List gM):Prop where
 QU:qz a
 SY:¬rz a
 dr:wW a.aL a.aV a.aL.length mz gY
 CU:OJ mz gY
 QV:HQ a.aV a.bN (eQ 0 gY) r gs ofP ofB ry q9
inductive Ov (N:Nat) (a:fE):Prop
 |err (e:Int) (he:e≠0) (h:iH N a=some (none,e))
 |ok {mz:List (List aA)} {gY:List (List (List aA))} {r:Nat->Nat} {gs:List dL} {ofP ofB ry:List Int} {q9:List gM} (b:w3 a mz gY r gs ofP ofB ry q9)
  (h:iH N a=some (some (a.aL,a.dC,a.aV,a.bN,mz,eQ 0 gY,pq a.aV<|eQ 0 gY,gs,ofP,ofB,ry,q9),0))
theorem opened{a:fE}(hs:uG a)(hN:4398046511104<=N):Ov N a:=by
 obtain⟨x,hx,hI⟩:=AO (N:=N) hs hN
 rcases hI with⟨he,rfl⟩|⟨_,hg,hcl,mz,gY,D,⟨_,rfl⟩|⟨hf,r,gs,ofP,ofB,ry,q9,hC,rfl⟩⟩
 ·exact .err _ he hx
 ·exact .err 2 (by omega) hx
 ·exact .ok ⟨hg,hcl,D,hf,hC⟩ hx
end
section
variable {S R:Type}
theorem T2{body:S->Option (Fl S R)}{N n:Nat}{s:S}(ι:S->Int)(Inv:Nat->S->Prop){Go:S->Prop}{Rt:R->Prop}
  (h1:∀k s,k<n->ι s=((k:Nat):Int)->Inv k s->Ok (body s) (LF (λs'=>ι s'=((k+1:Nat):Int)/\Inv (k+1) s') Go Rt))
  (h2:∀s,ι s=((n:Nat):Int)->Inv n s->Ok (body s) (LF (λ_=>False) Go Rt))
  {k0:Nat} (hk:k0<=n) (hi:ι s=((k0:Nat):Int)) (h0:Inv k0 s) (hn:n<N):Ok (Gk.kp body N s) (QK Go Rt):=by
 refine Ua (λs=>∃k:Nat,k<=n/\ι s=((k:Nat):Int)/\Inv k s) (λs=>n -(ι s).toNat) ?_ ⟨k0,hk,hi,h0⟩ (by omega);rintro s⟨k,hk,e,hI⟩
 by_cases hlt:k<n
 ·refine(h1 k s hlt e hI).mono ?_;rintro(s'|s'|r)hp
  ·have hp1:ι s'=((k+1:Nat):Int):=hp.1;exact⟨⟨k+1,hlt,hp.1,hp.2⟩,by rw[e,hp1];simp only[cN];omega⟩
  ·exact hp
  ·exact hp
 ·have:k=n:=by omega
  subst this;refine(h2 s e hI).mono ?_;rintro(s'|s'|r)hp
  ·exact hp.elim
  ·exact hp
  ·exact hp
theorem oF{k n:Nat}(h:k<n):decide (((k:Nat):Int)<((n:Nat):Int))=true:=bM (by omega)
theorem rU(n:Nat):decide (((n:Nat):Int)<((n:Nat):Int))=false:=bP (by omega)
theorem Bh{k n:Nat}(h:n<=k):decide (((k:Nat):Int)<((n:Nat):Int))=false:=bP (by omega)
end
theorem vl{α:Type}{p:α->Bool}:∀{l:List α}{k:Nat},(∀(j:Nat)x,j<k->l[j]? =some x->p x=true)->(∀x,l[k]? =some x->p x=false)->l.takeWhile p=l.take k/\l.dropWhile p=l.drop k
 | [],k,_,_=>by simp
 |y::l,0,_,h2=>by
  have:=h2 y rfl;rw[List.takeWhile_cons,List.dropWhile_cons,this];simp
 |y::l,k+1,h1,h2=>by
  have h:=h1 0 y (by omega) rfl;obtain⟨e1,e2⟩:=vl (l:=l) (k:=k) (λj x hj hx=>h1 (j+1) x (by omega) hx)<|λx hx=>h2 x hx
  rw[List.takeWhile_cons,List.dropWhile_cons,h,aC rfl,aC rfl,e1,e2];simp
section
variable {N:Nat}
def vm(l:List Int)(c:Int):List Int:=if c∈l then l else l.takeWhile (λx=>decide<|x<c)++c::l.dropWhile (λx=>decide<|x<c)
theorem z5(l:List Int)(c:Int):(vm l c).length<=l.length+1:=by
 unfold vm;split
 ·omega
 ·have:(l.takeWhile<|λx=>decide<|x<c).length+(l.dropWhile<|λx=>decide<|x<c).length=l.length:=by rw[<-dG,List.takeWhile_append_dropWhile]
  rw[dG,eM];omega
theorem Lh{l:List Int}{c x:Int}:x∈vm l c↔x∈l\/x=c:=by
 unfold vm;split
 ·rename_i h;exact⟨.inl,λh'=>h'.elim id λe=>e▸h⟩
 ·have:x∈l↔x∈l.takeWhile (λx=>decide<|x<c)\/x∈l.dropWhile (λx=>decide<|x<c):=by rw[<-dS,List.takeWhile_append_dropWhile]
  rw[dS,dO,this];constructor
  ·rintro(h|h|h)
   ·exact .inl<|.inl h
   ·exact .inr h
   ·exact .inl<|.inr h
  ·rintro((h|h)|h)
   ·exact .inl h
   ·exact .inr<|.inr h
   ·exact .inr<|.inl h
theorem IU{l:List Int}(h:kb l)(c:Int):∀x∈l.dropWhile (λx=>decide<|x<c),c<=x:=by
 induction l with
 |nil=>intro x hx;cases hx
 |cons a l ih=>
  rw[List.dropWhile_cons]
  by_cases ha:a<c
  ·rw[aC (by simpa using ha)];exact ih h.tail
  ·rw[aD (by simpa using ha)];intro x hx
   rcases dO.1 hx with rfl|hx
   ·omega
   ·have:=h.head x hx;omega
theorem Ms(l:List Int)(c:Int):∀x∈l.takeWhile (λx=>decide<|x<c),x<c:=by
 induction l with
 |nil=>intro x hx;cases hx
 |cons a l ih=>
  rw[List.takeWhile_cons]
  by_cases ha:a<c
  ·rw[aC (by simpa using ha)];intro x hx
   rcases dO.1 hx with rfl|hx
   ·exact ha
   ·exact ih x hx
  ·rw[aD (by simpa using ha)];intro x hx;cases hx
theorem z6{l:List Int}{c:Int}(h:kb l):kb (vm l c):=by
 unfold vm;split
 ·exact h
 ·rename_i hc;have hs:=h;rw[<-List.takeWhile_append_dropWhile (p:=λx=>decide<|x<c) (l:=l)]at hs;unfold kb at hs ⊢;rw[nL]at hs ⊢;refine⟨hs.1,oI.2 ⟨λx hx=>?_,hs.2.1⟩,λx hx y hy=>?_⟩
  ·have h1:=IU h c x hx;have h2:x≠c:=λe=>hc (by rw[<-e,<-List.takeWhile_append_dropWhile (p:=λx=>decide<|x<c) (l:=l)];exact List.mem_append_right _ hx);omega
  ·have h1:=Ms l c x hx
   rcases dO.1 hy with rfl|hy
   ·exact h1
   ·have:=IU h c y hy;omega
def kU(l:List Int):List Int:=l.foldl vm []
theorem vn:∀(cs l:List Int),kb l->kb (cs.foldl vm l)/\(∀x,x∈cs.foldl vm l↔x∈l\/x∈cs)/\(cs.foldl vm l).length<=l.length+cs.length
 | [],l,h=>⟨h,λx=>by simp,by simp⟩
 |c::cs,l,h=>by
  obtain⟨h1,h2,h3⟩:=vn cs (vm l c)<|z6 h
  refine⟨h1,λx=>?_,?_⟩
  ·rw[List.foldl_cons,h2,Lh,dO,or_assoc]
  ·rw[List.foldl_cons,eM];have:=z5 l c;omega
theorem nZ(l:List Int):kb (kU l):=(vn l [] kO).1
theorem AP{l:List Int}{x:Int}:x∈kU l↔x∈l:=by
 have:=(vn l [] kO).2.1 x;unfold kU;rw[this];simp
theorem uH(l:List Int):(kU l).length<=l.length:=by
 have:=(vn l [] kO).2.2;unfold kU;simpa using this
theorem w4(l:List Int)(c d:Int):kU (l++[c,d])=vm (vm (kU l) c) d:=by unfold kU;rw[List.foldl_append];rfl
theorem HR{a b:Nat}(h:a+b<=4611686018427387904):wrap .i64 (Int.tdiv (wrap .i64<|((a:Nat):Int)+((b:Nat):Int)) 2)=(((a+b) / 2:Nat):Int):=by
 rw[wrap_add h,Int.tdiv_eq_ediv_of_nonneg (by omega),eY (by omega) (by omega)];omega
theorem xG{l:List Int}{c:Int}(h:kb l)(hl:l.length<=1099511627776)(hN:4398046511104<=N):fQ N l c=some (vm l c):=by
 refine T3 ?_;unfold fQ
 refine Td (Ua (Go:=λst:Int×Int=>∃a:Nat,st.1=((a:Nat):Int)/\a<=l.length/\(∀(j:Nat)x,j<a->l[j]? =some x->x<c)/\(∀(j:Nat)x,a<=j->l[j]? =some x->c<=x)) (Rt:=λ_=>True)
  (λst=>∃a b:Nat,st=(((a:Nat):Int),((b:Nat):Int))/\a<=b/\b<=l.length/\(∀(j:Nat)x,j<a->l[j]? =some x->x<c)/\(∀(j:Nat)x,b<=j->l[j]? =some x->c<=x))
  (λst=>(st.2 - st.1).toNat) ?_ ⟨0,l.length,rfl,by omega,bV _,λj x hj=>by omega,λj x hj hx=>by have:=(bE.1 hx).1;omega⟩ (by simp only;omega)) ?_
 ·rintro st⟨a,b,rfl,hab,hb,h1,h2⟩;dsimp only
  by_cases hlt:a<b
  ·have hm:(a+b) / 2<l.length:=by omega
   have hx:l[(a+b) / 2]? =some l[(a+b) / 2]:=aS hm;rw[oF hlt,aQ,HR (by omega)];refine Ti hx ?_
   by_cases hc:l[(a+b) / 2]<c
   ·rw[bM hc,aQ,aB];refine Tv ⟨⟨(a+b) / 2+1,b,?_,by omega,hb,λj x hj hx'=>?_,h2⟩,?_⟩
    ·rw[bZ (by omega)]
    ·by_cases e:j=(a+b) / 2
     ·subst e;rw[hx]at hx';injection hx' with hx';omega
     ·have:=h.lt (i:=j) (j:=(a+b) / 2) (by omega) hx' hx;omega
    ·rw[bZ (by omega)];simp only;omega
   ·rw[bP hc,aT,aB];refine Tv ⟨⟨a,(a+b) / 2,rfl,by omega,by omega,h1,λj x hj hx'=>?_⟩,by simp only;omega⟩
    by_cases e:j=(a+b) / 2
    ·subst e;rw[hx]at hx';injection hx' with hx';omega
    ·have:=h.lt (i:=(a+b) / 2) (j:=j) (by omega) hx hx';omega
  ·rw[Bh (by omega),aT];exact TE ⟨a,rfl,by omega,h1,λj x hj hx=>h2 j x (by omega) hx⟩
 intro o ho;refine TG ho ?_<|λr hr=>r.elim
 rintro⟨st1,st2⟩⟨a,ha,hle,h1,h2⟩;dsimp only at ha ⊢;subst ha;have hin:l[a]? =some c->vm l c=l:=λhx=>by unfold vm;rw[aC<|fK hx]
 have hout:l[a]? ≠some c->vm l c=l.take a++c::l.drop a:=λhx=>by
  have hc:c∉l:=λhc=>by
   obtain⟨j,hj⟩:=eX hc
   by_cases h3:j<a
   ·have:=h1 j c h3 hj;omega
   ·by_cases e:j=a
    ·subst e;exact hx hj
    ·have h5:a<l.length:=by have:=(bE.1 hj).1;omega
     have h6:l[a]? =some l[a]:=aS h5;have h7:=h.lt (i:=a) (j:=j) (by omega) h6 hj;have h8:=h2 a _ (bV _) h6;omega
  unfold vm;rw[aD hc];obtain⟨e1,e2⟩:=vl (p:=λx=>decide<|x<c) (l:=l) (k:=a) (λj x hj hx'=>bM<|h1 j x hj hx')<|λx hx'=>bP (by have:=h2 a x (bV _) hx';omega)
  rw[e1,e2]
 have hrest:l[a]? ≠some c->Ok ((vF l 0 ((a:Nat):Int)).bind λx49=>(app 8 ([]:List Int) x49).bind λx51=>(app 8 x51 ([c]:List Int)).bind λx54=>(vF l ((a:Nat):Int) ((l.length:Nat):Int)).bind λx56=>(app 8 x54 x56).bind λx58=>some x58) (λr=>r=vm l c):=λhx=>by
  have htk:(l.take a).length=a:=by rw[cW];omega
  refine SZ (t9 l a hle)<|TW (by simp only[List.length_nil];omega)<|TW (by rw[List.nil_append];simp only[eM,List.length_nil];omega)<|SZ (sA l a hle)<|TW ?_<|S9 ?_
  ·rw[List.nil_append,dG,gO];simp only[eM,List.length_nil];omega
  ·rw[hout hx];simp
 by_cases hlt:a<l.length
 ·have hx:l[a]? =some l[a]:=aS hlt;rw[oF hlt,aQ,eD hx,aB,aB];refine Ty (λhb=>S9 ?_)<|λhb=>hrest ?_
  ·rw[beq_iff_eq]at hb;rw[hin (by rw[hx,hb])]
  ·rw[beq_eq_false_iff_ne]at hb;rw[hx];intro e;injection e with e;exact hb e
 ·rw[Bh (by omega),aT,aB,aT];exact hrest (by rw[List.getElem?_eq_none (by omega)];intro e;cases e)
theorem GX(l m:List aI):jF (l++m)=jF l++jF m:=List.flatMap_append
theorem CY{l:List aI}(hl:l.length<=268435456)(hN:4398046511104<=N):ij N l=some (kU<|jF l):=by
 refine T3 ?_;unfold ij;refine Td (T2 (n:=l.length) (λs=>s.2) (λk s=>s.1=kU (jF<|l.take k)) (Go:=λs=>s.1=kU (jF l)) (Rt:=λ_=>False) ?_ ?_ (eH _) rfl rfl (by omega)) ?_
 ·rintro k⟨out,i⟩hk e hI;dsimp only at e hI ⊢;subst e;subst hI;rw[oF hk,aQ];have hx:l[k]? =some l[k]:=aS hk;have h1:=uH<|jF<|l.take k
  rw[jM,cW]at h1;have h2:=z5 (kU<|jF<|l.take k) l[k].Y0;refine Ti hx<|Ti hx<|SZ (xG (nZ _) (by omega) hN)<|SZ (xG (z6<|nZ _) (by omega) hN)<|Tv ⟨bZ (by omega),?_⟩
  rw[fJ hk,GX];exact(w4 _ _ _).symm
 ·rintro⟨out,i⟩e hI;dsimp only at e hI ⊢;subst e;rw[rU,aT];exact TE (by rw[gj]at hI;exact hI)
 intro o ho;exact TG ho (λs hs=>S9 hs)<|λr hr=>hr.elim
def sp(s:aH):Int×Int:=(s.from_,s.to)
theorem Li:∀{l m:List aH},l.map sp=m.map sp->l=m
 | [],[],_=>rfl
 | [],_::_,h=>by cases h
 |_::_,[],h=>by cases h
 |⟨a,b⟩::l,⟨c,d⟩::m,h=>by
  rw[eB,eB]at h;injection h with h1 h2
  unfold sp at h1;injection h1 with h3 h4
  simp only at h3 h4;rw[h3,h4,Li h2]
theorem tC(a b:Int):(if b<a then b else a)=min a b:=by split <;> omega
theorem pM(a b:Int):(if a<b then b else a)=max a b:=by split <;> omega
theorem Ec{l:List aH}{s:aH}(hl:l.length<=268435456)(hN:4398046511104<=N):Ok (iJ N l s) (λr=>r.map sp=mg (l.map sp) (sp s)):=by
 unfold iJ;have hget:∀(j:Nat)(x:Int×Int),(l.map sp)[j]? =some x->∃y,l[j]? =some y/\x=sp y:=λj x h=>by
  rw[iZ]at h
  cases hy:l[j]? with
  |none=>rw[hy]at h;cases h
  |some y=>rw[hy]at h;injection h with h;exact⟨y,rfl,h.symm⟩
 refine Td (Ua (Go:=λst:List aH×Int=>∃k:Nat,st=(l.take k,((k:Nat):Int))/\k<=l.length/\(∀(j:Nat)x,j<k->l[j]? =some x->x.to<s.from_)/\(∀x,l[k]? =some x->¬x.to<s.from_)) (Rt:=λ_=>False)
  (λst=>∃k:Nat,st=(l.take k,((k:Nat):Int))/\k<=l.length/\∀(j:Nat)x,j<k->l[j]? =some x->x.to<s.from_) (λst=>l.length - st.2.toNat) ?_ ⟨0,by simp,by omega,λj x hj=>by omega⟩ (by simp;omega)) ?_
 ·rintro st⟨k,rfl,hk,hI⟩;dsimp only
  by_cases hlt:k<l.length
  ·have hx:l[k]? =some l[k]:=aS hlt;rw[oF hlt,aQ,eD hx,aB,aB];refine Ty (λhb=>?_)<|λhb=>?_
   ·have hb:=of_decide_eq_true hb;refine SZ rfl<|TW ?_<|Tv ⟨⟨k+1,?_,hlt,?_⟩,?_⟩
    ·rw[cW];simp only[eM,List.length_nil];omega
    ·rw[bZ (by omega),fJ hlt]
    ·intro j x hj hx'
     by_cases e:j=k
     ·subst e;rw[hx]at hx';injection hx' with hx';rw[<-hx'];exact hb
     ·exact hI j x (by omega) hx'
    ·rw[bZ (by omega)];simp only[cN];omega
   ·have hb:=of_decide_eq_false hb;exact TE ⟨k,rfl,hk,hI,λx hx'=>by rw[hx]at hx';injection hx' with hx';rw[<-hx'];exact hb⟩
  ·rw[Bh (by omega),aT,aB,aT];exact TE ⟨k,rfl,hk,hI,λx hx'=>by have:=(bE.1 hx').1;omega⟩
 intro o ho;refine TG ho ?_<|λr hr=>hr.elim
 rintro st⟨k,rfl,hk,hI,hE⟩;dsimp only
 obtain⟨e1,e2⟩:=vl (p:=λa:Int×Int=>decide (a.2<(sp s).1)) (l:=l.map sp) (k:=k) (λj x hj hx=>by
  obtain⟨y,hy,rfl⟩:=hget j x hx
  exact bM (hI j y hj hy)) (λx hx=>by
  obtain⟨y,hy,rfl⟩:=hget k x hx
  exact bP (hE y hy))
 refine Td (Ua (Go:=λst:aH×Int=>∃i:Nat,st.2=((i:Nat):Int)/\i<=l.length/\kX (sp s) ((l.drop k).map sp)=(sp st.1,(l.drop i).map sp)) (Rt:=λ_=>False)
  (λst=>∃i:Nat,st.2=((i:Nat):Int)/\i<=l.length/\kX (sp s) ((l.drop k).map sp)=kX (sp st.1) ((l.drop i).map sp)) (λst=>l.length - st.2.toNat) ?_ ⟨k,rfl,hk,rfl⟩ (by simp only[cN];omega)) ?_
 ·rintro⟨s',i'⟩⟨i,e,hi,hm⟩;dsimp only at e hm ⊢;subst e
  by_cases hlt:i<l.length
  ·have hx:l[i]? =some l[i]:=aS hlt;have hd:(l.drop i).map sp=sp l[i]::(l.drop<|i+1).map sp:=by rw[tj hlt,eB]
   rw[oF hlt,aQ,eD hx,aB,aB];refine Ty (λhb=>?_)<|λhb=>?_
   ·have hb:=of_decide_eq_true hb;refine SZ rfl<|SZ rfl<|Tv ⟨⟨i+1,bZ (by omega),hlt,?_⟩,?_⟩
    ·rw[hm,hd]
     conv=>lhs;unfold kX
     rw[aC (show(sp l[i]).1<=(sp s').2 from hb),tC,pM];rfl
    ·dsimp only;rw[bZ (by omega)];simp only[cN];omega
   ·have hb:=of_decide_eq_false hb;refine TE ⟨i,rfl,hi,?_⟩;rw[hm,hd]
    conv=>lhs;unfold kX
    rw[aD (show ¬(sp l[i]).1<=(sp s').2 from hb)]
  ·rw[Bh (by omega),aT,aB,aT];refine TE ⟨i,rfl,hi,?_⟩;rw[hm,List.drop_eq_nil_of_le (by omega)];rfl
 intro o ho;refine TG ho ?_<|λr hr=>hr.elim
 rintro⟨s',i'⟩⟨i,e,hi,hm⟩;dsimp only at e hm ⊢;subst e;refine TW ?_<|SZ (sA l i hi)<|TW ?_<|S9 ?_
 ·rw[cW];simp only[eM,List.length_nil];omega
 ·rw[dG,cW,gO];simp only[eM,List.length_nil];omega
 ·unfold mg;rw[e1,e2,<-List.map_take,<-List.map_drop,hm];simp
theorem CZ:∀(l:List (Int×Int))(s:Int×Int),(kX s l).2.length<=l.length
 | [],s=>bV _
 |a::l,s=>by
  unfold kX;split
  ·have:=CZ l (min s.1 a.1,max s.2 a.2);rw[eM];omega
  ·exact bV _
theorem Bi(l:List (Int×Int))(s:Int×Int):(mg l s).length<=l.length+1:=by
 unfold mg;have h1:=CZ (l.dropWhile λa=>decide<|a.2<s.1) s;have h2:(l.takeWhile<|λx=>decide<|x.2<s.1).length+(l.dropWhile<|λx=>decide<|x.2<s.1).length=l.length:=by rw[<-dG,List.takeWhile_append_dropWhile]
 rw[dG,eM];omega
def jV(y:Int)(out:List (Int×Int))(r:aI):List (Int×Int):=if r.Y0<=y/\y<r.Y1 then mg out (r.X0,r.X1)else out
def ly(l:List aI)(y:Int):List (Int×Int):=l.foldl (jV y) []
theorem JP(l:List aI)(r:aI)(y:Int):ly (l++[r]) y=jV y (ly l y) r:=by unfold ly;rw[List.foldl_append];rfl
theorem Bj(y:Int):∀(l:List aI)(out:List (Int×Int)),(l.foldl (jV y) out).length<=out.length+l.length
 | [],out=>by simp
 |r::l,out=>by
  rw[List.foldl_cons,eM];have h1:=Bj y l<|jV y out r
  have h2:(jV y out r).length<=out.length+1:=by
   unfold jV;split
   ·exact Bi _ _
   ·omega
  omega
theorem uI(l:List aI)(y:Int):(ly l y).length<=l.length:=by
 have:=Bj y l [];unfold ly;simpa using this
theorem z7(y:Int):∀(l:List aI)(out:List (Int×Int)),(∀r∈l,r.X0<r.X1)->kb (dM out)->kb (dM<|l.foldl (jV y) out)/\∀x,jA (l.foldl (jV y) out) x=(jA out x||vW l x y)
 | [],out,_,h=>⟨h,λx=>by simp[vW]⟩
 |r::l,out,hr,h=>by
  have h0:=hr r (by simp);rw[List.foldl_cons];have hst:kb (dM<|jV y out r)/\∀x,jA (jV y out r) x=(jA out x||((decide (r.X0<=x)&&decide (x<r.X1))&&(decide (r.Y0<=y)&&decide (y<r.Y1)))):=by
   unfold jV
   by_cases hy:r.Y0<=y/\y<r.Y1
   ·rw[aC hy];obtain⟨j1,j2⟩:=zL (l:=out) (s:=(r.X0,r.X1)) h h0;refine⟨j1,λx=>?_⟩;rw[j2,bM hy.1,bM hy.2,Bool.or_comm];simp
   ·rw[aD hy];refine⟨h,λx=>?_⟩;have:(decide (r.Y0<=y)&&decide (y<r.Y1))=false:=by rw[Bool.and_eq_false_iff,decide_eq_false_iff_not,decide_eq_false_iff_not];omega
    rw[this];simp
  obtain⟨m1,m2⟩:=z7 y l (jV y out r) (λr' hr'=>hr r'<|iv _ hr') hst.1;refine⟨m1,λx=>?_⟩;rw[m2,hst.2,Bool.or_assoc];rfl
theorem xH{l:List aI}(h:∀r∈l,r.X0<r.X1)(y:Int):kb (dM<|ly l y)/\∀x,jA (ly l y) x=vW l x y:=by
 obtain⟨h1,h2⟩:=z7 y l [] h kO;exact⟨h1,λx=>by rw[show jA (ly l y) x=_ from h2 x,show jA [] x=false from rfl,Bool.false_or]⟩
theorem yd{y y':Int}:∀(l:List aI)(out:List (Int×Int)),(∀r∈l,(r.Y0<=y/\y<r.Y1)↔(r.Y0<=y'/\y'<r.Y1))->l.foldl (jV y) out=l.foldl (jV y') out
 | [],out,_=>rfl
 |r::l,out,h=>by
  rw[List.foldl_cons,List.foldl_cons,yd l _<|λr' hr'=>h r'<|iv _ hr'];congr 1;unfold jV;have:=h r (by simp)
  by_cases h1:r.Y0<=y/\y<r.Y1
  ·rw[aC h1,aC<|this.1 h1]
  ·rw[aD h1,aD<|λh2=>h1<|this.2 h2]
theorem HS{l:List aI}{y y':Int}(h:∀r∈l,(r.Y0<=y/\y<r.Y1)↔(r.Y0<=y'/\y'<r.Y1)):ly l y=ly l y':=yd l [] h
theorem Lj{l:List aI}{y:Int}(h:∀r∈l,¬(r.Y0<=y/\y<r.Y1)):ly l y= []:=by
 have:∀(l:List aI)(out:List (Int×Int)),(∀r∈l,¬(r.Y0<=y/\y<r.Y1))->l.foldl (jV y) out=out:=by
  intro l
  induction l with
  |nil=>intro out _;rfl
  |cons r l ih=>
   intro out h;rw[List.foldl_cons,ih _<|λr' hr'=>h r'<|iv _ hr'];unfold jV;rw[aD<|h r (by simp)]
 exact this l [] h
theorem HT{l:List aI}{y:Int}(hl:l.length<=134217728)(hN:4398046511104<=N):Ok (ja N l y) (λr=>r.map sp=ly l y):=by
 unfold ja;refine Td (T2 (n:=l.length) (λs=>s.2) (λk s=>s.1.map sp=ly (l.take k) y) (Go:=λs=>s.1.map sp=ly l y) (Rt:=λ_=>False) ?_ ?_ (eH _) rfl rfl (by omega)) ?_
 ·rintro k⟨out,i⟩hk e hI;dsimp only at e hI ⊢;subst e;rw[oF hk,aQ];have hx:l[k]? =some l[k]:=aS hk;have hlen:out.length<=l.length:=by
   have h1:=uI (l.take k) y;rw[<-hI,eL,cW]at h1;omega
  rw[eD hx,aB];have hst:ly (l.take<|k+1) y=jV y (ly (l.take k) y) l[k]:=by rw[fJ hk,JP]
  have hno:¬(l[k].Y0<=y/\y<l[k].Y1)->Ok ((some out).bind λs141=>some (Fl.nx (s141,wrap .i64<|((k:Nat):Int)+1):Fl (List aH×Int) Empty)) (LF (λs'=>s'.2=((k+1:Nat):Int)/\s'.1.map sp=ly (l.take<|k+1) y) (λs=>s.1.map sp=ly l y)<|λ_=>False):=λhy=>by
   rw[aB];refine Tv ⟨bZ (by omega),?_⟩;rw[hst];unfold jV;rw[aD hy];exact hI
  by_cases h1:l[k].Y0<=y
  ·rw[bM h1,aQ,aB,aB]
   by_cases h2:y<l[k].Y1
   ·rw[bM h2,aQ];refine Td (P:=λr:List aH=>r.map sp=ly (l.take<|k+1) y) (SZ rfl<|SZ rfl<|Td (Ec (by omega) hN)<|λr hr=>S9 ?_)<|λr hr=>Tv ⟨bZ (by omega),hr⟩
    rw[hr,hI,hst];unfold jV;rw[aC ⟨h1,h2⟩];rfl
   ·rw[bP h2,aT];exact hno<|λh=>h2 h.2
  ·rw[bP h1,aT,aB,aT];exact hno<|λh=>h1 h.1
 ·rintro⟨out,i⟩e hI;dsimp only at e hI ⊢;subst e;rw[rU,aT];exact TE (by rw[gj]at hI;exact hI)
 intro o ho;exact TG ho (λs hs=>S9 hs)<|λr hr=>hr.elim
theorem Ed{l:List aH}{x:Int}(hl:l.length<=1099511627776)(hN:4398046511104<=N):iM N l x=some (jA (l.map sp) x):=by
 refine T3 ?_;unfold iM;have hm:∀b:Bool,(jA (l.map sp) x=b↔(l.any λs=>decide (s.from_<=x)&&decide (x<s.to))=b):=λb=>by unfold jA;rw[List.any_map];rfl
 refine Td (T2 (n:=l.length) (λs=>s) (λk s=>∀(j:Nat)y,j<k->l[j]? =some y->¬(y.from_<=x/\x<y.to)) (Go:=λs=>jA (l.map sp) x=false) (Rt:=λr=>r=jA (l.map sp) x) ?_ ?_ (eH _) rfl (λj y hj=>by omega) (by omega)) ?_
 ·rintro k i hk e hI;subst e;rw[oF hk,aQ];have hx:l[k]? =some l[k]:=aS hk;rw[eD hx,aB]
  have hno:¬(l[k].from_<=x/\x<l[k].to)->Ok (some (Fl.nx (wrap .i64 (((k:Nat):Int)+1)):Fl Int Bool)) (LF (λs'=>s'=((k+1:Nat):Int)/\∀(j:Nat)y,j<k+1->l[j]? =some y->¬(y.from_<=x/\x<y.to)) (λs=>jA (l.map sp) x=false) (λr=>r=jA (l.map sp) x)):=λhy=>Tv ⟨bZ (by omega),λj y hj hjy=>by
   by_cases e:j=k
   ·subst e;rw[hx]at hjy;injection hjy with hjy;rw[<-hjy];exact hy
   ·exact hI j y (by omega) hjy⟩
  by_cases h1:l[k].from_<=x
  ·rw[bM h1,aQ,aB,aB]
   by_cases h2:x<l[k].to
   ·rw[bM h2,aQ];refine T8 ?_;symm;rw[hm,kg];exact⟨l[k],dH hk,by rw[bM h1,bM h2];rfl⟩
   ·rw[bP h2,aT];exact hno<|λh=>h2 h.2
  ·rw[bP h1,aT,aB,aT];exact hno<|λh=>h1 h.1
 ·rintro i e hI;subst e;rw[rU,aT];refine TE ?_;rw[hm,List.any_eq_false];intro y hy;obtain⟨j,hj⟩:=eX hy;have:=hI j y (bE.1 hj).1 hj;rw[lF,Bool.and_eq_false_iff,decide_eq_false_iff_not,decide_eq_false_iff_not];omega
 intro o ho;exact TG ho (λs hs=>S9 hs.symm)<|λr hr=>S9 hr
end
section
variable {α:Type}[DecidableEq α]{N:Nat}
def NC(N:Nat)(p0 p1:List α):Option Bool:=
 bif(p0.length:Int) != (p1.length:Int)then some false else((kp (λ(s32:Int)=>(bif decide (s32<(p0.length:Int))then((idx p0 s32).bind λx45=>(idx p1 s32).bind λx48=>bif(!(decide<|x45=x48))then some (.rt false)else some (.nx<|wrap .i64<|s32+1))else(some<|.br s32):Option (Fl Int Bool))) N 0).bind λo51=>o51.cs (λ(s32:Int)=>some true)<|λr=>some r)
theorem GY{l m:List α}(hl:l.length<=1099511627776)(hN:4398046511104<=N):NC N l m=some (decide<|l=m):=by
 refine T3 ?_;unfold NC
 by_cases he:l.length=m.length
 ·rw[show(((l.length:Nat):Int) != ((m.length:Nat):Int))=false by rw[he];simp,aT];refine Td (T2 (n:=l.length) (λs=>s) (λk s=>∀j,j<k->l[j]? =m[j]?) (Go:=λs=>l=m) (Rt:=λr=>r=false/\l≠m) ?_ ?_ (eH _) rfl (λj hj=>by omega) (by omega)) ?_
  ·rintro k i hk e hI;subst e;have hx:l[k]? =some l[k]:=aS hk;have hy:m[k]? =some (m[k]'(by omega)):=aS _;rw[oF hk,aQ];refine Ti hx<|Ti hy<|Ty (λhb=>T8 ⟨rfl,λe=>?_⟩)<|λhb=>Tv ⟨bZ (by omega),λj hj=>?_⟩
   ·have h1:some l[k]=some (m[k]'(by omega)):=hx.symm.trans<|(by rw[e]:l[k]? =m[k]?).trans hy
    injection h1 with h1
    rw[h1]at hb;simp at hb
   ·by_cases e:j=k
    ·subst e;rw[hx,hy];simpa using hb
    ·exact hI j (by omega)
  ·rintro i e hI;subst e;rw[rU,aT];refine TE<|List.ext_getElem? λj=>?_
   by_cases hj:j<l.length
   ·exact hI j hj
   ·rw[List.getElem?_eq_none (by omega),List.getElem?_eq_none (by omega)]
  intro o ho;exact TG ho (λs hs=>S9 (bM hs).symm)<|λr hr=>S9 (by rw[hr.1,bP hr.2])
 ·rw[show(((l.length:Nat):Int) != ((m.length:Nat):Int))=true by rw[bne_iff_ne];omega,aQ];exact S9 (bP λh=>he (by rw[h])).symm
end
section
variable {N:Nat}
theorem Fa{l m:List aI}(hl:l.length<=1099511627776)(hN:4398046511104<=N):jQ N l m=some (decide<|l=m):=GY hl hN
theorem Fb{l m:List aH}(hl:l.length<=1099511627776)(hN:4398046511104<=N):jP N l m=some (decide<|l=m):=GY hl hN
def tS(b:aM):Bd:=⟨b.from_,b.to,dM<|b.ji.map sp⟩
theorem JQ{l:List (Int×Int)}:dM l= []↔l= []:=by
 cases l with
 |nil=>exact⟨λ_=>rfl,λ_=>rfl⟩
 |cons s l=>exact⟨λh=>(by cases h),λh=>(by cases h)⟩
theorem JR{l m:List aH}:dM (l.map sp)=dM (m.map sp)↔l=m:=⟨λh=>Li<|D2 h,λh=>by rw[h]⟩
theorem HU{l:List aM}{b:aM}(hlt:b.from_<b.to)(hl:l.length<=1073741824)(hs:∀c∈l,c.ji.length<=1099511627776)(hN:4398046511104<=N):
  Ok (gm N l b) (λr=>r.map tS=jS (l.map tS) (tS b)):=by
 unfold gm jS
 by_cases h0:b.ji= []
 ·rw[show(((b.ji.length:Nat):Int)==0)=true by rw[h0];rfl,aQ,aC<|.inl (by unfold tS;rw[h0];rfl)];exact S9 rfl
 ·rw[show(((b.ji.length:Nat):Int)==0)=false by rw[beq_eq_false_iff_ne];intro h;exact h0<|List.eq_nil_of_length_eq_zero (by omega),aT];have hne:¬((tS b).xs= []\/(tS b).y1<=(tS b).y0):=by
   rintro(h|h)
   ·have h:=JQ.1 h;exact h0<|List.map_eq_nil_iff.1 h
   ·have h:b.to<=b.from_:=h;omega
  rw[aD hne]
  rcases List.eq_nil_or_concat l with rfl|⟨A,c,hA⟩
  ·rw[show decide (((([]:List aM).length:Nat):Int)>0)=false by decide,aT,aB,aT];exact TW (by simp)<|S9 rfl
  ·rw[List.concat_eq_append]at hA;subst hA;have hlen:(A++[c]).length=A.length+1:=by simp
   have hwp:wrap .i64 ((((A++[c]).length:Nat):Int) - 1)=((A.length:Nat):Int):=by rw[CB (by omega) (by omega),hlen];rfl
   have hlast:(A++[c])[A.length]? =some c:=by simp
   rw[hwp,bM (by omega),aQ,eD hlast,aB,aB,Fb (by have:=hs c (by simp);omega) hN,aB,aB,cN];have hl2:((A++[c]).map tS).getLast? =some (tS c):=by simp
   have hd2:((A++[c]).map tS).dropLast=A.map tS:=by simp
   rw[hl2,hd2];dsimp only
   by_cases h1:c.to=b.from_/\c.ji=b.ji
   ·rw[aC (show(tS c).y1=(tS b).y0/\(tS c).xs=(tS b).xs from⟨h1.1,by unfold tS;rw[h1.2]⟩),show(c.to==b.from_)=true by rw[h1.1];simp,aQ,bM h1.2,aB,aQ];refine S9 ?_;rw[List.set_append_right _ _<|bV _,Nat.sub_self];simp[tS]
   ·rw[aD (show ¬((tS c).y1=(tS b).y0/\(tS c).xs=(tS b).xs)from λh=>h1 ⟨h.1,JR.1 h.2⟩)];have e2:(bif c.to==b.from_ then some (decide<|c.ji=b.ji)else some false)=some false:=by
     by_cases h2:c.to=b.from_
     ·rw[show(c.to==b.from_)=true by rw[h2];simp,aQ,bP<|λh=>h1 ⟨h2,h⟩]
     ·rw[show(c.to==b.from_)=false by simpa using h2,aT]
    rw[e2,aB,aT];exact TW (by rw[hlen];simp;omega)<|S9 (by simp)
theorem Ll{s:List Bd}{b c:Bd}(h:c∈jS s b):c.xs=b.xs\/∃d∈s,c.xs=d.xs:=by
 unfold jS at h;split at h
 ·exact .inr ⟨c,h,rfl⟩
 ·split at h
  ·rename_i d hd;split at h
   ·rcases dS.1 h with h|h
    ·exact .inr ⟨c,List.dropLast_subset _ h,rfl⟩
    ·simp at h;exact .inr ⟨d,List.mem_of_getLast? hd,by rw[h]⟩
   ·rcases dS.1 h with h|h
    ·exact .inr ⟨c,h,rfl⟩
    ·simp at h;exact .inl (by rw[h])
  ·simp at h;exact .inl (by rw[h])
theorem rV{f:Int->List Int}{B:Nat}(hf:∀y,(f y).length<=B):∀(ss:List (Int×Int))(out:List Bd),(∀c∈out,c.xs.length<=B)->(∀c∈mQ f ss out,c.xs.length<=B)/\(mQ f ss out).length<=out.length+ss.length
 | [],out,h=>⟨h,by simp[mQ]⟩
 |s::ss,out,h=>by
  obtain⟨h1,h2⟩:=rV hf ss (jS out ⟨s.1,s.2,f s.1⟩) (λc hc=>by
   rcases Ll hc with h3|⟨d,hd,h3⟩
   ·rw[h3];exact hf _
   ·rw[h3];exact h d hd)
  refine⟨h1,?_⟩;have:=JD out ⟨s.1,s.2,f s.1⟩;show(mQ f ss<|jS out ⟨s.1,s.2,f s.1⟩).length<=_;rw[eM];omega
theorem nI:∀(ys:List Int),(kM ys).length=ys.length - 1
 | []=>rfl
 | [_]=>rfl
 |a::b::l=>by
  show(kM<|b::l).length+1=_;rw[nI<|b::l];simp
theorem C0:∀(ys:List Int)(k:Nat)(h:k+1<ys.length),(kM ys)[k]? =some (ys[k],ys[k+1])
 | [],k,h=>by simp at h
 | [_],k,h=>by simp at h
 |a::b::l,0,h=>rfl
 |a::b::l,k+1,h=>by
  have:=C0 (b::l) k (by simp at h ⊢;omega);show(kM<|b::l)[k]? =_;rw[this];rfl
theorem GZ(f:Int->List Int)(ss:List (Int×Int))(s:Int×Int)(out:List Bd):mQ f (ss++[s]) out=jS (mQ f ss out) ⟨s.1,s.2,f s.1⟩:=by unfold mQ;rw[List.foldl_append];rfl
theorem C1{ys:List Int}(hy:kb ys){f:Int->List Int}{B:Nat}(hf:∀y,(f y).length<=B)(hB:B<=1099511627776)(hys:ys.length<=1073741824){out:List aM}{k:Nat}(h1:1<=k)(hk:k<ys.length)
  (hI:out.map tS=mQ f ((kM ys).take<|k - 1) []) {r:List aH} (hr:dM (r.map sp)=f (ys[k - 1]'(by omega))) (hN:4398046511104<=N):
  Ok (gm N out ⟨ys[k - 1]'(by omega),ys[k],r⟩) (λo=>o.map tS=mQ f ((kM ys).take k) []):=by
 have hlt:ys[k - 1]'(by omega)<ys[k]:=mT.1 hy (k - 1) k (by omega) hk (by omega);obtain⟨s1,s2⟩:=rV hf ((kM ys).take<|k - 1) [] (λc hc=>by cases hc);have hol:out.length<=ys.length:=by
  have:(out.map tS).length<=ys.length:=by
   rw[hI];have h3:=nI ys;rw[cW]at s2;simp only[List.length_nil]at s2;omega
  rwa[eL]at this
 refine(HU hlt (by omega) (λc hc=>?_) hN).mono λo ho=>?_
 ·have h3:(tS c).xs.length<=B:=s1 _ (by rw[<-hI];exact dK.2 ⟨c,hc,rfl⟩);have h4:(tS c).xs.length=2*c.ji.length:=by unfold tS;rw[kA,eL]
  omega
 ·have hg:=C0 ys (k - 1) (by omega);have hts:(kM ys).take k=(kM ys).take (k - 1)++[(ys[k - 1]'(by omega),ys[k])]:=by
   have hl:k - 1<(kM ys).length:=by rw[nI];omega
   have e:=fJ hl;rw[show k - 1+1=k by omega]at e;rw[e];congr 1;rw[aS hl]at hg;injection hg with hg
   rw[hg];simp only[show k - 1+1=k by omega]
  rw[ho,hI,hts,GZ];congr 1;unfold tS;simp only[hr]
def re(b:aM):List aI:=b.ji.map λs=>⟨s.from_,b.from_,s.to,b.to⟩
def mj(l:List aM):List aI:=l.flatMap re
theorem G0:∀(l:List (Int×Int)),CD (dM l)=l
 | []=>rfl
 |s::l=>by rw[jB];show(s.1,s.2)::CD (dM l)=_;rw[G0 l]
theorem AQ:∀{l:List aM}{s:List aA},l.map tS=s.map cG->mj l=aU s
 | [],[],_=>rfl
 | [],_::_,h=>by cases h
 |_::_,[],h=>by cases h
 |b::l,c::s,h=>by
  rw[eB,eB]at h;injection h with h1 h2
  have e:=AQ h2;show re b++mj l=nE c++aU s;rw[e];congr 1;unfold tS cG at h1;injection h1 with g1 g2 g3
  unfold re nE;rw[<-g3,G0,g1,g2,List.map_map];rfl
theorem G1(l:List aM)(b:aM):mj (l++[b])=mj l++re b:=by unfold mj;rw[List.flatMap_append];simp
theorem IV{l:List aM}(hl:l.length<=1099511627776)(hs:∀b∈l,b.ji.length<=1099511627776)(hr:(mj l).length<=1099511627776)(hN:4398046511104<=N):jw N l=some (mj l):=by
 refine T3 ?_;unfold jw;refine Td (T2 (n:=l.length) (λs=>s.2) (λk s=>s.1=mj (l.take k)) (Go:=λs=>s.1=mj l) (Rt:=λ_=>False) ?_ ?_ (eH _) rfl rfl (by omega)) ?_
 ·rintro k⟨out,i⟩hk e hI;dsimp only at e hI ⊢;subst e;subst hI;rw[oF hk,aQ];have hx:l[k]? =some l[k]:=aS hk;have hsl:=hs _<|dH hk
  have hts:mj (l.take<|k+1)=mj (l.take k)++re l[k]:=by rw[fJ hk,G1]
  have hlen:(mj<|l.take k).length+l[k].ji.length<=(mj l).length:=by
   have h1:(mj l).length=(mj<|l.take<|k+1).length+(mj<|l.drop<|k+1).length:=by
    rw[<-dG];unfold mj;rw[<-List.flatMap_append,List.take_append_drop]
   have h2:(re l[k]).length=l[k].ji.length:=by unfold re;rw[eL]
   rw[hts,dG,h2]at h1;omega
  refine Td (T2 (n:=l[k].ji.length) (λs=>s.2) (λj s=>s.1=mj (l.take k)++(re l[k]).take j) (Go:=λs=>s.1=mj (l.take<|k+1)) (Rt:=λ_=>False) ?_ ?_ (eH _) rfl (by simp) (by omega)) ?_
  ·rintro j⟨o2,i2⟩hj e hI;dsimp only at e hI ⊢;subst e;subst hI;have hy:l[k].ji[j]? =some l[k].ji[j]:=aS hj;have hjr:j<(re l[k]).length:=by unfold re;rw[eL];exact hj
   refine Ti hx ?_;rw[oF hj,aQ];refine Ti hx<|Ti hy<|Ti hx<|Ti hx<|Ti hy<|Ti hx<|TW ?_<|Tv ⟨bZ (by omega),?_⟩
   ·rw[dG,cW];simp only[eM,List.length_nil];omega
   ·dsimp only;rw[kf];congr 1;rw[fJ hjr];congr 1;simp[re]
  ·rintro⟨o2,i2⟩e hI;dsimp only at e hI ⊢;subst e;subst hI;refine Ti hx ?_;rw[rU,aT];refine TE ?_;dsimp only;rw[hts];congr 1;exact mR (by unfold re;rw[eL];omega)
  intro o ho;exact TG ho (λs hs=>Tv ⟨bZ (by omega),hs⟩)<|λr hr=>hr.elim
 ·rintro⟨out,i⟩e hI;dsimp only at e hI ⊢;subst e;rw[rU,aT];exact TE (by rw[gj]at hI;exact hI)
 intro o ho;exact TG ho (λs hs=>S9 hs)<|λr hr=>hr.elim
theorem AR{l:List aI}{ys:List Int}(hm:∀r∈l,r.Y0∈ys/\r.Y1∈ys){s:Int×Int}{y:Int}(hs:s∈kM ys)(hy:kb ys)(h1:s.1<=y)(h2:y<s.2):ly l y=ly l s.1:=HS λr hr=>by
 obtain⟨m1,m2⟩:=hm r hr;obtain⟨_,_,_,h⟩:=r8 hy s hs
 rcases h _ m1 with h3|h3 <;> rcases h _ m2 with h4|h4 <;> constructor <;> intro h5 <;> omega
theorem Fc{l:List aI}{ys:List Int}(hm:∀r∈l,r.Y0∈ys/\r.Y1∈ys){y:Int}(h:(∀c∈ys,y<c)\/(∀c∈ys,c<=y)):ly l y= []:=Lj λr hr hc=>by
 obtain⟨m1,m2⟩:=hm r hr
 rcases h with h|h
 ·have:=h _ m1;omega
 ·have:=h _ m2;omega
theorem Fe{l:List aI}:∀r∈l,r.Y0∈kU (jF l)/\r.Y1∈kU (jF l):=λr hr=>⟨AP.2<|lU.2 ⟨r,hr, .inl rfl⟩,AP.2<|lU.2 ⟨r,hr, .inr rfl⟩⟩
theorem Lm(l:List aI):(kU<|jF l).length<=2*l.length:=by
 have:=uH<|jF l
 rwa[jM]at this
theorem vo{l:List aI}{s:List aA}(hc:fC (s.map cG))(hcov:∀x y,vY (s.map cG) x y=vW l x y)(hl:l.length<=10000000)(hok:∀r∈l,r.X0<r.X1)(hr:(aU s).length<=1099511627776)(hN:4398046511104<=N):
  fL N l=some (aU s):=by
 refine T3 ?_;unfold fL;refine SZ (CY (by omega) hN) ?_;have hyl:=Lm l;have hyi:=nZ<|jF l
 have hf:∀y,kb (dM<|ly l y)/\(dM<|ly l y).length % 2=0:=λy=>⟨(xH hok y).1,by rw[kA];omega⟩;have hfl:∀y,(dM<|ly l y).length<=20000000:=λy=>by rw[kA];have:=uI l y;omega
 obtain⟨b1,b2⟩:=Bc (f:=λy=>dM<|ly l y) hf hyi (λt ht y h1 h2=>by(try dsimp only);rw[AR Fe ht hyi h1 h2]) (λy h=>by(try dsimp only);rw[Fc Fe h];rfl);have hsame:mQ (λy=>dM<|ly l y) (kM<|kU<|jF l) []=s.map cG:=vf b1 hc λx y=>by
  rw[hcov];unfold vY;rw[b2,uy (hf y).1,(xH hok y).2]
 have hmy:= @Fe l;generalize kU (jF l)=ys at *;refine Td (T2 (n:=max 1 ys.length) (λs=>s.2) (λk st=>1<=k/\st.1.map tS=mQ (λy=>dM<|ly l y) ((kM ys).take<|k - 1) []) (Go:=λst=>st.1.map tS=s.map cG) (Rt:=λ_=>False) ?_ ?_ (k0:=1) (by omega) rfl ⟨bV _,rfl⟩ (by omega)) ?_
 ·rintro k⟨out,i⟩hk e⟨hk1,hI⟩;dsimp only at e hI ⊢;subst e;have hk2:k<ys.length:=by omega
  rw[oF hk2,aQ,gC hk1 (by omega)];refine TY (by omega)<|TY hk2<|TY (by omega)<|Td (HT (by omega) hN) λr hr=>Td (C1 hyi (f:=λy=>dM<|ly l y) hfl (by omega) (by omega) hk1 hk2 hI (by(try dsimp only);rw[hr]) hN) λo ho=>Tv ⟨bZ (by omega),by omega,?_⟩
  rw[BJ];exact ho
 ·rintro⟨out,i⟩e⟨hk1,hI⟩;dsimp only at e hI ⊢;subst e;rw[Bh (by omega),aT];refine TE ?_;rw[mR (by rw[nI];omega),hsame]at hI;exact hI
 intro o ho;refine TG ho (λst hs=>?_)<|λr hr=>hr.elim
 have e:=AQ hs;obtain⟨s1,s2⟩:=rV (f:=λy=>dM<|ly l y) hfl (kM ys) [] (λc hc=>by cases hc);refine SZ (IV (l:=st.1) ?_ ?_ (by rw[e];exact hr) hN)<|S9 e
 ·have:(st.1.map tS).length<=ys.length:=by rw[hs,<-hsame];have:=nI ys;simp only[List.length_nil]at s2;omega
  rw[eL]at this;omega
 ·intro b hb;have h3:=s1 (tS b) (by rw[hsame,<-hs];exact dK.2 ⟨b,hb,rfl⟩);have h4:(tS b).xs.length=2*b.ji.length:=by unfold tS;rw[kA,eL]
  omega
def sR(w:Int)(p q:Bool):Bool:=((((w==1)&&(p||q))||(((w==2)&&p)&&q))||(((w==3)&&p)&&(!q)))
theorem Ln(w:Int):sR w false false=false:=by unfold sR;simp
theorem Bl(hQ:Bool->Bool->Bool)(a b ss:List (Int×Int))(s:Int×Int)(out:List (Int×Int)):mP hQ a b (ss++[s]) out=if hQ (jA a s.1) (jA b s.1)=true then mg (mP hQ a b ss out) s else mP hQ a b ss out:=by unfold mP;rw[List.foldl_append];rfl
theorem yN(hQ:Bool->Bool->Bool)(a b:List (Int×Int)):∀(ss out:List (Int×Int)),(mP hQ a b ss out).length<=out.length+ss.length
 | [],out=>by simp[mP]
 |s::ss,out=>by
  have h1:=yN hQ a b ss (if hQ (jA a s.1) (jA b s.1)=true then mg out s else out);have h2:(if hQ (jA a s.1) (jA b s.1)=true then mg out s else out).length<=out.length+1:=by
   split
   ·exact Bi _ _
   ·omega
  show(mP hQ a b ss (if hQ (jA a s.1) (jA b s.1)=true then mg out s else out)).length<=_;rw[eM];omega
def Bm(a b:List (Int×Int)):List Int:=kU<|dM a++dM b
theorem Ee(a b:List (Int×Int)):(Bm a b).length<=2*a.length+2*b.length:=by
 have:=uH<|dM a++dM b
 rw[dG,kA,kA]at this;exact this
theorem Lo{a b:List aH}{w:Int}(ha:a.length<=10000000)(hb:b.length<=10000000)(hN:4398046511104<=N):
  Ok (j6 N a b w) (λr=>r.map sp=mP (sR w) (a.map sp) (b.map sp) (kM<|Bm (a.map sp)<|b.map sp) []):=by
 unfold j6;have hfl:∀(l:List aH),(kU<|dM<|l.map sp).length<=2*l.length:=λl=>by
  have:=uH<|dM<|l.map sp
  rwa[kA,eL]at this
 refine Td (T2 (n:=a.length) (λs=>s.2) (λk s=>s.1=kU (dM<|(a.take k).map sp)) (Go:=λs=>s.1=kU (dM<|a.map sp)) (Rt:=λ_=>False) ?_ ?_ (eH _) rfl rfl (by omega)) ?_
 ·rintro k⟨out,i⟩hk e hI;dsimp only at e hI ⊢;subst e;subst hI;rw[oF hk,aQ];have hx:a[k]? =some a[k]:=aS hk;have h1:=hfl<|a.take k
  rw[cW]at h1;have h2:=z5 (kU<|dM<|(a.take k).map sp) a[k].from_;refine Ti hx<|Ti hx<|SZ (xG (nZ _) (by omega) hN)<|SZ (xG (z6<|nZ _) (by omega) hN)<|Tv ⟨bZ (by omega),?_⟩
  rw[fJ hk,fu,vg];exact(w4 _ _ _).symm
 ·rintro⟨out,i⟩e hI;dsimp only at e hI ⊢;subst e;rw[rU,aT];exact TE (by rw[gj]at hI;exact hI)
 intro o ho;refine TG ho ?_<|λr hr=>hr.elim
 rintro⟨xa,ia⟩hxa;dsimp only at hxa ⊢;subst hxa;refine Td (T2 (n:=b.length) (λs=>s.2) (λk s=>s.1=kU (dM (a.map sp)++dM ((b.take k).map sp))) (Go:=λs=>s.1=Bm (a.map sp) (b.map sp)) (Rt:=λ_=>False) ?_ ?_ (eH _) rfl (by simp[dM]) (by omega)) ?_
 ·rintro k⟨out,i⟩hk e hI;dsimp only at e hI ⊢;subst e;subst hI;rw[oF hk,aQ];have hx:b[k]? =some b[k]:=aS hk;have h1:=uH<|dM (a.map sp)++dM ((b.take k).map sp)
  rw[dG,kA,kA,eL,eL,cW]at h1;have h2:=z5 (kU<|dM (a.map sp)++dM ((b.take k).map sp)) b[k].from_;refine Ti hx<|Ti hx<|SZ (xG (nZ _) (by omega) hN)<|SZ (xG (z6<|nZ _) (by omega) hN)<|Tv ⟨bZ (by omega),?_⟩
  rw[fJ hk,fu,vg,<-kf];exact(w4 _ _ _).symm
 ·rintro⟨out,i⟩e hI;dsimp only at e hI ⊢;subst e;rw[rU,aT];exact TE (by rw[gj]at hI;exact hI)
 intro o ho;refine TG ho ?_<|λr hr=>hr.elim
 rintro⟨xs,ix⟩hxs;dsimp only at hxs ⊢;have hxl:=Ee (a.map sp)<|b.map sp
 rw[<-hxs,eL,eL]at hxl;rw[<-hxs];clear hxs;refine Td (T2 (n:=max 1 xs.length) (λs=>s.2) (λk st=>1<=k/\st.1.map sp=mP (sR w) (a.map sp) (b.map sp) ((kM xs).take<|k - 1) []) (Go:=λst=>st.1.map sp=mP (sR w) (a.map sp) (b.map sp) (kM xs) []) (Rt:=λ_=>False) ?_ ?_ (k0:=1) (by omega) rfl ⟨bV _,rfl⟩ (by omega)) ?_
 ·rintro k⟨out,i⟩hk e⟨hk1,hI⟩;dsimp only at e hI ⊢;subst e;have hk2:k<xs.length:=by omega
  rw[oF hk2,aQ,gC hk1 (by omega)];have hx:xs[k - 1]? =some (xs[k - 1]'(by omega)):=aS _;have hy:xs[k]? =some xs[k]:=aS hk2;have hg:=C0 xs (k - 1) (by omega);have hts:(kM xs).take k=(kM xs).take (k - 1)++[(xs[k - 1]'(by omega),xs[k])]:=by
   have hl:k - 1<(kM xs).length:=by rw[nI];omega
   have e:=fJ hl;rw[show k - 1+1=k by omega]at e;rw[e];congr 1;rw[aS hl]at hg;injection hg with hg
   rw[hg];simp only[show k - 1+1=k by omega]
  have hol:out.length<=xs.length:=by
   have h1:=yN (sR w) (a.map sp) (b.map sp) ((kM xs).take<|k - 1) [];rw[<-hI,eL,cW,nI]at h1;simp only[List.length_nil]at h1;omega
  refine Ti hx<|Ti hx<|SZ (Ed (by omega) hN)<|SZ (Ed (by omega) hN) ?_
  refine Td (P:=λr:List aH=>r.map sp=mP (sR w) (a.map sp) (b.map sp) ((kM xs).take k) []) (Ty (λhb=>?_)<|λhb=>?_)<|λr hr=>Tv ⟨bZ (by omega),by omega,by rw[BJ];exact hr⟩
  ·refine Ti hx<|Ti hy<|Td (Ec (by omega) hN)<|λr hr=>S9 ?_
   rw[hr,hI,hts,Bl,aC (show sR w _ _=true from hb)];rfl
  ·refine S9 ?_;rw[hI,hts,Bl,aD (show ¬sR w _ _=true by rw[lF];exact hb)]
 ·rintro⟨out,i⟩e⟨hk1,hI⟩;dsimp only at e hI ⊢;subst e;rw[Bh (by omega),aT];refine TE ?_;rw[mR (by rw[nI];omega)]at hI;exact hI
 intro o ho;exact TG ho (λs hs=>S9 hs)<|λr hr=>hr.elim
def oZ(w:Int)(a b:List aI)(y:Int):List (Int×Int):=mP (sR w) (ly a y) (ly b y) (kM<|Bm (ly a y)<|ly b y) []
theorem G2(a b:List (Int×Int)):Ends a (Bm a b)/\Ends b (Bm a b):=by
 constructor <;> intro s hs <;> constructor <;> refine AP.2<|dS.2 ?_
 ·exact .inl<|List.mem_flatMap.2 ⟨s,hs,by simp⟩
 ·exact .inl<|List.mem_flatMap.2 ⟨s,hs,by simp⟩
 ·exact .inr<|List.mem_flatMap.2 ⟨s,hs,by simp⟩
 ·exact .inr<|List.mem_flatMap.2 ⟨s,hs,by simp⟩
theorem Bn{a b:List aI}(ha:∀r∈a,r.X0<r.X1)(hb:∀r∈b,r.X0<r.X1)(w y:Int):kb (dM<|oZ w a b y)/\∀x,jA (oZ w a b y) x=sR w (vW a x y) (vW b x y):=by
 obtain⟨h1,h2⟩:=GB (hQ:=sR w) (Ln w) (a:=ly a y) (b:=ly b y) (xs:=Bm (ly a y)<|ly b y) (nZ _) (G2 _ _).1 (G2 _ _).2;exact⟨h1,λx=>by rw[show jA (oZ w a b y) x=_ from h2 x,(xH ha y).2,(xH hb y).2]⟩
theorem HV(w:Int)(a b:List aI)(y:Int):(oZ w a b y).length<=2*a.length+2*b.length:=by
 have h1:=yN (sR w) (ly a y) (ly b y) (kM<|Bm (ly a y)<|ly b y) [];have h2:=Ee (ly a y)<|ly b y
 have h3:=uI a y;have h4:=uI b y;rw[nI]at h1;unfold oZ;simp only[List.length_nil]at h1;omega
theorem G3{a b:List aI}{w:Int}{s:List aA}(hc:fC (s.map cG))(hcov:∀x y,vY (s.map cG) x y=sR w (vW a x y) (vW b x y))(hla:a.length<=10000000)(hlb:b.length<=10000000)
  (ha:∀r∈a,r.X0<r.X1) (hb:∀r∈b,r.X0<r.X1) (hr:(aU s).length<=1099511627776) (hN:4398046511104<=N):gS N a b w=some (aU s):=by
 refine T3 ?_;unfold gS;refine TW (by simp only[List.length_nil];omega)<|TW (by rw[List.nil_append];omega) ?_
 rw[List.nil_append];refine SZ (CY (by rw[dG];omega) hN) ?_;have hyl:=Lm<|a++b
 rw[dG]at hyl;have hyi:=nZ<|jF<|a++b
 have hmy:= @Fe<|a++b
 have hma:∀r∈a,r.Y0∈kU (jF<|a++b)/\r.Y1∈kU (jF<|a++b):=λr hr=>hmy r<|List.mem_append_left _ hr
 have hmb:∀r∈b,r.Y0∈kU (jF<|a++b)/\r.Y1∈kU (jF<|a++b):=λr hr=>hmy r<|List.mem_append_right _ hr
 have hf:∀y,kb (dM<|oZ w a b y)/\(dM<|oZ w a b y).length % 2=0:=λy=>⟨(Bn ha hb w y).1,by rw[kA];omega⟩;have hfl:∀y,(dM<|oZ w a b y).length<=80000000:=λy=>by rw[kA];have:=HV w a b y;omega
 obtain⟨b1,b2⟩:=Bc (f:=λy=>dM (oZ w a b y)) hf hyi (λt ht y h1 h2=>by(try dsimp only);unfold oZ;rw[AR hma ht hyi h1 h2,AR hmb ht hyi h1 h2]) (λy h=>by
  (try dsimp only);unfold oZ;rw[Fc hma h,Fc hmb h];rfl)
 have hsame:mQ (λy=>dM<|oZ w a b y) (kM<|kU<|jF<|a++b) []=s.map cG:=vf b1 hc λx y=>by
  rw[hcov];unfold vY;rw[b2,uy (hf y).1,(Bn ha hb w y).2]
 clear hmy hma hmb;generalize kU (jF<|a++b)=ys at *;refine Td (T2 (n:=max 1 ys.length) (λs=>s.2) (λk st=>1<=k/\st.1.map tS=mQ (λy=>dM<|oZ w a b y) ((kM ys).take<|k - 1) []) (Go:=λst=>st.1.map tS=s.map cG) (Rt:=λ_=>False) ?_ ?_ (k0:=1) (by omega) rfl ⟨bV _,rfl⟩ (by omega)) ?_
 ·rintro k⟨out,i⟩hk e⟨hk1,hI⟩;dsimp only at e hI ⊢;subst e;have hk2:k<ys.length:=by omega
  rw[oF hk2,aQ,gC hk1 (by omega)];refine TY (by omega)<|TY hk2<|TY (by omega)<|TY (by omega)<|Td (HT (by omega) hN) λr1 hr1=>Td (HT (by omega) hN) λr2 hr2=>?_
  have l1:r1.length<=10000000:=by have:=uI a<|ys[k - 1]'(by omega);rw[<-hr1,eL]at this;omega
  have l2:r2.length<=10000000:=by have:=uI b<|ys[k - 1]'(by omega);rw[<-hr2,eL]at this;omega
  refine Td (Lo l1 l2 hN) λr hr=>Td (C1 hyi (f:=λy=>dM<|oZ w a b y) hfl (by omega) (by omega) hk1 hk2 hI (by(try dsimp only);rw[hr,hr1,hr2];rfl) hN) λo ho=>Tv ⟨bZ (by omega),by omega,?_⟩;rw[BJ];exact ho
 ·rintro⟨out,i⟩e⟨hk1,hI⟩;dsimp only at e hI ⊢;subst e;rw[Bh (by omega),aT];refine TE ?_;rw[mR (by rw[nI];omega),hsame]at hI;exact hI
 intro o ho;refine TG ho (λst hs=>?_)<|λr hr=>hr.elim
 have e:=AQ hs;obtain⟨s1,s2⟩:=rV (f:=λy=>dM<|oZ w a b y) hfl (kM ys) [] (λc hc=>by cases hc);refine SZ (IV (l:=st.1) ?_ ?_ (by rw[e];exact hr) hN)<|S9 e
 ·have:(st.1.map tS).length<=ys.length:=by rw[hs,<-hsame];have:=nI ys;simp only[List.length_nil]at s2;omega
  rw[eL]at this;omega
 ·intro b hb;have h3:=s1 (tS b) (by rw[hsame,<-hs];exact dK.2 ⟨b,hb,rfl⟩);have h4:(tS b).xs.length=2*b.ji.length:=by unfold tS;rw[kA,eL]
  omega
theorem Ff(n:Int):cU N n=some (lV n):=rfl
theorem C2{l:List aI}(hl:l.length<=1099511627776)(hN:4398046511104<=N):iq N l=some (lW l):=by
 refine T3 ?_;unfold iq lW
 by_cases h:2000<l.length
 ·rw[bM (by omega),aQ,aC h];exact S9 rfl
 ·rw[bP (by omega),aT,aD h];refine Td (T2 (n:=l.length) (λs=>s) (λk s=>∀(j:Nat)x,j<k->l[j]? =some x->lu x=none) (Go:=λs=>l.findSome? lu=none) (Rt:=λr=>l.findSome? lu=some r) ?_ ?_ (eH _) rfl (λj x hj=>by omega) (by omega)) ?_
  ·rintro k i hk e hI;subst e;rw[oF hk,aQ];have hx:l[k]? =some l[k]:=aS hk;have hrt:∀c,lu l[k]=some c->l.findSome? lu=some c:=λc hc=>by
    rw[List.findSome?_eq_some_iff];refine⟨l.take k,l[k],l.drop<|k+1,?_,hc,λx hx'=>?_⟩
    ·rw[List.getElem_cons_drop,List.take_append_drop]
    ·obtain⟨j,hj⟩:=eX hx';have hjk:j<k:=by have:=(bE.1 hj).1;rw[cW]at this;omega
     exact hI j x hjk (by rw[List.getElem?_take_of_lt hjk]at hj;exact hj)
   refine Ti hx ?_;have hb:((cU N l[k].X0).bind λx110=>bif(!x110)then some true else((cU N l[k].Y0).bind λx112=>bif(!x112)then some true else((cU N l[k].X1).bind λx114=>bif(!x114)then some true else((cU N l[k].Y1).bind λx116=>some<|!x116))))=some (!f0 l[k]):=by
    rw[Ff,Ff,Ff,Ff];unfold f0;simp only[aB]
    cases lV l[k].X0 <;> cases lV l[k].Y0 <;> cases lV l[k].X1 <;> rfl
   refine SZ hb<|Ty (λh1=>T8<|hrt 1 ?_)<|λh1=>Ty (λh2=>T8<|hrt 13 ?_)<|λh2=>Tv ⟨bZ (by omega),λj x hj hjx=>?_⟩
   ·unfold lu;rw[aD (by rw[lF];simpa using h1)]
   ·unfold lu;rw[aC (by simpa using h1),aC (by rw[dP,bK,bK]at h2;exact h2)]
   ·by_cases e:j=k
    ·subst e;rw[hx]at hjx;injection hjx with hjx;rw[<-hjx]
     unfold lu;rw[aC (by simpa using h1),aD (by rw[<-lF,dP,bK,bK]at h2;exact h2)]
    ·exact hI j x (by omega) hjx
  ·rintro i e hI;subst e;rw[rU,aT];refine TE ?_;rw[List.findSome?_eq_none_iff];intro x hx;obtain⟨j,hj⟩:=eX hx;exact hI j x (bE.1 hj).1 hj
  intro o ho;exact TG ho (λs hs=>S9 (by rw[hs];rfl))<|λr hr=>S9 (by rw[hr];rfl)
theorem HW{l:List aI}{s:List aA}(hs:sO l s):CQ l↔aU s=l:=⟨λ⟨t,h1,h2⟩=>by rw[hs.unique h1];exact h2,λh=>⟨s,hs,h⟩⟩
theorem vD{l:List aI}(hl:l.length<=1073741824)(hN:4398046511104<=N):fV N l=some (jk l):=by
 refine T3 ?_;unfold fV;refine SZ (C2 (by omega) hN) ?_;unfold jk;refine Ty (λh=>S9 ?_)<|λh=>?_
 ·rw[aC (by simpa using h)]
 ·have h0:lW l=0:=by simpa using h
  rw[aD (by simpa using h0)];obtain⟨hlen,hok⟩:=E6 h0;have hbf:∀a b:aI,((decide (a.Y0<b.Y0)||((a.Y0==b.Y0)&&decide (a.X0<b.X0)))=true)↔¬(b.Y0<a.Y0\/(b.Y0=a.Y0/\b.X0<=a.X0)):=λa b=>by
   rw[dP,cD,bK,bK,beq_iff_eq];omega
  refine Td (Ua (Go:=λ_=>Ot l) (Rt:=λr=>r=8/\¬Ot l) (λs=>∃k:Nat,s=((k:Nat):Int)/\1<=k/\∀(j:Nat)a b,j+1<k->l[j]? =some a->l[j+1]? =some b->¬(b.Y0<a.Y0\/(b.Y0=a.Y0/\b.X0<=a.X0))) (λs=>l.length - s.toNat) ?_ ⟨1,rfl,bV _,λj a b hj=>by omega⟩ (by simp;omega)) ?_
  ·rintro s⟨k,rfl,hk,hI⟩;refine Ty (λh=>?_)<|λh=>TE λj a b ha hb=>hI j a b ?_ ha hb
   ·have hk2:k<l.length:=by have:=of_decide_eq_true h;omega
    rw[gC hk (by omega)];have hx:l[k - 1]? =some (l[k - 1]'(by omega)):=aS _;have hy:l[k]? =some l[k]:=aS hk2;refine Ti hx<|Ti hy ?_
    unfold iI;rw[aB];refine Ty (λhb=>T8 ⟨rfl,λhu=>?_⟩)<|λhb=>Tv ⟨⟨k+1,by rw[bZ (by omega)],by omega,λj a b hj ha hb'=>?_⟩,by rw[bZ (by omega)];simp only[cN];omega⟩
    ·have:=(hbf _ _).2<|hu (k - 1) _ _ hx (by rw[show k - 1+1=k by omega];exact hy)
     rw[this]at hb;cases hb
    ·by_cases e:j+1<k
     ·exact hI j a b e ha hb'
     ·have:j+1=k:=by omega
      have h1:l[k - 1]? =some a:=by rw[show k - 1=j by omega];exact ha
      have h2:l[k]? =some b:=by rw[<-this];exact hb'
      rw[hx]at h1;rw[hy]at h2;injection h1 with h1;injection h2 with h2
      rw[<-h1,<-h2];refine(hbf _ _).1 ?_;rw[Bool.not_eq_false']at hb;exact hb
   ·have:=of_decide_eq_false h;have:=(bE.1 hb).1;omega
  ·rintro o ho;refine TG ho (λs hu=>?_)<|λr hr=>S9 (by rw[hr.1,aD hr.2])
   rw[aC hu];obtain⟨s,_,hs⟩:=qm (N:=N) (l:=l) (by omega) hok (by omega);obtain⟨z1,z2,z3⟩:=hs.GN;have z4:2*l.length*(2*l.length)<=4000*4000:=Nat.mul_le_mul (by omega) (by omega);refine SZ (vo hs.can hs.cover (by omega) (λr hr=>(hok r hr).x) (by omega) hN)<|SZ (Fa (by omega) hN) ?_
   have hiff:=HW hs;refine Ty (λh=>S9 ?_)<|λh=>S9 ?_
   ·have h:¬l=aU s:=by simpa using h
    rw[aD<|λh'=>h (hiff.1 h').symm]
   ·have h:l=aU s:=by simpa using h
    rw[aC<|hiff.2 h.symm]
end
theorem C3(n:Nat)(g:Nat->Nat):((List.range<|n+1).map g).sum=((List.range n).map g).sum+g n:=by
 rw[List.range_succ,fu,List.sum_append];simp
def Q6(r:aI)(x y:Int):Bool:=(decide (r.X0<=x)&&decide (x<r.X1))&&(decide (r.Y0<=y)&&decide (y<r.Y1))
def QW(a b:aI):Prop:=∀x y,¬(Q6 a x y=true/\Q6 b x y=true)
theorem Mt{r:aI}{x y:Int}:Q6 r x y=true↔(r.X0<=x/\x<r.X1)/\r.Y0<=y/\y<r.Y1:=by unfold Q6;simp
theorem z8:∀{xs:List Int},kb xs->(CD xs).Pairwise (λp q=>p.2<q.1)
 | [],_=>kO
 | [a],_=>kO
 |a::b::l,h=>by
  unfold CD;rw[oI];exact⟨λq hq=>h.tail.head q.1 (E1 q hq).1,z8 h.tail.tail⟩
def sS(a b:aI):Prop:=a.Y1<=b.Y0\/(a.Y0=b.Y0/\a.Y1=b.Y1/\a.X1<b.X0)
theorem sS.apart{a b:aI}(h:sS a b):QW a b:=λx y⟨h1,h2⟩=>by
 rw[Mt]at h1 h2
 rcases h with h|h <;> omega
theorem rW:∀{s:List aA},fC (s.map cG)->(aU s).Pairwise sS
 | [],_=>kO
 |b::s,h=>by
  rw[nF,nL];refine⟨?_,rW h.tail,λx hx y hy=>?_⟩
  ·unfold nE;rw[List.pairwise_map];exact List.Pairwise.imp (λhpq=> .inr ⟨rfl,rfl,hpq⟩)<|z8 (h.each (cG b) (by simp)).2.2.1
  ·unfold nE at hx;obtain⟨p,_,rfl⟩:=dK.1 hx;obtain⟨c,hc,q,_,rfl⟩:=r9 hy;exact .inl<|h.Cy (cG c)<|dK.2 ⟨c,hc,rfl⟩
theorem uJ{s:List aA}(h:fC (s.map cG)):∀r∈aU s,r.X0<r.X1/\r.Y0<r.Y1:=λr hr=>by
 obtain⟨b,hb,p,hp,rfl⟩:=r9 hr;have hc:=h.each (cG b)<|dK.2 ⟨b,hb,rfl⟩
 exact⟨HE hc.2.2.1 p hp,hc.1⟩
theorem G4{s:List aA}(h:fC (s.map cG)):(aU s).Nodup:=by
 have h1:=rW h;have h2:=uJ h;refine List.Pairwise.imp_of_mem (λ{a b}ha hb hab e=>?_) h1;subst e;have:=h2 a ha
 rcases hab with h|h <;> omega
def rf(s:List Bd):Nat:=(s.map<|λb=>b.xs.length / 2).sum
theorem w5(s t:List Bd):rf (s++t)=rf s+rf t:=by unfold rf;rw[fu,List.sum_append]
theorem JS(s:List Bd)(b:Bd):rf (jS s b)<=rf s+b.xs.length / 2:=by
 unfold jS;split
 ·omega
 ·split
  ·rename_i c hc;have hsp:=sN hc;have e:rf s=rf s.dropLast+c.xs.length / 2:=by
    conv=>lhs;rw[hsp,w5]
    simp[rf]
   split
   ·rw[w5,e];simp[rf]
   ·rw[w5];simp[rf]
  ·simp[rf]
structure SA (t:List Bd):Prop where
 each:∀b∈t,b.y0<b.y1/\kb b.xs/\b.xs.length % 2=0
 ord:t.Pairwise (λb c=>b.y1<=c.y0)
theorem fold_push:∀(t out:List Bd),SA t->fC out->(∀c∈out,∀b∈t,c.y1<=b.y0)->fC (t.foldl jS out)/\rf (t.foldl jS out)<=rf out+rf t/\
  ∀y,rowAt (t.foldl jS out) y=if(∃b∈t,b.y0<=y/\y<b.y1)then rowAt t y else rowAt out y
 | [],out,_,hc,_=>⟨hc,by simp[rf],λy=>by simp⟩
 |b::t,out,hl,hc,ho=>by
  have hb:=hl.each b (by simp);have hord:=oI.1 hl.ord;have ho1:∀c∈out,c.y1<=b.y0:=λc h=>ho c h b (by simp);have h1:=xx hc ho1 hb.2.1 hb.2.2;have htop:=xy ho1 (show b.y0<=b.y1 by omega);obtain⟨f1,f2,f3⟩:=fold_push t (jS out b) ⟨λc hcm=>hl.each c<|iv _ hcm,hord.2⟩ h1 (λc hcm d hd=>by have:=htop c hcm;have:=hord.1 d hd;omega);refine⟨f1,?_,λy=>?_⟩
  ·have:=JS out b;have e:rf (b::t)=b.xs.length / 2+rf t:=by simp[rf]
   rw[List.foldl_cons,e];omega
  ·rw[List.foldl_cons,f3 y,xw ho1 (λc hcm=>(hc.each c hcm).1)<|λh=>absurd h (by omega),nC]
   by_cases hy:b.y0<=y/\y<b.y1
   ·have hn:¬∃c∈t,c.y0<=y/\y<c.y1:=λ⟨c,hcm,h⟩=>by have:=hord.1 c hcm;omega
    rw[aD hn,aC hy,aC ⟨b,by simp,hy⟩,aC hy]
   ·rw[aD hy]
    by_cases h:∃c∈t,c.y0<=y/\y<c.y1
    ·obtain⟨c,hcm,h⟩:=h;rw[aC ⟨c,hcm,h⟩,aC ⟨c,iv _ hcm,h⟩,aD hy]
    ·rw[aD h,aD hy,aD (show ¬∃c∈b::t,c.y0<=y/\y<c.y1 from λ⟨c,hcm,h2⟩=>by
      rcases dO.1 hcm with rfl|hcm
      ·exact hy h2
      ·exact h ⟨c,hcm,h2⟩)]
noncomputable def rA(C:List aI)(b:aA):Bd:=⟨b.Y0,b.Y1,dM<|(CD b.Xs).filter<|λp=>decide<|(⟨p.1,b.Y0,p.2,b.Y1⟩:aI)∈C⟩
theorem JT{l m:List (Int×Int)}(h:l.Sublist m):(dM l).Sublist (dM m):=by
 induction h with
 |slnil=>exact List.Sublist.refl _
 |cons a _ ih=>rw[jB];exact(ih.cons _).cons _
 |cons_cons a _ ih=>rw[jB,jB];exact(ih.cons_cons _).cons_cons _
theorem C4(l:List (Int×Int)):(dM l).length % 2=0/\(dM l).length / 2=l.length:=by rw[kA];omega
theorem Ef{s p:List aA}{C:List aI}(hs:fC (s.map cG))(hp:fC (p.map cG))(hC:∀r∈C,r∈aU s)(hcov:∀x y,vY (p.map cG) x y=vW C x y):(aU p).length<=C.length:=by
 have hinc:∀b∈s,kb (rA C b).xs:=λb hb=>by
  have h1:=IJ hs b hb;have h2:=JT<|List.filter_sublist (l:=CD b.Xs) (p:=λp=>decide<|(⟨p.1,b.Y0,p.2,b.Y1⟩:aI)∈C)
  rw[zN<|uE hs b hb]at h2;exact List.Pairwise.sublist h2 h1
 have hlow:SA (s.map<|rA C):=by
  refine⟨λb hb=>?_,?_⟩
  ·obtain⟨c,hc,rfl⟩:=dK.1 hb;exact⟨(hs.each (cG c)<|dK.2 ⟨c,hc,rfl⟩).1,hinc c hc,(C4 _).1⟩
  ·have:=hs.ord;rw[List.pairwise_map]at this ⊢;exact List.Pairwise.imp (λh=>h.1) this
 obtain⟨f1,f2,f3⟩:=fold_push (s.map<|rA C) [] hlow fC.nil (λc hc=>by cases hc);have hrow:∀{t:List aA},(∀b∈t,b∈s)->∀x y,pO (rowAt (t.map<|rA C) y) x=true->vW C x y=true:=by
  intro t ht x y h
  induction t with
  |nil=>cases h
  |cons b t ih=>
   rw[eB,nC]at h;split at h
   ·rename_i hy;have hbm:=ht b (by simp);have h1:=hinc b hbm;have h:pO (dM<|(CD b.Xs).filter<|λp=>decide<|(⟨p.1,b.Y0,p.2,b.Y1⟩:aI)∈C) x=true:=h;rw[uy h1,ux]at h;obtain⟨q,hq,h2⟩:=h;have hq:=lE.1 hq;exact jE.2 ⟨_,of_decide_eq_true hq.2,h2,hy⟩
   ·exact ih (λc hc=>ht c<|iv _ hc) h
 have hrow2:∀x y,vW C x y=true->pO (rowAt (s.map<|rA C) y) x=true:=by
  intro x y h;obtain⟨r,hr,h1,h2⟩:=jE.1 h;obtain⟨b,hb,q,hq,rfl⟩:=r9<|hC r hr
  dsimp only at h1 h2;have key:∀{t:List aA},(∀c∈t,c∈s)->fC (t.map cG)->b∈t->rowAt (t.map<|rA C) y=(rA C b).xs:=by
   intro t ht hc hbt
   induction t with
   |nil=>cases hbt
   |cons c t ih=>
    rw[eB,nC]
    by_cases hy:c.Y0<=y/\y<c.Y1
    ·rw[aC (show(rA C c).y0<=y/\y<(rA C c).y1 from hy)]
     rcases dO.1 hbt with rfl|hbt
     ·rfl
     ·have:=hc.Cy (cG b)<|dK.2 ⟨b,hbt,rfl⟩
      have e1:(cG c).y1=c.Y1:=rfl;have e2:(cG b).y0=b.Y0:=rfl;omega
    ·rw[aD (show ¬((rA C c).y0<=y/\y<(rA C c).y1)from hy)]
     rcases dO.1 hbt with rfl|hbt
     ·exact absurd h2 hy
     ·exact ih (λd hd=>ht d<|iv _ hd) hc.tail hbt
  rw[key (λc hc=>hc) hs hb];have h1':=hinc b hb;show pO (dM<|(CD b.Xs).filter<|λp=>decide<|(⟨p.1,b.Y0,p.2,b.Y1⟩:aI)∈C) x=true;rw[uy h1',ux];exact⟨q,lE.2 ⟨hq,bM hr⟩,h1⟩
 have hsame:p.map cG=(s.map<|rA C).foldl jS []:=vf hp f1 λx y=>by
  rw[hcov,eN];have e:rowAt ((s.map<|rA C).foldl jS []) y=rowAt (s.map<|rA C) y:=by
   rw[f3]
   by_cases h:∃b∈s.map (rA C),b.y0<=y/\y<b.y1
   ·rw[aC h]
   ·rw[aD h]
    exact(mf λb hb=>by
     have:¬(b.y0<=y/\y<b.y1):=λh2=>h ⟨b,hb,h2⟩
     omega).symm
  unfold vY;rw[e];exact⟨hrow2 x y,hrow (λb hb=>hb) x y⟩
 have hc1:(aU p).length=rf (p.map cG):=by
  have:∀p:List aA,(aU p).length=rf (p.map cG):=λp=>by
   induction p with
   |nil=>rfl
   |cons b p ih=>rw[nF,dG,nX,ih];unfold rf;rw[eB,eB,List.sum_cons];rfl
  exact this p
 have hc2:∀s:List aA,rf (s.map<|rA C)=((aU s).filter<|λr=>decide<|r∈C).length:=λs=>by
  induction s with
  |nil=>rfl
  |cons b s ih=>
   rw[nF,k8,dG,<-ih];unfold rf;rw[eB,eB,List.sum_cons];congr 1;show(dM _).length / 2=_;rw[(C4 _).2];unfold nE;rw[List.filter_map,eL];rfl
 have hc3:((aU s).filter<|λr=>decide<|r∈C).length<=C.length:=ga (List.Nodup.sublist List.filter_sublist<|G4 hs) λr hr=>of_decide_eq_true (lE.1 hr).2;rw[hc1,hsame];have e0:rf ([]:List Bd)=0:=rfl;have:=hc2 s;omega
section
variable {N:Nat}
theorem ye{all:List aI}(w:aI->Nat):∀(c:List Nat),((c.filterMap<|λi=>all[i]?).map w).sum=(c.map<|λi=>(all[i]?).elim 0 w).sum
 | []=>rfl
 |i::c=>by
  rw[eB,List.sum_cons,<-ye w c]
  cases h:all[i]? with
  |none=>rw[List.filterMap_cons_none (f:=λi=>all[i]?) h];simp
  |some x=>rw[List.filterMap_cons_some (f:=λi=>all[i]?) h,eB,List.sum_cons];rfl
theorem Mu{all:List aI}{u:Nat->Nat}(h:∀i,i<all.length->u i∈cE all.length u)(w:aI->Nat):((cE all.length u).map<|λk=>((oe all all.length u k).map w).sum).sum=(all.map w).sum:=by
 have e:(λk=>((oe all all.length u k).map w).sum)=λk=>(((List.range all.length).filter<|λx=>decide<|u x=k).map<|λi=>(all[i]?).elim 0 w).sum:=by
  funext k;unfold oe;rw[ye];rfl
 rw[e,GW (po _ _) u _<|λx hx=>h x<|oH.1 hx];have:∀m,m<=all.length->((List.range m).map<|λi=>(all[i]?).elim 0 w).sum=((all.take m).map w).sum:=by
  intro m
  induction m with
  |zero=>intro _;rfl
  |succ m ih=>
   intro hm;rw[C3,ih (by omega),fJ (by omega),fu,List.sum_append,aS (by omega)];simp
 rw[this _<|bV _,gj]
theorem C5:∀{l m:List Nat},l.length=m.length->(∀(j x y:Nat),l[j]? =some x->m[j]? =some y->x<=y)->l.sum<=m.sum
 | [],[],_,_=>bV _
 | [],_::_,h,_=>by simp at h
 |_::_,[],h,_=>by simp at h
 |a::l,b::m,h,hle=>by
  have h1:=hle 0 a b rfl rfl;have h2:=C5 (l:=l) (m:=m) (by simpa using h) λj x y hx hy=>hle (j+1) x y (by simpa using hx) (by simpa using hy);rw[List.sum_cons,List.sum_cons];omega
theorem IW{r hs:List aI}{s:List aA}(h1:∀x∈r,f0 x=true)(h2:∀x∈hs,f0 x=true)(hc:fC (s.map cG))(hl:yV (uB r++uB hs) (jF r++jF hs) (s.map cG)):∀q∈aU s,f0 q=true/\q.X0<q.X1/\q.Y0<q.Y1:=by
 intro q hq;have hp:=uJ hc q hq;obtain⟨b,hb,p,hpm,rfl⟩:=r9 hq;have hll:=hl (cG b)<|dK.2 ⟨b,hb,rfl⟩
 have hm:=E1 p hpm;have bx:∀c∈uB r++uB hs,-1000000<=c/\c<=1000000:=λc hcm=>by
  rcases dS.1 hcm with h|h
  ·obtain⟨x,hx,h⟩:=uC.1 h;have:=nH<|h1 x hx
   rcases h with rfl|rfl <;> omega
  ·obtain⟨x,hx,h⟩:=uC.1 h;have:=nH<|h2 x hx
   rcases h with rfl|rfl <;> omega
 have by':∀c∈jF r++jF hs,-1000000<=c/\c<=1000000:=λc hcm=>by
  rcases dS.1 hcm with h|h
  ·obtain⟨x,hx,h⟩:=lU.1 h;have:=nH<|h1 x hx
   rcases h with rfl|rfl <;> omega
  ·obtain⟨x,hx,h⟩:=lU.1 h;have:=nH<|h2 x hx
   rcases h with rfl|rfl <;> omega
 have g1:=bx _<|hll.2.2 p.1 hm.1
 have g2:=bx _<|hll.2.2 p.2 hm.2
 have g3:=by' _ hll.1
 have g4:=by' _ hll.2.1
 exact⟨CP ⟨g1,g3,g2,g4⟩,hp⟩
structure sT (r hs:List aI) (s:List aA) (u:Nat->Nat) (ps:List (List aA)):Prop where
 r1:∀x∈r,f0 x=true
 r2:∀x∈hs,f0 x=true
 k1:∀x∈r,D0 x
 k2:∀x∈hs,D0 x
 dr:vj r hs s
 pt:tv s u ps
 CU:(aU s).length<=2000
theorem sT.part{r hs:List aI}{s:List aA}{u:Nat->Nat}{ps:List (List aA)}(h:sT r hs s u ps){p:List aA}(hp:p∈ps):fC (p.map cG)/\(aU p).length<=2000/\∀q∈aU p,f0 q=true/\q.X0<q.X1/\q.Y0<q.Y1:=by
 obtain⟨sx,sy⟩:=h.dr.small h.k1 h.k2;obtain⟨j,k,g1,g2,g3,g4⟩:=CT h.pt h.dr.can h.dr.lim sx sy hp
 have:=Ef h.dr.can g3.can (λx hx=>by
  obtain⟨i,_,_,hi⟩:=mx.1 hx
  exact fK hi) g3.cover
 have h2:=CL (aU s) (aU s).length u k;have:=h.CU;exact⟨g3.can,by omega,IW h.r1 h.r2 g3.can g4⟩
theorem sT.cE{r hs:List aI}{s:List aA}{u:Nat->Nat}{ps:List (List aA)}(h:sT r hs s u ps):∀i,i<(aU s).length->u i∈Gk.cE (aU s).length u:=λi hi=>jT.2 ⟨by have:=h.pt.join.le i hi;omega,h.pt.join.rr i hi⟩
theorem sT.total{r hs:List aI}{s:List aA}{u:Nat->Nat}{ps:List (List aA)}(h:sT r hs s u ps):(ps.map<|λp=>(aU p).length).sum<=(aU s).length:=by
 have h1:=Mu h.cE<|λ_=>1
 have one:∀l:List aI,(l.map<|λ_=>1).sum=l.length:=λl=>by
  induction l with
  |nil=>rfl
  |cons x l ih=>simp only[eB,List.sum_cons,ih,eM];omega
 simp only[one]at h1;rw[<-h1];refine C5 (by simp[h.pt.len]) λj x y hx hy=>?_;rw[iZ,Option.map_eq_some_iff]at hx hy;obtain⟨p,hp,rfl⟩:=hx;obtain⟨k,hk,rfl⟩:=hy;have hs:=h.pt.each j k p hk hp
 exact Ef h.dr.can hs.can (λx hx=>by
  obtain⟨i,_,_,hi⟩:=mx.1 hx
  exact fK hi) hs.cover
theorem G5{ps:List (List aA)}{x y:Int}:vW (ps.flatMap aU) x y=true↔∃p∈ps,vW (aU p) x y=true:=by
 rw[jE];constructor
 ·rintro⟨r,hr,h⟩;obtain⟨p,hp,hrp⟩:=List.mem_flatMap.1 hr;exact⟨p,hp,jE.2 ⟨r,hrp,h⟩⟩
 ·rintro⟨p,hp,h⟩;obtain⟨r,hr,h⟩:=jE.1 h;exact⟨r,List.mem_flatMap.2 ⟨p,hp,hr⟩,h⟩
theorem sT.cover{r hs:List aI}{s:List aA}{u:Nat->Nat}{ps:List (List aA)}(h:sT r hs s u ps)(x y:Int):vW (ps.flatMap aU) x y=vY (s.map cG) x y:=by
 rw[<-qo h.dr.can,eN,G5];constructor
 ·rintro⟨p,hp,hc⟩;obtain⟨j,hj⟩:=eX hp;have hjl:=(bE.1 hj).1;have hk:(Gk.cE (aU s).length u)[j]? =some ((Gk.cE (aU s).length u)[j]'(by rw[<-h.pt.len];exact hjl)):=aS _;have hs:=h.pt.each j _ _ hk hj;rw[qo hs.can,hs.cover]at hc;obtain⟨q,hq,h2⟩:=jE.1 hc;obtain⟨i,_,_,hi⟩:=mx.1 hq;exact jE.2 ⟨q,fK hi,h2⟩
 ·intro hc;obtain⟨q,hq,h2⟩:=jE.1 hc;obtain⟨i,hi⟩:=eX hq;have hil:=(bE.1 hi).1;obtain⟨j,hj⟩:=eX<|h.cE i hil
  have hjl:j<ps.length:=by rw[h.pt.len];exact(bE.1 hj).1
  have hs:=h.pt.each j _ _ hj<|aS hjl
  refine⟨_,dH hjl,?_⟩;rw[qo hs.can,hs.cover];exact jE.2 ⟨q,mx.2 ⟨i,hil,rfl,hi⟩,h2⟩
section
variable {a:fE}{mz:List (List aA)}{gY:List (List (List aA))}{r:Nat->Nat}{gs:List dL}{ofP ofB ry:List Int}{q9:List gM}
end
end
def C6(a b:aI):Prop:=(0<min a.X1 b.X1 - max a.X0 b.X0/\0<=min a.Y1 b.Y1 - max a.Y0 b.Y0)\/(0<=min a.X1 b.X1 - max a.X0 b.X0/\0<min a.Y1 b.Y1 - max a.Y0 b.Y0)
theorem JU{all:List aI}(hB:all.Pairwise sS)(hp:∀r∈all,r.X0<r.X1/\r.Y0<r.Y1){i j:Nat}{a c:aI}(ha:all[i]? =some a)(hc:all[j]? =some c):C6 a c↔i=j\/Ag all i j\/Ag all j i:=by
 have h1:Ag all i j↔E5 a c:=⟨λ⟨a',c',e1,e2,h⟩=>by rw[ha]at e1;rw[hc]at e2;injection e1 with e1;injection e2 with e2;rw[e1,e2];exact h,λh=>⟨a,c,ha,hc,h⟩⟩;have h2:Ag all j i↔E5 c a:=⟨λ⟨a',c',e1,e2,h⟩=>by rw[hc]at e1;rw[ha]at e2;injection e1 with e1;injection e2 with e2;rw[e1,e2];exact h,λh=>⟨c,a,hc,ha,h⟩⟩;have p1:=hp a<|fK ha
 have p2:=hp c<|fK hc
 rw[h1,h2];obtain⟨l1,e1⟩:=bE.1 ha;obtain⟨l2,e2⟩:=bE.1 hc;unfold C6 E5
 rcases Nat.lt_trichotomy i j with h|h|h
 ·have:=mT.1 hB i j l1 l2 h;rw[e1,e2]at this;unfold sS at this
  rcases this with this|this
  ·constructor
   ·rintro(h3|h3)
    ·exact .inr<|.inl ⟨by omega,by omega,by omega⟩
    ·omega
   ·rintro(h3|h3|h3)
    ·omega
    ·left;omega
    ·omega
  ·constructor
   ·rintro(h3|h3) <;> omega
   ·rintro(h3|h3|h3) <;> omega
 ·subst h;rw[ha]at hc;injection hc with hc;subst hc
  exact⟨λ_=> .inl rfl,λ_=> .inl (by omega)⟩
 ·have:=mT.1 hB j i l2 l1 h;rw[e1,e2]at this;unfold sS at this
  rcases this with this|this
  ·constructor
   ·rintro(h3|h3)
    ·exact .inr<|.inr ⟨by omega,by omega,by omega⟩
    ·omega
   ·rintro(h3|h3|h3)
    ·omega
    ·omega
    ·left;omega
  ·constructor
   ·rintro(h3|h3) <;> omega
   ·rintro(h3|h3|h3) <;> omega
theorem HX{α:Type}{q q':List α}(h:q <+:q'){t:Nat}{x:α}(hx:q[t]? =some x):q'[t]? =some x:=by
 obtain⟨r,rfl⟩:=h;rw[gN (bE.1 hx).1];exact hx
def vq(f:Int->Int->Bool)(x y:Int):Prop:=f x y=true/\∀x' y',f x' y'=true->y<y'\/(y=y'/\x<=x')
theorem vq.unique{f:Int->Int->Bool}{x y x' y':Int}(h:vq f x y)(h':vq f x' y'):x=x'/\y=y':=by
 have h1:=h.2 _ _ h'.1;have h2:=h'.2 _ _ h.1;omega
theorem HY{a:aI}{l:List aI}(hp:∀r∈a::l,r.X0<r.X1/\r.Y0<r.Y1)(hB:∀r∈l,sS a r):vq (vW<|a::l) a.X0 a.Y0:=by
 have pa:=hp a (by simp);refine⟨jE.2 ⟨a,by simp,by omega,by omega⟩,λx' y' h=>?_⟩;obtain⟨r,hr,hx,hy⟩:=jE.1 h
 rcases dO.1 hr with rfl|hr
 ·omega
 ·have:=hB r hr;unfold sS at this;omega
theorem HZ{s:List aA}(hc:fC (s.map cG))(hne:s≠[]):∃r t,aU s=r::t/\vq (λx y=>vY (s.map cG) x y) r.X0 r.Y0/\IQ s= ⟨r.X0,r.Y0⟩:=by
 cases s with
 |nil=>exact absurd rfl hne
 |cons b s=>
  have hx:=hc.each (cG b) (by simp);have hxs:b.Xs≠[]:=hx.2.1;have he:b.Xs.length % 2=0:=hx.2.2.2;obtain⟨x0,x1,xs,e⟩:∃x0 x1 xs,b.Xs=x0::x1::xs:=by
   match hb:b.Xs with
   | []=>exact absurd hb hxs
   | [x0]=>rw[hb]at he;simp at he
   |x0::x1::xs=>exact⟨x0,x1,xs,rfl⟩
  have hr:aU (b::s)= ⟨x0,b.Y0,x1,b.Y1⟩::((CD xs).map (λp=>(⟨p.1,b.Y0,p.2,b.Y1⟩:aI))++aU s):=by
   rw[nF];unfold nE;rw[e];rfl
  have hB:=rW hc;have hpos:=uJ hc;rw[hr]at hB hpos;refine⟨_,_,hr,?_,by unfold IQ;dsimp only;rw[e];rfl⟩;have:=HY hpos (oI.1 hB).1;rw[<-hr]at this;refine⟨?_,λx' y' h=>this.2 x' y' ?_⟩
  ·show vY _ _ _=true;rw[<-qo hc];exact this.1
  ·rw[qo hc];exact h
theorem Eg{all:List aI}{u:Nat->Nat}(hB:all.Pairwise sS)(hp:∀r∈all,r.X0<r.X1/\r.Y0<r.Y1)(hJ:Joined all u){h:Nat}{a:aI}(ha:all[h]? =some a)(hu:u h=h):vq (vW<|oe all all.length u h) a.X0 a.Y0:=by
 obtain⟨hl,e⟩:=bE.1 ha;have pa:=hp a<|fK ha
 refine⟨jE.2 ⟨a,mx.2 ⟨h,hl,hu,ha⟩,by omega,by omega⟩,λx' y' hc=>?_⟩;obtain⟨r,hr,hx,hy⟩:=jE.1 hc;obtain⟨k,hk,huk,hrk⟩:=mx.1 hr;have hle:=hJ.le k hk
 by_cases ek:k=h
 ·subst ek;rw[ha]at hrk;injection hrk with hrk;subst hrk;omega
 ·obtain⟨hl2,e2⟩:=bE.1 hrk;have:=mT.1 hB h k hl hl2 (by omega);rw[e,e2]at this;unfold sS at this;omega
theorem vr{u:Nat->Nat}:∀(d i:Nat),∃t,cE (i+d) u=cE i u++t
 | 0,i=>⟨[],by simp⟩
 |d+1,i=>by
  obtain⟨t,ht⟩:=vr (u:=u) d i;rw[<-Nat.add_assoc,je,ht];split
  ·exact⟨t++[i+d],by simp⟩
  ·exact⟨t,rfl⟩
theorem Lp{u:Nat->Nat}{i n:Nat}(hi:i<n)(hu:u i=i):(cE n u)[(cE i u).length]? =some i:=by
 obtain⟨t,ht⟩:=vr (u:=u) (n -(i+1))<|i+1
 rw[show i+1+(n -(i+1))=n by omega]at ht;rw[ht,je,aC hu];simp
section
variable {N:Nat}
theorem JV{a b:aI}(ha:D0 a)(hb:D0 b):jg N a b=some (decide<|C6 a b):=by
 have a1:=ha.s1;have a2:=ha.s2;have a3:=ha.s3;have a4:=ha.s4;have b1:=hb.s1;have b2:=hb.s2;have b3:=hb.s3;have b4:=hb.s4;unfold small at a1 a2 a3 a4 b1 b2 b3 b4;unfold jg;rw[tC,tC,pM,pM,eY (x:=min a.X1 b.X1 - max a.X0 b.X0) (by omega) (by omega),eY (x:=min a.Y1 b.Y1 - max a.Y0 b.Y0) (by omega) (by omega)];congr 1;rw[eN];unfold C6;simp only[dP,cD,bK,gt_iff_lt,ge_iff_le]
theorem insert_eq{l:List (List aI)}{r0:aI}{t:List aI}(hl:l.length<=1000000)(hN:4398046511104<=N)(h:∀x,l[l.length - 1]? =some x->∃x0 t',x=x0::t'/\¬(r0.Y0<x0.Y0\/(r0.Y0=x0.Y0/\r0.X0<x0.X0))):jJ N l (r0::t)=some (l++[r0::t]):=by
 refine T3 ?_;unfold jJ;refine Td (Ua (Go:=λs=>s=((l.length:Nat):Int)) (Rt:=λ_=>False) (λs=>s=((l.length:Nat):Int)) (λs=>0) ?_ rfl (by omega)) ?_
 ·rintro s rfl
  by_cases h0:l.length=0
  ·rw[bP (by omega),aT,aB,aT];exact TE rfl
  ·rw[bM (by omega),aQ,gC (by omega) (by omega)];have hx:l[l.length - 1]? =some (l[l.length - 1]'(by omega)):=aS _;obtain⟨x0,t',e,hn⟩:=h _ hx;have i1:idx (r0::t) 0=some r0:=rfl;have i2:idx (l[l.length - 1]'(by omega)) 0=some x0:=by rw[e];rfl
   rw[i1,aB,eD hx,aB,i2,aB];unfold iI
   rw[aB,aB,show((decide (r0.Y0<x0.Y0))||((r0.Y0==x0.Y0)&&(decide (r0.X0<x0.X0))))=false by
    rw[<-lF,dP,cD,bK,bK,beq_iff_eq];exact hn,aT]
   exact TE rfl
 intro o ho;refine TG ho ?_<|λr hr=>hr.elim
 rintro s rfl;refine SZ (t9 l l.length<|bV _)<|TW ?_<|TW ?_<|SZ (sA l l.length<|bV _)<|TW ?_<|S9 ?_
 ·rw[gj];simp only[List.length_nil];omega
 ·rw[gj];simp only[List.length_nil,dG,eM];omega
 ·rw[gj,List.drop_length];simp only[List.length_nil,dG,eM];omega
 ·simp
structure BI (all:List aI) (u:Nat->Nat) (i:Nat) (q:List Nat) (done:List Bool) (own:List aI):Prop where
 len:done.length=all.length
 nd:q.Nodup
 lt:∀k∈q,k<all.length/\u k=i
 hd:i∈q
 dn:∀k,k<all.length->done[k]? =some (decide<|u k<i\/k∈q)
 ow:own.map some=q.map (λk=>all[k]?)
theorem BI.QX{all:List aI}{u:Nat->Nat}{i:Nat}{q:List Nat}{done:List Bool}{own:List aI}(h:BI all u i q done own):own.length=q.length:=by
 have:=congrArg List.length h.ow;rwa[eL,eL]at this
theorem BI.CU{all:List aI}{u:Nat->Nat}{i:Nat}{q:List Nat}{done:List Bool}{own:List aI}(h:BI all u i q done own):q.length<=all.length:=by
 have:=ga h.nd (m:=List.range all.length) (λk hk=>by rw[oH];exact(h.lt k hk).1);rwa[List.length_range]at this
theorem BI.at_{all:List aI}{u:Nat->Nat}{i:Nat}{q:List Nat}{done:List Bool}{own:List aI}(h:BI all u i q done own){p k:Nat}(hk:q[p]? =some k):own[p]? =all[k]? :=by
 have e:=congrArg (λl=>l[p]?) h.ow;simp only[iZ,hk,Option.map_some]at e
 cases ho:own[p]? with
 |none=>rw[ho]at e;cases e
 |some x=>rw[ho]at e;injection e
theorem BI.mem{all:List aI}{u:Nat->Nat}{i:Nat}{q:List Nat}{done:List Bool}{own:List aI}(h:BI all u i q done own){r:aI}:r∈own↔∃k∈q,all[k]? =some r:=by
 have:r∈own↔some r∈own.map some:=by simp
 rw[this,h.ow,dK]
theorem G6{s:List aA}{u:Nat->Nat}{ps:List (List aA)}(hc:fC (s.map cG))(hP:tv s u ps)(hn:(aU s).length<=2000)(hok:∀r∈aU s,D0 r)(hps:∀p∈ps,(aU p).length<=2000)(hN:4398046511104<=N):
  gU N (aU s)=some (ps.map aU):=by
 refine T3 ?_;have hB:=rW hc;have hpos:=uJ hc;have hJ:=hP.join;have hlen:=hP.len;have heach:=hP.each;clear hP hc;generalize aU s=all at *;unfold gU;refine SZ (oQ false (by omega)) ?_;have hadj:∀a b,(Ag all a b\/Ag all b a)->u a=u b:=λa b h=>h.elim (λh=>hJ.co a b h)<|λh=>(hJ.co b a h).symm
 refine Td (T2 (n:=all.length) (λst=>st.2.2) (λi st=>st.1.length=all.length/\(∀k,k<all.length->st.1[k]? =some (decide (u k<i)))/\st.2.1=(ps.take (cE i u).length).map aU) (Go:=λst=>st.2.1=ps.map aU) (Rt:=λ_=>False) ?_ ?_ (eH _) rfl
  ⟨by simp,λk hk=>by simp[hk],by simp[cE]⟩ (by omega)) ?_
 ·rintro i⟨done,out,ii⟩hi e⟨hdl,hdn,hout⟩;dsimp only at e hdl hdn hout ⊢;subst e;rw[oF hi,aQ];refine Ti (hdn i hi)<|Ty (λhb=>?_)<|λhb=>?_
  ·have hlt:u i<i:=of_decide_eq_true hb;refine Tv ⟨bZ (by omega),hdl,λk hk=>?_,?_⟩
   ·rw[hdn k hk];congr 1;rw[decide_eq_decide];have hne:u k≠i:=λe=>by have:=hJ.rr k hk;rw[e]at this;omega
    omega
   ·rw[je,aD (by omega)];exact hout
  ·have hge:¬u i<i:=of_decide_eq_false hb;have hui:u i=i:=by have:=hJ.le i hi;omega
   have hx:all[i]? =some all[i]:=aS hi;refine Ti (hdn i hi)<|Ti hx ?_
   refine Td (Ua (Go:=λst=>st.1.length=all.length/\(∀k,k<all.length->st.1[k]? =some (decide (u k<i+1)))/\(∀r,r∈st.2.1↔r∈oe all all.length u i)/\st.2.1.length<=all.length) (Rt:=λ_=>False)
    (λst=>∃(q:List Nat)(t:Nat),st.2.2=((t:Nat):Int)/\t<=q.length/\BI all u i q st.1 st.2.1/\∀(p k j:Nat),p<t->q[p]? =some k->j<all.length->(Ag all k j\/Ag all j k)->j∈q)
    (λst=>all.length+1 - st.2.2.toNat) ?_ ⟨[i],0,rfl,by simp,?_,λp k j hp=>by omega⟩ (by simp;omega)) ?_
   ·rintro⟨d1,o1,t'⟩⟨q,t,e,ht,hI,hcl⟩;dsimp only at e hI ⊢;subst e;have hql:=hI.CU;have hol:=hI.QX
    by_cases hlt:t<q.length
    ·rw[oF (by omega:t<o1.length),aQ];have hqt:q[t]? =some q[t]:=aS hlt;have hkt:=hI.lt _<|dH hlt
     have hya:all[q[t]]? =some all[q[t]]:=aS hkt.1
     refine Td (T2 (n:=all.length) (λst=>st.2.2) (λj st=>∃q',q <+:q'/\BI all u i q' st.1 st.2.1/\∀j',j'<j->(Ag all q[t] j'\/Ag all j' q[t])->j'∈q')
      (Go:=λst=>∃q',q <+:q'/\BI all u i q' st.1 st.2.1/\∀j',j'<all.length->(Ag all q[t] j'\/Ag all j' q[t])->j'∈q') (Rt:=λ_=>False) ?_ ?_ (eH _) rfl ⟨q,List.prefix_refl _,hI,λj' hj=>by omega⟩ (by omega)) ?_
     ·rintro j⟨d2,o2,jj⟩hj e⟨q',hpre,hI',hc'⟩;dsimp only at e hI' ⊢;subst e;rw[oF hj,aQ];have hq't:q'[t]? =some q[t]:=by rw[HX hpre hqt]
      have hy2:o2[t]? =some all[q[t]]:=by rw[hI'.at_ hq't];exact hya
      have hz:all[j]? =some all[j]:=aS hj;have htc:=JU hB hpos hya hz;have hcond:((idx d2 ((j:Nat):Int)).bind λx1054=>bif(!x1054)then((idx o2 ((t:Nat):Int)).bind λx1056=>(idx all ((j:Nat):Int)).bind λx1058=>(jg N x1056 x1058).bind λx1061=>some x1061)else some false)=some (!decide (u j<i\/j∈q')&&decide (C6 all[q[t]] all[j])):=by
       rw[eD<|hI'.dn j hj,aB]
       cases decide (u j<i\/j∈q')with
       |true=>rfl
       |false=>rw[px,aQ,eD hy2,aB,eD hz,aB,JV (hok _ (dH hkt.1)) (hok _ (dH hj)),aB,Bool.true_and]
      refine SZ hcond ?_;refine Td (P:=λst:List Bool×List aI=>∃q',q <+:q'/\BI all u i q' st.1 st.2/\∀j',j'<j+1->(Ag all q[t] j'\/Ag all j' q[t])->j'∈q') (Ty (λhb=>?_)<|λhb=>?_)<|λst hst=>Tv ⟨bZ (by omega),hst⟩
      ·rw[cD,Bool.not_eq_true',decide_eq_false_iff_not,bK]at hb;have hju:u j=i:=by
        rcases htc.1 hb.2 with h|h
        ·rw[<-h];exact hkt.2
        ·rw[<-hadj _ _ h];exact hkt.2
       have hjq:j∉q':=λh=>hb.1<|.inr h
       have hol2:=hI'.QX;have hql2:=hI'.CU;refine Ti (hI'.dn j hj)<|Ti hz<|TW (by simp only[eM,List.length_nil];omega)<|S9 ⟨q'++[j],hpre.trans<|List.prefix_append _ _,⟨?_,?_,?_,?_,?_,?_⟩,?_⟩
       ·rw[hZ];exact hI'.len
       ·rw[List.nodup_append];exact⟨hI'.nd,by simp,λa ha b hb=>by simp at hb;subst hb;exact λe=>hjq<|e▸ha⟩
       ·intro k hk
        rcases dS.1 hk with hk|hk
        ·exact hI'.lt k hk
        ·simp at hk;subst hk;exact⟨hj,hju⟩
       ·exact List.mem_append_left _ hI'.hd
       ·intro k hk;rw[cN,fO]
        by_cases e:j=k
        ·subst e;rw[aC rfl,aC (by rw[hI'.len];exact hj)];congr 1;exact(bM<|.inr (by simp)).symm
        ·rw[aD e,hI'.dn k hk];congr 1;rw[decide_eq_decide,dS];simp only[List.mem_singleton];constructor
         ·exact λh=>h.elim .inl<|λh=> .inr<|.inl h
         ·exact λh=>h.elim .inl<|λh=>h.elim .inr<|λh=>absurd h.symm e
       ·rw[fu,fu,hI'.ow];simp[hz]
       ·intro j' hj' ha
        by_cases e:j'=j
        ·subst e;simp
        ·exact List.mem_append_left _<|hc' j' (by omega) ha
      ·refine S9 ⟨q',hpre,hI',λj' hj' ha=>?_⟩
       by_cases e:j'=j
       ·subst e;have hj2:u j'=i:=by rw[<-hadj _ _ ha];exact hkt.2
        rw[bM<|htc.2<|.inr ha,Bool.and_true,Bool.not_eq_false',bK]at hb
        rcases hb with hb|hb
        ·omega
        ·exact hb
       ·exact hc' j' (by omega) ha
     ·rintro⟨d2,o2,jj⟩e hI2;dsimp only at e hI2 ⊢;subst e;rw[rU,aT];exact TE hI2
     intro o ho;refine TG ho ?_<|λr hr=>hr.elim
     rintro⟨d2,o2,jj⟩⟨q',hpre,hI',hc'⟩;dsimp only at hI' ⊢;refine Tv ⟨⟨q',t+1,bZ (by omega),?_,hI',λp k j hp hk hj ha=>?_⟩,?_⟩
     ·have:=hpre.length_le;omega
     ·by_cases e:p=t
      ·subst e;rw[HX hpre hqt]at hk;injection hk with hk;subst hk
       exact hc' j hj ha
      ·have hpq:q[p]? =some (q[p]'(by omega)):=aS _;rw[HX hpre hpq]at hk;injection hk with hk;subst hk
       exact hpre.subset<|hcl p _ j (by omega) hpq hj ha
     ·rw[bZ (by omega)];simp only[cN];omega
    ·rw[Bh (by omega:o1.length<=t),aT];have htq:t=q.length:=by omega
     have hcls:∀k,k<all.length->(k∈q↔u k=i):=λk hk=>⟨λh=>(hI.lt k h).2,λh=>by
      have hstep:∀a b,Ag all a b->(a∈q↔b∈q):=λa b hab=>by
       have hab':=hab;obtain⟨ra,rb,e1,e2,_⟩:=hab';have hla:=(bE.1 e1).1;have hlb:=(bE.1 e2).1;constructor
       ·intro h';obtain⟨p,hp⟩:=eX h';exact hcl p a b (by rw[htq];exact(bE.1 hp).1) hp hlb<|.inl hab
       ·intro h';obtain⟨p,hp⟩:=eX h';exact hcl p b a (by rw[htq];exact(bE.1 hp).1) hp hla<|.inr hab
      exact hJ.fi (λk=>k∈q) hstep i k hi hk (by rw[hui,h]) hI.hd⟩
     refine TE ⟨hI.len,λk hk=>?_,λr=>?_,by rw[hol];exact hql⟩
     ·rw[hI.dn k hk];congr 1;rw[decide_eq_decide,hcls k hk];omega
     ·rw[hI.mem,mx];constructor
      ·rintro⟨k,hk,h⟩;exact⟨k,(hI.lt k hk).1,(hI.lt k hk).2,h⟩
      ·rintro⟨k,hk,h1,h2⟩;exact⟨k,(hcls k hk).2 h1,h2⟩
   ·refine⟨by rw[hZ];exact hdl,by simp,λk hk=>by simp at hk;subst hk;exact⟨hi,hui⟩,by simp,λk hk=>?_,by simp[hx]⟩;rw[cN,fO]
    by_cases e:i=k
    ·subst e;rw[aC rfl,aC (by rw[hdl];exact hi)];congr 1;exact(bM<|.inr (by simp)).symm
    ·rw[aD e,hdn k hk];congr 1;rw[decide_eq_decide];simp only[List.mem_singleton];omega
   intro o ho;refine TG ho ?_<|λr hr=>hr.elim
   rintro⟨d1,o1,t'⟩⟨g1,g2,g3,g4⟩;dsimp only at g1 g2 g3 g4 ⊢;have hh:=Lp hi hui;have hml:(cE i u).length<ps.length:=by rw[hlen];exact(bE.1 hh).1
   have hpp:ps[(cE i u).length]? =some ps[(cE i u).length]:=aS hml;have nM:=heach _ _ _ hh hpp;have hcov:∀x y,vY (ps[(cE i u).length].map cG) x y=vW o1 x y:=λx y=>by rw[nM.cover];exact(Mm g3 x y).symm
   have hpl:=hps _<|dH hml
   refine SZ (vo nM.can hcov (by omega) (λr hr=>?_) (by omega) hN) ?_
   ·obtain⟨k,_,_,hk⟩:=mx.1<|(g3 r).1 hr
    exact(hpos r<|fK hk).1
   have hfirst:∀(j h:Nat)p,(cE all.length u)[j]? =some h->ps[j]? =some p->∃r t a,aU p=r::t/\all[h]? =some a/\r.X0=a.X0/\r.Y0=a.Y0:=λj h p hj hp=>by
    have hs:=heach j h p hj hp;obtain⟨hhl,hhu⟩:=jT.1<|fK hj
    have ha:all[h]? =some all[h]:=aS hhl;have hne:p≠[]:=λe=>by
     have hL:=(Eg hB hpos hJ ha hhu).1;rw[<-hs.cover,e]at hL
     cases hL
    obtain⟨r,t,e1,e2,_⟩:=HZ hs.can hne;have e2':vq (vW<|oe all all.length u h) r.X0 r.Y0:=⟨by rw[<-hs.cover];exact e2.1,λx' y' hxy=>e2.2 x' y' (by simp only;rw[hs.cover];exact hxy)⟩;obtain⟨e3,e4⟩:=e2'.unique<|Eg hB hpos hJ ha hhu
    exact⟨r,t,all[h],e1,ha,e3,e4⟩
   obtain⟨r,t,a,e1,e2,e3,e4⟩:=hfirst _ _ _ hh hpp;have hheads:(cE i u).length<=i:=qp i u;rw[e1];refine SZ (insert_eq (by rw[hout,eL,cW];omega) hN<|λx hxl=>?_)<|Tv ⟨bZ (by omega),g1,g2,?_⟩
   ·have hol:out.length=(cE i u).length:=by rw[hout,eL,cW];omega
    have hpos2:0<(cE i u).length:=by
     have:=(bE.1 hxl).1;omega
    rw[hout,iZ,eL,cW,show min (cE i u).length ps.length=(cE i u).length by omega,List.getElem?_take_of_lt (by omega)]at hxl;have hp2:ps[(cE i u).length - 1]? =some (ps[(cE i u).length - 1]'(by omega)):=aS _;rw[hp2]at hxl;injection hxl with hxl
    have hh2:(cE i u)[(cE i u).length - 1]? =some ((cE i u)[(cE i u).length - 1]'(by omega)):=aS _;have hm2:=jT.1<|fK hh2
    obtain⟨tl,htl⟩:=vr (u:=u) (all.length - i) i;rw[show i+(all.length - i)=all.length by omega]at htl;have hh3:(cE all.length u)[(cE i u).length - 1]? =some ((cE i u)[(cE i u).length - 1]'(by omega)):=by rw[htl,gN (by omega)];exact hh2
    obtain⟨r',t',a',f1,f2,f3,f4⟩:=hfirst _ _ _ hh3 hp2;refine⟨r',t',by rw[<-hxl];exact f1,?_⟩;obtain⟨l1,q1⟩:=bE.1 f2;obtain⟨l2,q2⟩:=bE.1 e2;have hbh:=mT.1 hB _ _ l1 l2 hm2.1;rw[q1,q2]at hbh;have p1:=hpos a'<|fK f2
    unfold sS at hbh;rw[e3,e4,f3,f4];omega
   ·dsimp only;rw[je,aC hui,dG,hout];simp only[eM,List.length_nil];rw[fJ hml,fu,eB,List.map_nil,e1]
 ·rintro⟨done,out,ii⟩e⟨_,_,hout⟩;dsimp only at e hout ⊢;subst e;rw[rU,aT];refine TE ?_;dsimp only;rw[hout,mR (by rw[hlen];omega)]
 intro o ho;exact TG ho (λs hs=>S9 hs)<|λr hr=>hr.elim
end
section
variable {α β:Type}
theorem Lq{N:Nat}{l:List α}{s:β}{φ:α->β->Option Int}(c:α->Int)(hφ:∀x,φ x s=some (c x))(hs:∀(i j:Nat)(x y:α),i<j->l[i]? =some x->l[j]? =some y->0<=c x->0<c y)
  (hl:l.length<=1048576) (hN:4194304<=N):∃r,KR N l s φ=some r/\r.2=l.any (λx=>c x==0)/\(r.2=true->r.1=Jw l (λx=>c x==0)):=by
 show Ok (KR N l s φ) (λr=>r.2=l.any (λx=>c x==0)/\(r.2=true->r.1=Jw l (λx=>c x==0)));unfold KR
 refine Td (Ua (Go:=λst:Int×Int=>∃a:Nat,st.1=((a:Nat):Int)/\a<=l.length/\(∀j x,j<a->l[j]? =some x->c x<0)/\(∀j x,a<=j->l[j]? =some x->0<=c x)) (Rt:=λ_=>True)
  (λst=>∃a b:Nat,st=(((a:Nat):Int),((b:Nat):Int))/\a<=b/\b<=l.length/\(∀j x,j<a->l[j]? =some x->c x<0)/\(∀j x,b<=j->l[j]? =some x->0<=c x))
  (λst=>(st.2 - st.1).toNat) ?_ ⟨0,l.length,rfl,by omega,bV _,λj x hj=>by omega,λj x hj hx=>by have:=(bE.1 hx).1;omega⟩ (by simp only;omega)) ?_
 ·rintro st⟨a,b,rfl,hab,hb,h1,h2⟩;dsimp only
  by_cases hlt:a<b
  ·have hm:(a+b) / 2<l.length:=by omega
   have hx:l[(a+b) / 2]? =some l[(a+b) / 2]:=aS hm;rw[show decide (((a:Nat):Int)<((b:Nat):Int))=true by rw[bK];omega,aQ,Jx hlt (by omega:b<=4611686018427387904)];refine Ti hx<|SZ (hφ _) ?_
   by_cases hc:c l[(a+b) / 2]<0
   ·rw[bM hc,aQ,aB];refine Tv ⟨⟨(a+b) / 2+1,b,?_,by omega,hb,λj x hj hx'=>?_,h2⟩,?_⟩
    ·rw[bZ (by omega)]
    ·by_cases e:j=(a+b) / 2
     ·subst e;rw[hx]at hx';injection hx' with hx';rw[<-hx'];exact hc
     ·by_cases h0:c x<0
      ·exact h0
      ·have:=hs j _ x _ (by omega) hx' hx (by omega);omega
    ·rw[bZ (by omega)];simp only;omega
   ·rw[bP hc,aT,aB];refine Tv ⟨⟨a,(a+b) / 2,rfl,by omega,by omega,h1,λj x hj hx'=>?_⟩,by simp only;omega⟩
    by_cases e:j=(a+b) / 2
    ·subst e;rw[hx]at hx';injection hx' with hx';rw[<-hx'];omega
    ·have:=hs _ j _ x (by omega) hx hx' (by omega);omega
  ·rw[show decide (((a:Nat):Int)<((b:Nat):Int))=false by rw[decide_eq_false_iff_not];omega,aT];exact TE ⟨a,rfl,by omega,h1,λj x hj hx=>h2 j x (by omega) hx⟩
 intro o ho;refine TG ho ?_<|λr hr=>r.elim
 rintro⟨st1,st2⟩⟨a,ha,hle,h1,h2⟩;dsimp only at ha ⊢;subst ha
 by_cases hlt:a<l.length
 ·have hx:l[a]? =some l[a]:=aS hlt;rw[show decide (((a:Nat):Int)<((l.length:Nat):Int))=true by rw[bK];omega,aQ,eD hx,aB,hφ,aB,aB];refine S9 ?_
  by_cases he:c l[a]=0
  ·have hb:(c l[a]==0)=true:=by rw[beq_iff_eq];exact he
   rw[hb];refine⟨(kg.2 ⟨_,dH hlt,hb⟩).symm,λ_=>?_⟩;rw[Gy hx hb (λj y hj hy=>by have:=h1 j y hj hy;rw[beq_eq_false_iff_ne];omega)]
  ·have hb:(c l[a]==0)=false:=by rw[beq_eq_false_iff_ne];exact he
   rw[hb];refine⟨?_,λh=>by cases h⟩;symm;rw[List.any_eq_false];intro x hx';obtain⟨j,hj⟩:=eX hx';rw[lF,beq_eq_false_iff_ne]
   by_cases hja:j<a
   ·have:=h1 j x hja hj;omega
   ·by_cases e:j=a
    ·subst e;rw[hx]at hj;injection hj with hj;rw[<-hj];exact he
    ·have h3:=h2 a _ (bV _) hx;have:=hs a j _ x (by omega) hx hj h3;omega
 ·rw[show decide (((a:Nat):Int)<((l.length:Nat):Int))=false by rw[decide_eq_false_iff_not];omega,aT,aB];refine S9 ⟨?_,λh=>by cases h⟩;symm;rw[List.any_eq_false];intro x hx';obtain⟨j,hj⟩:=eX hx';have:=(bE.1 hj).1;have:=h1 j x (by omega) hj;rw[lF,beq_eq_false_iff_ne];omega
end
def w6(p q:eE):Prop:=eJ.lt p.Part q.Part\/(p.Part=q.Part/\eJ.lt p.eE q.eE)
theorem IX{p q:eE}(h1:p.Part=q.Part)(h2:p.eE=q.eE):p=q:=by cases p;cases q;simp at h1 h2;subst h1;subst h2;rfl
theorem w6.irrefl(p:eE):¬w6 p p:=λh=>by
 rcases h with h|⟨_,h⟩
 ·exact eJ.lt_irrefl _ h
 ·exact eJ.lt_irrefl _ h
theorem w6.trans{p q r:eE}(h1:w6 p q)(h2:w6 q r):w6 p r:=by
 rcases h1 with h1|⟨e1,h1⟩ <;> rcases h2 with h2|⟨e2,h2⟩
 ·exact .inl<|eJ.lt_trans h1 h2
 ·exact .inl (by rw[<-e2];exact h1)
 ·exact .inl (by rw[e1];exact h2)
 ·exact .inr ⟨e1.trans e2,eJ.lt_trans h1 h2⟩
theorem w6.total(p q:eE):w6 p q\/p=q\/w6 q p:=by
 rcases eJ.Gw p.Part q.Part with h|h|h
 ·exact .inl<|.inl h
 ·rcases eJ.Gw p.eE q.eE with h'|h'|h'
  ·exact .inl<|.inr ⟨h,h'⟩
  ·exact .inr<|.inl<|IX h h'
  ·exact .inr<|.inr<|.inr ⟨h.symm,h'⟩
 ·exact .inr<|.inr<|.inl h
theorem w6.asymm{p q:eE}(h:w6 p q):¬w6 q p:=λh'=>w6.irrefl p<|h.trans h'
theorem w6.ne{p q:eE}(h:w6 p q):p≠q:=λe=>by subst e;exact w6.irrefl _ h
theorem uK{a b:eJ}:Lib.compareBytes a.dD b.dD=0↔a=b:=⟨λh=>eJ.ext'<|(yx _ _).1 h,λh=>(yx _ _).2 (by rw[h])⟩
theorem ml{p q:eE}:gx p q=0↔p=q:=by
 unfold gx
 by_cases h:Lib.compareBytes p.Part.dD q.Part.dD=0
 ·rw[aD (by simpa using h),uK];exact⟨λh'=>IX (uK.1 h) h',λh'=>by rw[h']⟩
 ·rw[aC h];exact⟨λh'=>absurd h' h,λh'=>absurd (uK.2 (by rw[h'])) h⟩
theorem yO{p q:eE}:gx p q<0↔w6 p q:=by
 unfold gx w6
 by_cases h:Lib.compareBytes p.Part.dD q.Part.dD=0
 ·rw[aD (by simpa using h),yw];have e:=uK.1 h;constructor
  ·exact λh'=> .inr ⟨e,h'⟩
  ·rintro(h'|⟨_,h'⟩)
   ·rw[e]at h';exact absurd h'<|eJ.lt_irrefl _
   ·exact h'
 ·rw[aC h,yw];constructor
  ·exact λh'=> .inl h'
  ·rintro(h'|⟨e,_⟩)
   ·exact h'
   ·exact absurd (uK.2 e) h
theorem o0{p q:eE}:0<gx p q↔w6 q p:=by
 constructor
 ·intro h
  rcases w6.total p q with h'|h'|h'
  ·have:=yO.2 h';omega
  ·have:=ml.2 h';omega
  ·exact h'
 ·intro h
  by_cases h1:gx p q<0
  ·exact absurd (yO.1 h1) h.asymm
  ·by_cases h2:gx p q=0
   ·exact absurd (ml.1 h2).symm h.ne
   ·omega
section
variable {N:Nat}
structure H0 (a:fE) (x:dV):Prop where
 name:og x.Part=true/\isWord x.eE=true
 QR:0<=x.fP/\x.fP<((a.aL.length:Nat):Int)
 at_:rq x.At=true
structure n0 (a:fE):Prop where
 CU:a.bN.length<=1000
 each:∀x∈a.bN,H0 a x
 up:a.bN.Pairwise (λx y=>w6 (kd x)<|kd y)
theorem Fg{a:fE}{k:Nat}{x:dV}(hx:a.bN[k]? =some x)(h:jU a k=none):H0 a x/\∀y,0<k->a.bN[k - 1]? =some y->w6 (kd y) (kd x):=by
 unfold jU at h;rw[hx,Option.bind_some]at h;split at h
 ·rename_i h1;split at h
  ·rename_i h2;split at h
   ·cases h
   ·rename_i h3;rw[cD]at h1 h2;unfold fZ at h2;rw[cD,bK,bK]at h2;refine⟨⟨h1,⟨by omega,by omega⟩,h2.2⟩,λy hk hy=>?_⟩;have h4:¬gx (kd x) (kd y)<=0:=λh4=>h3 ⟨hk,y,hy,h4⟩;exact o0.1 (by omega)
  ·cases h
 ·cases h
theorem C7{a:fE}{k:Nat}{e:Int}(h:jU a k=some e):e≠0:=by
 unfold jU at h
 cases hx:a.bN[k]? with
 |none=>rw[hx]at h;cases h
 |some x=>
  rw[hx,Option.bind_some]at h
  repeat' split at h
  all_goals first|(injection h with h;omega)|cases h
theorem JW{a:fE}(h:lX a=0):n0 a:=by
 unfold lX at h;split at h
 ·omega
 rename_i hl;have hn:qK a.bN.length (jU a)=none:=by
  cases hf:qK a.bN.length (jU a)with
  |none=>rfl
  |some e=>
   rw[hf]at h;obtain⟨k,_,hk,_⟩:=kz.1 hf;exact absurd h<|C7 hk
 rw[ky]at hn;have hg:∀(k:Nat)x,a.bN[k]? =some x->H0 a x/\∀y,0<k->a.bN[k - 1]? =some y->w6 (kd y) (kd x):=λk x hx=>Fg hx<|hn k (bE.1 hx).1
 refine⟨by omega,λx hx=>?_,?_⟩
 ·obtain⟨k,hk⟩:=eX hx;exact(hg k x hk).1
 ·have hstep:∀(n i:Nat)x y,a.bN[i]? =some x->a.bN[i+n+1]? =some y->w6 (kd x) (kd y):=by
   intro n
   induction n with
   |zero=>intro i x y hx hy;exact(hg (i+1) y hy).2 x (by omega) hx
   |succ n ih=>
    intro i x y hx hy;have hz:i+n+1<a.bN.length:=by have:=(bE.1 hy).1;omega
    have h1:=ih i x _ hx<|aS hz
    exact h1.trans<|(hg (i+(n+1)+1) y hy).2 _ (by omega) (by rw[show i+(n+1)+1 - 1=i+n+1 by omega];exact aS hz)
  rw[mT];intro i j hi hj hij;exact hstep (j - i - 1) i _ _ (aS hi) (by rw[show i+(j - i - 1)+1=j by omega];exact aS hj)
theorem n0.inj{a:fE}(h:n0 a){i j:Nat}{x y:dV}(hx:a.bN[i]? =some x)(hy:a.bN[j]? =some y)(e:kd x=kd y):i=j:=by
 obtain⟨h1,rfl⟩:=bE.1 hx;obtain⟨h2,rfl⟩:=bE.1 hy;have hp:=mT.1 h.up
 rcases Nat.lt_trichotomy i j with h3|h3|h3
 ·exact absurd e (hp i j h1 h2 h3).ne
 ·exact h3
 ·exact absurd e.symm (hp j i h2 h1 h3).ne
theorem G7{l:List dV}{p:eE}(hu:l.Pairwise (λx y=>w6 (kd x)<|kd y))(hl:l.length<=1048576)(hN:4194304<=N){φ:dV->eE->Option Int}(hφ:∀x,φ x p=some (gx (kd x) p)):
  ∃r,KR N l p φ=some r/\(bif(!r.2)then some (-1)else some r.1)=some (Jw l<|λx=>decide<|kd x=p):=by
 obtain⟨r,h1,h2,h3⟩:=Lq (N:=N) (l:=l) (s:=p) (φ:=φ) (λx=>gx (kd x) p) hφ (λi j x y hij hx hy hc=>by
  obtain⟨g1,rfl⟩:=bE.1 hx;obtain⟨g2,rfl⟩:=bE.1 hy;have hlt:=mT.1 hu i j g1 g2 hij;refine o0.2 ?_
  by_cases h0:gx (kd l[i]) p=0
  ·rw[<-ml.1 h0];exact hlt
  ·exact(o0.1 (by omega)).trans hlt) hl hN
 have e:(λx=>gx (kd x) p==0)=(λx=>decide<|kd x=p):=by
  funext x;rw[eN,beq_iff_eq,bK,ml]
 rw[e]at h2 h3;refine⟨r,h1,?_⟩
 cases hr:r.2 with
 |true=>simp only[mU,aT];rw[h3 hr]
 |false=>
  simp only[px,aQ];rw[hr]at h2;rw[Gx h2.symm]
def iW(a:fE)(p:eE):Int:=Jw a.bN<|λx=>decide<|kd x=p
theorem Bo(a:fE)(p:eE):(iW a p = -1/\∀x∈a.bN,kd x≠p)\/∃(k:Nat)(x:dV),iW a p=((k:Nat):Int)/\a.bN[k]? =some x/\kd x=p:=by
 rcases xu a.bN (λx=>decide<|kd x=p)with⟨h1,h2⟩|⟨k,x,h1,h2,h3,_⟩
 ·exact .inl ⟨h1,λx hx=>of_decide_eq_false<|h2 x hx⟩
 ·exact .inr ⟨k,x,h1,h2,of_decide_eq_true h3⟩
end
theorem w7{α β:Type}{l:List α}{f:α->Option β}{k:Nat}{x:α}{c:β}(hx:l[k]? =some x)(hn:∀(j:Nat)y,j<k->l[j]? =some y->f y=none)(hc:f x=some c):l.findSome? f=some c:=by
 obtain⟨hk,rfl⟩:=bE.1 hx;rw[List.findSome?_eq_some_iff];refine⟨l.take k,l[k],l.drop<|k+1,?_,hc,λy hy=>?_⟩
 ·rw[List.getElem_cons_drop,List.take_append_drop]
 ·obtain⟨j,hj⟩:=eX hy;have hjk:j<k:=by have:=(bE.1 hj).1;rw[cW]at this;omega
  exact hn j y hjk (by rw[List.getElem?_take_of_lt hjk]at hj;exact hj)
theorem Bp{α β:Type}{l:List α}{f:α->Option β}(h:∀(j:Nat)y,j<l.length->l[j]? =some y->f y=none):l.findSome? f=none:=by
 rw[List.findSome?_eq_none_iff];intro x hx;obtain⟨j,hj⟩:=eX hx;exact h j x (bE.1 hj).1 hj
section
variable {N:Nat}
theorem QY(c:UInt8):(bif(!(((decide (((c.toNat:Nat):Int)>=97)&&decide (((c.toNat:Nat):Int)<=122))||(decide (((c.toNat:Nat):Int)>=65)&&decide (((c.toNat:Nat):Int)<=90)))||(decide (((c.toNat:Nat):Int)>=48)&&decide (((c.toNat:Nat):Int)<=57))))then((ig N (⟨[95,43,45,35]⟩) ((c.toNat:Nat):Int)).bind λx50=>some<|decide<|x50<0)else some false)=some (GJ c):=by
 rw[vh,aB];unfold GJ;generalize decide (Lib.indexByte (⟨[95,43,45,35]⟩:eJ).dD c<0)=p;have e:(!(((decide (((c.toNat:Nat):Int)>=97)&&decide (((c.toNat:Nat):Int)<=122))||(decide (((c.toNat:Nat):Int)>=65)&&decide (((c.toNat:Nat):Int)<=90)))||(decide (((c.toNat:Nat):Int)>=48)&&decide (((c.toNat:Nat):Int)<=57))))=(((decide (((c.toNat:Nat):Int)<65)||decide (((c.toNat:Nat):Int)>90))&&(decide (((c.toNat:Nat):Int)<97)||decide (((c.toNat:Nat):Int)>122)))&&(decide (((c.toNat:Nat):Int)<48)||decide (((c.toNat:Nat):Int)>57))):=by
  rw[eN];simp only[Bool.not_eq_true',Bool.or_eq_false_iff,Bool.and_eq_false_iff,decide_eq_false_iff_not,cD,dP,bK];omega
 rw[e]
 cases(((decide (((c.toNat:Nat):Int)<65)||decide (((c.toNat:Nat):Int)>90))&&(decide (((c.toNat:Nat):Int)<97)||decide (((c.toNat:Nat):Int)>122)))&&(decide (((c.toNat:Nat):Int)<48)||decide (((c.toNat:Nat):Int)>57)))with
 |true=>rw[aQ,Bool.true_and]
 |false=>rw[aT,Bool.false_and]
theorem Bq{s:eJ}(h:s.dD.length<=1048576)(hN:4194304<=N):gH N s=some (isWord s):=by
 refine T3 ?_;unfold gH isWord;refine Td (T2 (n:=s.dD.length) (λs=>s) (λk _=>∀(j:Nat)x,j<k->s.dD[j]? =some x->GJ x=false) (Go:=λ_=>s.dD.any GJ=false) (Rt:=λr=>r=false/\s.dD.any GJ=true) ?_ ?_ (eH _) rfl (λj x hj=>by omega) (by omega)) ?_
 ·rintro k i hk e hI;subst e;rw[oF hk,aQ];refine SZ (Gv s k hk)<|SZ (QY _)<|Ty (λhb=>T8 ⟨rfl,kg.2 ⟨_,dH hk,hb⟩⟩)<|λhb=>Tv ⟨bZ (by omega),λj x hj hx=>?_⟩
  by_cases e:j=k
  ·subst e;rw[aS hk]at hx;injection hx with hx;rw[<-hx];exact hb
  ·exact hI j x (by omega) hx
 ·rintro i e hI;subst e;rw[rU,aT];refine TE ?_;rw[List.any_eq_false];intro x hx;obtain⟨j,hj⟩:=eX hx;rw[hI j x (bE.1 hj).1 hj];exact pr
 intro o ho;refine TG ho (λs' hs'=>?_)<|λr hr=>S9 (by rw[hr.1,hr.2];rfl)
 rw[hs'];show Ok ((some _).bind _) _;refine S9 ?_;rw[px,Bool.true_and];congr 1 <;> · rw[decide_eq_decide];omega
theorem G8{s:eJ}(h:s.dD.length<=1048576)(hN:4194304<=N):jI N s=some (og s):=by
 refine T3 ?_;unfold jI og;refine SZ (GL 47 h hN) ?_;have hsn:=D7 s 47;refine Td (T2 (n:=(oY s 47).length) (λs=>s) (λk _=>∀(j:Nat)x,j<k->(oY s 47)[j]? =some x->isWord x=true) (Go:=λ_=>(oY s 47).all isWord=true) (Rt:=λr=>r=false/\(oY s 47).all isWord=false) ?_ ?_ (eH _) rfl (λj x hj=>by omega) (by omega)) ?_
 ·rintro k i hk e hI;subst e;rw[oF hk,aQ];have hx:(oY s 47)[k]? =some (oY s 47)[k]:=aS hk;have hl:=D6<|dH hk
  refine Ti hx<|SZ (Bq (by omega) hN)<|Ty (λhb=>T8 ⟨rfl,?_⟩)<|λhb=>Tv ⟨bZ (by omega),λj x hj hx'=>?_⟩
  ·rw[List.all_eq_false];exact⟨_,dH hk,by simpa using hb⟩
  ·by_cases e:j=k
   ·subst e;rw[hx]at hx';injection hx' with hx';rw[<-hx'];simpa using hb
   ·exact hI j x (by omega) hx'
 ·rintro i e hI;subst e;rw[rU,aT];refine TE ?_;rw[lG];intro x hx;obtain⟨j,hj⟩:=eX hx;exact hI j x (bE.1 hj).1 hj
 intro o ho;refine TG ho (λs' hs'=>S9 ?_)<|λr hr=>S9 (by rw[hr.1,hr.2,Bool.and_false])
 rw[hs',Bool.and_true,decide_eq_decide];omega
theorem tD(n lo hi:Int):eK N n lo hi=some (fZ n lo hi):=rfl
theorem qA{b:cP}(h:ru b=true):dI N b=some (wS b):=nG (N:=N) h
theorem AU{b:cP}:gZ N b=some (mZ b).2:=by
 have e1:(bif(!(fZ b.dQ 1 10000))then some true else some (!(rq b.At)))=some (!ru b):=by unfold ru;cases fZ b.dQ 1 10000 <;> rfl
 have e2:∀n,cU N n=some (lV n):=λ_=>rfl;unfold gZ mZ;rw[tD,aB,Bg,aB,e1,aB]
 cases hf:ru b with
 |false=>rfl
 |true=>
  rw[mU,aT,qA hf,aB];simp only[e2,aB];unfold f0
  cases lV (wS b).X0 <;> cases lV (wS b).Y0 <;> cases lV (wS b).X1 <;> cases lV (wS b).Y1 <;> rfl
theorem Ow{x y:dV}:(x.Part.m6 y.Part||(x.Part.oj y.Part&&(x.eE.m6 y.eE||x.eE.oj y.eE)))=decide (gx (kd x) (kd y)<=0):=by
 have hle:gx (kd x) (kd y)<=0↔w6 (kd x) (kd y)\/kd x=kd y:=by
  rw[<-yO,<-ml];omega
 rw[eN,bK,hle,dP,cD,dP,zu,zu];unfold w6 kd;simp only[eE.mk.injEq];constructor
 ·rintro(h|⟨h1,h2|h2⟩)
  ·exact .inl<|.inl h
  ·exact .inl<|.inr ⟨h1,h2⟩
  ·exact .inr ⟨h1,h2⟩
 ·rintro((h|⟨h1,h2⟩)|⟨h1,h2⟩)
  ·exact .inl h
  ·exact .inr ⟨h1, .inl h2⟩
  ·exact .inr ⟨h1, .inr h2⟩
theorem C8{a:fE}(hc:a.aL.length<=1073741824)(hl:a.bN.length<=1073741824){k:Nat}{x:dV}(hx:a.bN[k]? =some x)(hn:x.Part.dD.length<=1048576/\x.eE.dD.length<=1048576)(hN:4194304<=N):iK N a ((k:Nat):Int)=some ((jU a k).getD 0):=by
 have hk:=(bE.1 hx).1;have hw:wrap .i64 (((a.aL.length:Nat):Int) - 1)=((a.aL.length:Nat):Int) - 1:=eY (by omega) (by omega);unfold iK jU;rw[eD hx,aB,G8 hn.1 hN,aB,hx,Option.bind_some];have e1:(bif(!(og x.Part))then some true else((gH N x.eE).bind λx44=>some<|!x44))=some (!(og x.Part&&isWord x.eE)):=by
  rw[Bq hn.2 hN,aB]
  cases og x.Part <;> rfl
 rw[e1,aB]
 cases h1:(og x.Part&&isWord x.eE)with
 |false=>rw[px,aQ,aD pr];rfl
 |true=>
  rw[mU,aT,aC rfl,hw,tD,aB];have e2:(bif(!(fZ x.fP 0<|((a.aL.length:Nat):Int) - 1))then some true else((gq N x.At).bind λx57=>some<|!x57))=some (!(fZ x.fP 0 (((a.aL.length:Nat):Int) - 1)&&rq x.At)):=by
   rw[Bg,aB]
   cases fZ x.fP 0 (((a.aL.length:Nat):Int) - 1) <;> rfl
  rw[e2,aB]
  cases h2:(fZ x.fP 0 (((a.aL.length:Nat):Int) - 1)&&rq x.At)with
  |false=>rw[px,aQ,aD pr];rfl
  |true=>
   rw[mU,aT,aC rfl]
   by_cases h0:0<k
   ·have hy:a.bN[k - 1]? =some (a.bN[k - 1]'(by omega)):=aS _;rw[bM (by omega),aQ,gC h0 (by omega),eD hy,aB,Ow]
    by_cases h3:gx (kd x) (kd<|a.bN[k - 1]'(by omega))<=0
    ·rw[bM h3,aQ,aC ⟨h0,_,hy,h3⟩];rfl
    ·rw[bP h3,aT,aD (by rintro⟨_,y,hy',h4⟩;rw[hy]at hy';injection hy' with hy';subst hy';exact h3 h4)];rfl
   ·rw[bP (by omega),aT,aD<|λh=>h0 h.1];rfl
noncomputable def mA(a:fE):Int:=if a.aL.length=0 then 9 else if 16<a.aL.length then 2 else match a.aL.findSome? uF with
 |some e=>e
 |none=>if jk a.dC≠0 then jk a.dC else if 2000<a.dC.length+(a.aL.map List.length).sum then 2 else if jf a≠0 then jf a else lX a
theorem G9(a:fE):ke a=if mA a≠0 then mA a else if rz a then 12 else 0:=by
 unfold ke mA JO DH
 by_cases h0:a.aL.length=0
 ·rw[aC h0,aC h0,aC (by decide)]
 rw[aD h0,aD h0]
 by_cases h1:16<a.aL.length
 ·rw[aC h1,aC h1,aC (by decide)]
 rw[aD h1,aD h1]
 cases hf:a.aL.findSome? uF with
 |some e=>
  have he:e≠0:=by
   obtain⟨_,x,_,_,hx,_⟩:=List.findSome?_eq_some_iff.1 hf;unfold uF at hx;split at hx
   ·rename_i h;injection hx with hx;rw[<-hx];exact h
   ·cases hx
  dsimp only;rw[aC he]
 |none=>
  dsimp only
  by_cases h2:jk a.dC≠0
  ·rw[aC h2,aC h2,aC h2]
  rw[aD h2,aD h2]
  by_cases h3:2000<a.dC.length+(a.aL.map List.length).sum
  ·rw[aC h3,aC h3,aC (by decide)]
  rw[aD h3,aD h3]
  by_cases h4:jf a≠0
  ·rw[aC h4,aC h4,aC h4]
  rw[aD h4,aD h4]
theorem C9{a:fE}(h:mA a=0):jf a=0:=by
 unfold mA at h
 by_cases h0:a.aL.length=0
 ·rw[aC h0]at h;omega
 rw[aD h0]at h
 by_cases h1:16<a.aL.length
 ·rw[aC h1]at h;omega
 rw[aD h1]at h
 cases hf:a.aL.findSome? uF with
 |some e=>
  rw[hf]at h;have h:e=0:=h;obtain⟨_,x,_,_,hx,_⟩:=List.findSome?_eq_some_iff.1 hf;unfold uF at hx;split at hx
  ·rename_i h';injection hx with hx;rw[hx]at h';exact absurd h h'
  ·cases hx
 |none=>
  rw[hf]at h;dsimp only at h
  by_cases h2:jk a.dC≠0
  ·rw[aC h2]at h;exact absurd h h2
  rw[aD h2]at h
  by_cases h3:2000<a.dC.length+(a.aL.map List.length).sum
  ·rw[aC h3]at h;omega
  rw[aD h3]at h
  by_cases h4:jf a≠0
  ·rw[aC h4]at h;exact absurd h h4
  ·simpa using h4
theorem BF{a:fE}(hs:uG a)(hN:4398046511104<=N):ir N a=some (mA a):=by
 refine T3 ?_;have c1:=hs.cs;have c2:=hs.out;have c3:=hs.bs;have c4:=hs.ls;unfold ir mA;refine Ty (λh=>S9 ?_)<|λh=>?_
 ·rw[aC (by have:=beq_iff_eq.1 h;omega)]
 have h0:¬a.aL.length=0:=by rw[beq_eq_false_iff_ne]at h;omega
 rw[aD h0];refine Ty (λh=>S9 ?_)<|λh=>?_
 ·rw[aC (by have:=of_decide_eq_true h;omega)]
 have h1:¬16<a.aL.length:=by have:=of_decide_eq_false h;omega
 rw[aD h1];have sumle:∀k,k<=a.aL.length->((a.aL.take k).map List.length).sum<=k*1048576:=by
  intro k
  induction k with
  |zero=>intro _;simp
  |succ k ih=>
   intro hk;have:=ih (by omega);have h2:=hs.each _<|dH (show k<a.aL.length by omega)
   rw[fJ (by omega),fu,List.sum_append];simp only[eB,List.map_nil,List.sum_cons,List.sum_nil];rw[Nat.add_mul];omega
 refine Td (T2 (n:=a.aL.length) (λs=>s.2) (λk s=>s.1=((a.dC.length+((a.aL.take k).map List.length).sum:Nat):Int)/\∀(j:Nat)r,j<k->a.aL[j]? =some r->uF r=none)
  (Go:=λs=>s.1=((a.dC.length+(a.aL.map List.length).sum:Nat):Int)/\a.aL.findSome? uF=none) (Rt:=λr=>a.aL.findSome? uF=some r) ?_ ?_ (eH _) rfl ⟨by simp,λj r hj=>by omega⟩ (by omega)) ?_
 ·rintro k⟨m,i⟩hk e⟨hm,hI⟩;dsimp only at e hm ⊢;subst e;subst hm;have hx:a.aL[k]? =some a.aL[k]:=aS hk;have he:=hs.each _<|dH hk
  have hsl:=sumle k (by omega);rw[oF hk,aQ];refine Ti hx<|SZ (vD (by omega) hN)<|Ty (λhb=>T8 ?_)<|λhb=>Ti hx<|Tv ⟨bZ (by omega),?_,λj r hj hr=>?_⟩
  ·exact w7 hx hI (by unfold uF;rw[aC (by simpa using hb)])
  ·dsimp only;rw[wrap_add (by omega),fJ hk,fu,List.sum_append];simp only[eB,List.map_nil,List.sum_cons,List.sum_nil];omega
  ·by_cases e:j=k
   ·subst e;rw[hx]at hr;injection hr with hr;rw[<-hr]
    unfold uF;rw[aD (by simpa using hb)]
   ·exact hI j r (by omega) hr
 ·rintro⟨m,i⟩e⟨hm,hI⟩;dsimp only at e hm ⊢;subst e;rw[rU,aT];rw[gj]at hm;exact TE ⟨hm,Bp hI⟩
 intro o ho;refine TG ho ?_<|λr hr=>S9 (by rw[hr])
 rintro⟨m,i⟩⟨hm,hf⟩;dsimp only at hm ⊢;subst hm;rw[hf];dsimp only;refine SZ (vD (by omega) hN)<|Ty (λh=>S9 ?_)<|λh=>?_
 ·rw[aC (by simpa using h)]
 rw[aD (by simpa using h)];have hmr:Ok (bif decide (((a.dC.length+(a.aL.map List.length).sum:Nat):Int)>2000)then some true else some (decide<|((a.aV.length:Nat):Int)>500)) (λb=>b=decide (2000<a.dC.length+(a.aL.map List.length).sum\/500<a.aV.length)):=by
  by_cases h2:2000<a.dC.length+(a.aL.map List.length).sum
  ·rw[bM (by omega),aQ];exact S9 (bM<|.inl h2).symm
  ·rw[bP (by omega),aT];refine S9 ?_;rw[decide_eq_decide];omega
 refine Td hmr λb hb=>?_;subst hb;refine Ty (λh=>S9 ?_)<|λh=>?_
 ·have h:=of_decide_eq_true h
  by_cases h2:2000<a.dC.length+(a.aL.map List.length).sum
  ·rw[aC h2]
  ·rw[aD h2];have hb:jf a=2:=by unfold jf;rw[aC (by omega)]
   rw[hb,aC (by decide)]
 have h:=of_decide_eq_false h;rw[aD (by omega)];have hbe:jf a=(a.aV.findSome?<|mh a.aL.length).getD 0:=by unfold jf;rw[aD (by omega)]
 have hw:wrap .i64 (((a.aL.length:Nat):Int) - 1)=((a.aL.length:Nat):Int) - 1:=eY (by omega) (by omega);refine Td (T2 (n:=a.aV.length) (λs=>s) (λk _=>∀(j:Nat)b,j<k->a.aV[j]? =some b->mh a.aL.length b=none) (Go:=λ_=>a.aV.findSome? (mh a.aL.length)=none) (Rt:=λr=>a.aV.findSome? (mh a.aL.length)=some r/\r≠0) ?_ ?_ (eH _) rfl (λj b hj=>by omega) (by omega)) ?_
 ·rintro k i hk e hI;subst e;rw[oF hk,aQ];have hx:a.aV[k]? =some a.aV[k]:=aS hk;refine Ti hx<|SZ AU<|Ty (λhb=>T8 ?_)<|λhb=>?_
  ·have hb:(mZ a.aV[k]).2≠0:=by simpa using hb
   exact⟨w7 hx hI (by unfold mh;rw[aC hb]),hb⟩
  ·have hb:¬(mZ a.aV[k]).2≠0:=by simpa using hb
   rw[hw];have e2:((eK N a.aV[k].cR 0<|((a.aL.length:Nat):Int) - 1).bind λx135=>bif(!x135)then some true else((eK N a.aV[k].To a.aV[k].cR<|((a.aL.length:Nat):Int) - 1).bind λx138=>some<|!x138))=some (!(fZ a.aV[k].cR 0 (((a.aL.length:Nat):Int) - 1)&&fZ a.aV[k].To a.aV[k].cR (((a.aL.length:Nat):Int) - 1))):=by
    rw[tD,aB,tD,aB]
    cases fZ a.aV[k].cR 0 (((a.aL.length:Nat):Int) - 1) <;> rfl
   refine SZ e2<|Ty (λh3=>T8 ⟨w7 hx hI ?_,by decide⟩)<|λh3=>Tv ⟨bZ (by omega),λj b hj hb'=>?_⟩
   ·unfold mh;rw[aD hb,aD (by rintro⟨g1,g2⟩;rw[g1,g2]at h3;cases h3)]
   ·by_cases e:j=k
    ·subst e;rw[hx]at hb';injection hb' with hb';rw[<-hb']
     rw[Bool.not_eq_false',cD]at h3;unfold mh;rw[aD hb,aC h3]
    ·exact hI j b (by omega) hb'
 ·rintro i e hI;subst e;rw[rU,aT];exact TE<|Bp hI
 intro o ho;refine TG ho ?_<|λr hr=>S9 ?_
 rotate_left
 ·rw[hbe,hr.1,Option.getD_some,aC hr.2]
 intro _ hbn;rw[hbe,hbn,Option.getD_none,aD (by decide)];unfold lX;refine Ty (λh=>S9 ?_)<|λh=>?_
 ·rw[aC (by have:=of_decide_eq_true h;omega)]
 have h5:¬1000<a.bN.length:=by have:=of_decide_eq_false h;omega
 rw[aD h5];refine Td (T2 (n:=a.bN.length) (λs=>s) (λk _=>∀j,j<k->jU a j=none) (Go:=λ_=>qK a.bN.length (jU a)=none) (Rt:=λr=>qK a.bN.length (jU a)=some r) ?_ ?_ (eH _) rfl (λj hj=>by omega) (by omega)) ?_
 ·rintro k i hk e hI;subst e;rw[oF hk,aQ];have hx:a.bN[k]? =some a.bN[k]:=aS hk;refine SZ (C8 (by omega) (by omega) hx (hs.nm _<|dH hk) (by omega))<|Ty (λhb=>T8 ?_)<|λhb=>Tv ⟨bZ (by omega),λj hj=>?_⟩
  ·cases hl:jU a k with
   |none=>rw[hl]at hb;cases hb
   |some e=>exact kz.2 ⟨k,hk,hl,hI⟩
  ·by_cases e:j=k
   ·subst e
    cases hl:jU a j with
    |none=>rfl
    |some e=>rw[hl]at hb;exact absurd (by simpa using hb) (C7 hl)
   ·exact hI j (by omega)
 ·rintro i e hI;subst e;rw[rU,aT];exact TE<|ky.2 hI
 intro o ho;exact TG ho (λ_ h=>S9 (by rw[h];rfl))<|λr hr=>S9 (by rw[hr];rfl)
theorem Fh(b:cP)(k:Int):kR N b k=some (lv b k):=rfl
theorem Da{a:fE}{i:Nat}{r:List aI}{s:List aA}(hb:nY a.aV)(hr:a.aL[i]? =some r)(hrl:r.length<=2000)(hro:∀x∈r,D0 x)(hd:vj r (lx a.aV ((i:Nat):Int)) s)(hN:4398046511104<=N):iN N a ((i:Nat):Int)=some (aU s):=by
 refine T3 ?_;have hbl:=hb.len;have hhl:=AN hb ((i:Nat):Int);have hho:=wV hb ((i:Nat):Int);unfold iN;refine Td (T2 (n:=a.aV.length) (λs=>s.2) (λk st=>st.1=lx (a.aV.take k) ((i:Nat):Int)) (Go:=λst=>st.1=lx a.aV ((i:Nat):Int)) (Rt:=λ_=>False) ?_ ?_ (eH _) rfl rfl (by omega)) ?_
 ·rintro k⟨out,ii⟩hk e hI;dsimp only at e hI ⊢;subst e;subst hI;have hx:a.aV[k]? =some a.aV[k]:=aS hk;have hts:lx (a.aV.take<|k+1) ((i:Nat):Int)=if lv a.aV[k] ((i:Nat):Int)=true then lx (a.aV.take k) ((i:Nat):Int)++[wS a.aV[k]]else lx (a.aV.take k) ((i:Nat):Int):=by
   unfold lx;rw[fJ hk,k8,fu]
   by_cases h:lv a.aV[k] ((i:Nat):Int)=true
   ·rw[aC h];simp[h]
   ·rw[aD h];simp[h]
  have hlen:(lx (a.aV.take k) ((i:Nat):Int)).length<=k:=by
   unfold lx;rw[eL];have:=pw (λb=>lv b ((i:Nat):Int))<|a.aV.take k
   rw[cW]at this;omega
  rw[oF hk,aQ];refine Ti hx<|SZ (Fh _ _)<|Td (P:=λst:List aI=>st=lx (a.aV.take<|k+1) ((i:Nat):Int)) (Ty (λh=>?_)<|λh=>S9 ?_)<|λst hst=>Tv ⟨bZ (by omega),hst⟩
  ·refine Ti hx<|SZ (qA (hb.ok _<|dH hk).1)<|TW (by simp only[eM,List.length_nil];omega)<|S9 ?_
   rw[hts,aC h]
  ·rw[hts,aD (by rw[lF];exact h)]
 ·rintro⟨out,ii⟩e hI;dsimp only at e hI ⊢;subst e;rw[rU,aT];exact TE (by rw[gj]at hI;exact hI)
 intro o ho;refine TG ho ?_<|λr hr=>hr.elim
 rintro⟨hs,ii⟩hI;dsimp only at hI ⊢;subst hI;obtain⟨t,_,ht⟩:=qm (N:=N) (l:=lx a.aV ((i:Nat):Int)) (by omega) (λx hx=>(hho x hx).1) (by omega);obtain⟨z1,z2,z3⟩:=ht.GN;have z4:2*(lx a.aV ((i:Nat):Int)).length*(2*(lx a.aV ((i:Nat):Int)).length)<=1000*1000:=Nat.mul_le_mul (by omega) (by omega);refine Ti hr<|SZ (vo ht.can ht.cover (by omega) (λx hx=>(hho x hx).1.x) (by omega) hN) ?_
 unfold kS;have hsz:=(xE (A:=5000) hd.can hd.lim (by rw[dG,mw,mw];omega) (by rw[dG,jM,jM];omega)).2.2
 have hc:gS N r (aU t) 3=some (aU s):=G3 hd.can (λx y=>by
  rw[hd.cover,qo ht.can,ht.cover];unfold sR;simp) (by omega) (by omega) (λx hx=>(hro x hx).x) (λx hx=>(uJ ht.can x hx).1) (by omega) hN
 rw[hc,aB,aB];exact S9 rfl
theorem Eh:∀(gY:List (List<|List aA))(k:Nat),(eQ k gY).length=(gY.map List.length).sum
 | [],k=>rfl
 |ps::gY,k=>by
  show(ps.map _++eQ (k+1) gY).length=_;rw[dG,eL,Eh gY<|k+1,eB,List.sum_cons]
theorem JX{a:fE}{mz:List (List aA)}{gY:List (List<|List aA)}(hg:qz a)(hD:wW a.aL a.aV a.aL.length mz gY){i:Nat}{s:List aA}(hi:i<a.aL.length)(hd:mz[i]? =some s)(hf:(aU s).length<=2000):∃ps u,gY[i]? =some ps/\sT a.aL[i] (lx a.aV ((i:Nat):Int)) s u ps:=by
 have hp:gY[i]? =some (gY[i]'(by rw[hD.DD];exact hi)):=aS _;have hdr:=hD.dr i _ _ hi (aS hi) hd;obtain⟨u,hu⟩:=hD.pt i _ _ hi hd hp;have hreg:=tz.1<|hg.Sz _<|dH hi
 exact⟨_,u,hp,λx hx=>((tO.1 hreg.1).2 x hx).1,λx hx=>(wV hg.gb _ x hx).2,(E6 hreg.1).2,λx hx=>(wV hg.gb _ x hx).1,hdr,hu,hf⟩
theorem sT.pieces{r hs:List aI}{s:List aA}{u:Nat->Nat}{ps:List (List aA)}(h:sT r hs s u ps)(hN:4398046511104<=N):gU N (aU s)=some (ps.map aU):=by
 refine G6 h.dr.can h.pt h.CU (λq hq=>?_) (λp hp=>(h.part hp).2.1) hN;obtain⟨h1,h2,h3⟩:=IW h.r1 h.r2 h.dr.can h.dr.lim q hq;exact HK h1 h2 h3
theorem H2{a b:aI}(ha:a.X0<a.X1/\a.Y0<a.Y1)(hb:b.X0<b.X1/\b.Y0<b.Y1):gr N a b=some (GU a b):=by
 unfold gr;rw[tC,tC,pM,pM];have e1:decide (min a.X1 b.X1>max a.X0 b.X0)=zZ a.X0 a.X1 b.X0 b.X1:=by
  unfold zZ;rw[eN,cD,bK,bK,bK];omega
 have e2:decide (min a.Y1 b.Y1>max a.Y0 b.Y0)=zZ a.Y0 a.Y1 b.Y0 b.Y1:=by
  unfold zZ;rw[eN,cD,bK,bK,bK];omega
 rw[e1,e2];unfold GU
 cases zZ a.X0 a.X1 b.X0 b.X1 <;> rfl
theorem sq_pos{b:cP}(h:ru b=true):(wS b).X0<(wS b).X1/\(wS b).Y0<(wS b).Y1:=by
 obtain⟨h1,_,_⟩:=tw h;simp only[wS];omega
inductive Checked (N:Nat) (a:fE):Prop
 |err (e:Int) (he:e≠0) (h1:iH N a=some (none,e)) (h2:dW N a=some e)
 |ok {mz:List (List aA)} {gY:List (List (List aA))} {r:Nat->Nat} {gs:List dL} {ofP ofB ry:List Int} {q9:List gM} (b:w3 a mz gY r gs ofP ofB ry q9)
  (h1:iH N a=some (some (a.aL,a.dC,a.aV,a.bN,mz,eQ 0 gY,pq a.aV<|eQ 0 gY,gs,ofP,ofB,ry,q9),0)) (h2:dW N a=some 0)
theorem IY{a:fE}(hb:nY a.aV)(hN:4398046511104<=N){f:Int->Option Int}{Q:Int->Prop}(hc:rz a->Q 12)(hn:¬rz a->∀s,Ok (f s) Q):
  Ok ((kp (λ(s35:Int)=>(bif decide (s35<(a.aV.length:Int))then((kp (λ(s622:Int)=>(bif decide (s622<s35)then(((idx a.aV s35).bind λx869=>(idx a.aV s622).bind λx873=>(iL N x869 x873).bind λx876=>bif x876 then((idx a.aV s35).bind λx879=>(dI N x879).bind λx882=>(idx a.aV s622).bind λx885=>(dI N x885).bind λx888=>(gr N x882 x888).bind λx890=>some x890)else some false).bind λs867=>bif s867 then some (.rt 12)else some (.nx<|wrap .i64<|s622+1))else(some<|.br s622):Option (Fl Int Int))) N 0).bind λo911=>o911.cs (λ(s622:Int)=>some<|.nx<|wrap .i64<|s35+1)<|λr=>some<|.rt r)else(some<|.br s35):Option (Fl Int Int))) N 0).bind λo933=>o933.cs f<|λr=>some r) Q:=by
 have hbl:=hb.len;refine Td (T2 (n:=a.aV.length) (λs=>s) (λk _=>∀(i j:Nat)(x y:cP),i<k->j<i->a.aV[i]? =some x->a.aV[j]? =some y->¬sQ x y=true) (Go:=λ_=>¬rz a) (Rt:=λr=>r=12/\rz a) ?_ ?_ (eH _) rfl (λi j x y hi=>by omega) (by omega)) ?_
 ·rintro k s hk e hI;subst e;rw[oF hk,aQ];have hx:a.aV[k]? =some a.aV[k]:=aS hk;have fx:=(hb.ok _<|dH hk).1;refine Td (T2 (n:=k) (λs=>s) (λt _=>∀(j:Nat)(y:cP),j<t->a.aV[j]? =some y->¬sQ a.aV[k] y=true) (Go:=λ_=>∀(j:Nat)(y:cP),j<k->a.aV[j]? =some y->¬sQ a.aV[k] y=true) (Rt:=λr=>r=12/\rz a) ?_ ?_ (eH _) rfl (λj y hj=>by omega) (by omega)) ?_
  ·rintro t s ht e hI2;subst e;rw[oF ht,aQ];have hy:a.aV[t]? =some (a.aV[t]'(by omega)):=aS _;have fy:=(hb.ok _<|dH (show t<a.aV.length by omega)).1;have hcond:((idx a.aV ((k:Nat):Int)).bind λx869=>(idx a.aV ((t:Nat):Int)).bind λx873=>(iL N x869 x873).bind λx876=>bif x876 then((idx a.aV ((k:Nat):Int)).bind λx879=>(dI N x879).bind λx882=>(idx a.aV ((t:Nat):Int)).bind λx885=>(dI N x885).bind λx888=>(gr N x882 x888).bind λx890=>some x890)else some false)=some (sQ a.aV[k]<|a.aV[t]'(by omega)):=by
    rw[eD hx,aB,eD hy,aB];unfold iL sQ;rw[aB]
    cases(decide (a.aV[k].cR<=(a.aV[t]'(by omega)).To)&&decide ((a.aV[t]'(by omega)).cR<=a.aV[k].To))with
    |false=>rfl
    |true=>rw[aQ,aB,qA fx,aB,aB,qA fy,aB,H2 (sq_pos fx) (sq_pos fy),aB,Bool.true_and]
   refine SZ hcond<|Ty (λh=>T8 ⟨rfl,k,t,_,_,ht,hx,hy,h⟩)<|λh=>Tv ⟨bZ (by omega),λj y hj hjy=>?_⟩
   by_cases e:j=t
   ·subst e;rw[hy]at hjy;injection hjy with hjy;rw[<-hjy,h];exact pr
   ·exact hI2 j y (by omega) hjy
  ·rintro s e hI2;subst e;rw[rU,aT];exact TE hI2
  intro o ho;refine TG ho (λs hs=>Tv ⟨bZ (by omega),λi j x y hi hj hix hjy=>?_⟩)<|λr hr=>T8 hr
  by_cases e:i=k
  ·subst e;rw[hx]at hix;injection hix with hix;rw[<-hix];exact hs j y hj hjy
  ·exact hI i j x y (by omega) hj hix hjy
 ·rintro s e hI;subst e;rw[rU,aT];refine TE ?_;rintro⟨i,j,x,y,hij,hx,hy,hc⟩;exact hI i j x y (bE.1 hx).1 hij hx hy hc
 intro o ho;exact TG ho (λs hs=>hn hs s)<|λr hr=>S9 (by rw[hr.1];exact hc hr.2)
theorem checked{a:fE}(hs:uG a)(hN:4398046511104<=N):Checked N a:=by
 obtain⟨x,hx,hI⟩:=AO (N:=N) hs hN;have hbe:=G9 a;have hcp:=BF (N:=N) hs hN
 rcases hI with⟨he,rfl⟩|⟨h0,hg,hcl,mz,gY,D,hI⟩
 ·refine .err _ he hx<|T3 ?_
  unfold dW;refine SZ hcp ?_
  by_cases h:mA a≠0
  ·rw[aC h]at hbe;rw[show(mA a != 0)=true by simpa using h,aQ,hbe];exact S9 rfl
  ·rw[aD h]at hbe;have hp0:mA a=0:=by simpa using h
   have hc:rz a:=by
    by_cases hc:rz a
    ·exact hc
    ·rw[aD hc]at hbe;exact absurd hbe he
   rw[aC hc]at hbe;rw[hp0,show((0:Int) != 0)=false by rfl,aT];have hbo:=C9 hp0;refine IY ⟨(mL hbo).1,λb hb=>⟨((mL hbo).2 b hb).1,((mL hbo).2 b hb).2.1⟩⟩ hN (λ_=>hbe.symm)<|λh=>absurd hc h
 ·have hp0:mA a=0:=by
   by_cases h:mA a≠0
   ·rw[aC h]at hbe;rw[hbe]at h0;exact h0
   ·simpa using h
  have key:dW N a=some (if OJ mz gY then 0 else 2):=by
   refine T3 ?_;unfold dW;refine SZ hcp ?_;rw[hp0,show((0:Int) != 0)=false by rfl,aT];refine IY hg.gb hN (λh=>absurd h hcl)<|λ_ _=>?_
   have hc16:=hg.CU.2
   refine Td (T2 (n:=a.aL.length) (λs=>s.2) (λk st=>st.1=((((gY.take k).map List.length).sum:Nat):Int)/\((gY.take k).map List.length).sum<=k*2000/\∀(j:Nat)s,j<k->mz[j]? =some s->(aU s).length<=2000)
    (Go:=λst=>st.1=(((gY.map List.length).sum:Nat):Int)/\∀s∈mz,(aU s).length<=2000) (Rt:=λr=>r=2/\¬OJ mz gY) ?_ ?_ (eH _) rfl ⟨by simp,by simp,λj s hj=>by omega⟩ (by omega)) ?_
   ·rintro k⟨m,i⟩hk e⟨hm,hml,hI2⟩;dsimp only at e hm ⊢;subst e;subst hm;rw[oF hk,aQ];have hcx:a.aL[k]? =some a.aL[k]:=aS hk;have hd:mz[k]? =some (mz[k]'(by rw[D.len];exact hk)):=aS _;have hcs:=hg.cs _<|dH hk
    refine SZ (Da hg.gb hcx hcs.1 hcs.2 (D.dr k _ _ hk hcx hd) hN)<|Ty (λh=>T8 ⟨rfl,λhf=>?_⟩)<|λh=>?_
    ·have:=hf.1 _<|fK hd
     have:=of_decide_eq_true h;omega
    ·have hf:(aU<|mz[k]'(by rw[D.len];exact hk)).length<=2000:=by have:=of_decide_eq_false h;omega
     obtain⟨ps,u,hp,L⟩:=JX hg D hk hd hf;have hpl:=L.pt.CU;have hkp:k<gY.length:=by rw[D.DD];exact hk
     have hpe:gY[k]=ps:=by rw[aS hkp]at hp;injection hp
     refine SZ (L.pieces hN)<|Tv ⟨bZ (by omega),?_,?_,λj s hj hjs=>?_⟩
     ·dsimp only;rw[eL,wrap_add (by omega),fJ hkp,fu,List.sum_append,hpe];simp
     ·rw[fJ hkp,fu,List.sum_append,hpe];simp only[eB,List.map_nil,List.sum_cons,List.sum_nil];rw[Nat.add_mul];omega
     ·by_cases e:j=k
      ·subst e;rw[hd]at hjs;injection hjs with hjs;rw[<-hjs];exact hf
      ·exact hI2 j s (by omega) hjs
   ·rintro⟨m,i⟩e⟨hm,hml,hI2⟩;dsimp only at e hm ⊢;subst e;rw[rU,aT];rw[mR (by rw[D.DD];exact bV _)]at hm;refine TE ⟨hm,λs hs'=>?_⟩;obtain⟨j,hj⟩:=eX hs';exact hI2 j s (by have:=(bE.1 hj).1;rw[D.len]at this;exact this) hj
   intro o ho;refine TG ho ?_<|λr hr=>S9 (by rw[hr.1,aD hr.2])
   rintro⟨m,i⟩⟨hm,hf⟩;dsimp only at hm ⊢;subst hm;have hpl:=Eh gY 0;refine Ty (λh=>S9 ?_)<|λh=>S9 ?_
   ·rw[aD];rintro⟨_,h2⟩;have:=of_decide_eq_true h;omega
   ·rw[aC];exact⟨hf,by have:=of_decide_eq_false h;omega⟩
  rcases hI with⟨hf,rfl⟩|⟨hf,r,gs,ofP,ofB,ry,q9,hC,rfl⟩
  ·rw[aD hf]at key;exact .err 2 (by decide) hx key
  ·rw[aC hf]at key;exact .ok ⟨hg,hcl,D,hf,hC⟩ hx key
end
section
variable {N:Nat}
end
section
variable {N:Nat}{a:fE}{mz:List (List aA)}{gY:List (List (List aA))}{r:Nat->Nat}{gs:List dL}{ofP ofB ry:List Int}{q9:List gM}
end
structure PS (n:Nat) (r:Nat->Nat) (h:Nat) (q:List Nat) (seen:List Bool) (pieces todo:List Int):Prop where
 sl:seen.length=n
 sn:∀p,p<n->seen[p]? =some (decide<|r p<h\/p∈q)
 qn:q.Nodup
 qi:∀p∈q,p<n/\r p=h
 q0:h∈q
 td:todo=ints q
 pi:kb pieces
 pm:∀x,x∈pieces↔∃p∈q,x=((p:Nat):Int)
structure QS (n m:Nat) (tch:List (List Int)) (r:Nat->Nat) (h:Nat) (q qb:List Nat) (zX:List Int) (used:List Bool):Prop where
 ul:used.length=m
 un:∀k,k<m->used[k]? =some (decide<|k∈qb)
 bi:kb zX
 bm:∀x,x∈zX↔∃k∈qb,x=((k:Nat):Int)
 bk:∀k∈qb,k<m/\r (n+k)=h/\∀l,tch[k]? =some l->∀p:Nat,((p:Nat):Int)∈l->p∈q
theorem PS.CU{n:Nat}{r:Nat->Nat}{h:Nat}{q:List Nat}{seen:List Bool}{pieces todo:List Int}(H:PS n r h q seen pieces todo):q.length<=n/\pieces.length<=n:=by
 have h1:=ga H.qn (m:=List.range n) (λk hk=>by rw[oH];exact(H.qi k hk).1);rw[List.length_range]at h1;have h2:=ga H.pi.nodup (m:=ints q)<|λx hx=>CV.2<|(H.pm x).1 hx
 rw[pK]at h2;exact⟨h1,by omega⟩
theorem QS.CU{n m:Nat}{tch:List (List Int)}{r:Nat->Nat}{h:Nat}{q qb:List Nat}{zX:List Int}{used:List Bool}(H:QS n m tch r h q qb zX used):zX.length<=m:=by
 have h2:=ga H.bi.nodup (m:=ints (List.range m)) (λx hx=>by
  obtain⟨k,hk,e⟩:=(H.bm x).1 hx
  exact CV.2 ⟨k,oH.2 (H.bk k hk).1,e⟩)
 rwa[pK,List.length_range]at h2
section
variable {N:Nat}
end
structure SS (G G':List dL):Prop where
 len:G'.length=G.length
 each:∀(g:Nat)x,G[g]? =some x->∃y,G'[g]? =some y/\y.qS=x.qS/\y.aV=x.aV
section
variable {N:Nat}
end
section
variable {N:Nat}{a:fE}{mz:List (List aA)}{gY:List (List (List aA))}{r:Nat->Nat}{gs:List dL}{ofP ofB ry:List Int}{q9:List gM}
theorem w3.wZ(b:w3 a mz gY r gs ofP ofB ry q9):n0 a:=JW b.QU.wZ
end
section
variable {N:Nat}{a:fE}{mz:List (List aA)}{gY:List (List (List aA))}{r:Nat->Nat}{gs:List dL}{ofP ofB ry:List Int}{q9:List gM}
end
section
variable {N:Nat}
end
section
variable {bs:List cP}{ls:List dV}{pcs:List aO}{r:Nat->Nat}{gs:List dL}{ofP ofB ry:List Int}{q9:List gM}
end
section
variable {N:Nat}{a:fE}{mz:List (List aA)}{gY:List (List (List aA))}{r:Nat->Nat}{gs:List dL}{ofP ofB ry:List Int}{q9:List gM}
end
section
variable {N:Nat}
end
section
variable {N:Nat}{a:fE}{mz:List (List aA)}{gY:List (List (List aA))}{r:Nat->Nat}{gs:List dL}{ofP ofB ry:List Int}{q9:List gM}
theorem IZ(x:dV)(p:eE):kd x=p↔x.Part=p.Part/\x.eE=p.eE:=by
 cases p;unfold kd;rw[eE.mk.injEq]
theorem uL(g:n0 a)(p:eE)(hN:4398046511104<=N):fB N a p=some (iW a p):=by
 obtain⟨r,h1,h2⟩:=G7 (N:=N) (p:=p) g.up (by have:=g.CU;omega) (by omega) (φ:=jv N) (λx=>by unfold jv;rw[AM,aB,my,aB]);unfold fB;have e:gv N a.bN p (jv N)=KR N a.bN p (jv N):=rfl;rw[e,h1,aB];exact h2
end
section
variable {N:Nat}
end
theorem DE.uniq{n m:Nat}{tch:List (List Int)}{r1 r2:Nat->Nat}(h1:DE n m tch r1)(h2:DE n m tch r2){i j:Nat}(hi:i<n+m)(hj:j<n+m):r1 i=r1 j↔r2 i=r2 j:=by
 have key:∀{r1 r2:Nat->Nat},DE n m tch r1->DE n m tch r2->r1 i=r1 j->r2 i=r2 j:=λ{r1 r2}h1 h2 e=>
  (h1.fi (λx=>r2 i=r2 x) (λa b hab=>by rw[h2.co a b hab]) i j hi hj e) rfl
 exact⟨key h1 h2,key h2 h1⟩
section
variable {N:Nat}{a:fE}{mz:List (List aA)}{gY:List (List (List aA))}{r:Nat->Nat}{gs:List dL}{ofP ofB ry:List Int}{q9:List gM}
theorem Ox(x y:Int)(u:List Int):lO N x y [] u=eP N u x y:=by
 show(((eP N u x y).bind λx38=>some x38).bind λs36=>some s36)=_
 cases eP N u x y <;> rfl
theorem H3{bs:List cP}{pcs:List aO}{l:dV}{h:gM}(hh:th bs pcs l=some h)(hn:pcs.length+bs.length<=1000000000):
  ku N h ((pcs.length:Nat):Int)=some ((ko pcs.length h:Nat):Int)/\ko pcs.length h<pcs.length+bs.length:=by
 obtain⟨k,e,h1,h2⟩:=(HO hh).num;unfold ku ko
 cases hB:h.cP with
 |true=>
  have:=(h1 hB).1;rw[aQ,aC rfl,e,cN,wrap_add (by omega)];exact⟨rfl,by omega⟩
 |false=>
  have:=h2 hB;rw[aT,aD pr,e,cN];exact⟨rfl,by omega⟩
structure Mv (bs:List cP) (pcs:List aO) (ls:List dV) (r2:Nat->Nat) (j:Nat) (up:List Int) (fm:List (Int×Int)) (out:List Int):Prop where
 uf:UF (pcs.length+bs.length) up r2
 len:out.length=ls.length
 no:∀i l,i<j->ls[i]? =some l->th bs pcs l=none->out[i]? =some (-1)
 yes:∀i l h,i<j->ls[i]? =some l->th bs pcs l=some h->lY fm ((r2 (ko pcs.length h):Nat):Int)=true/\out[i]? =some (fS fm ((r2 (ko pcs.length h):Nat):Int) 0)
 low:∀x,lY fm x=true->∃v:Nat,fS fm x 0=((v:Nat):Int)/\v<j
 inj:∀x y,lY fm x=true->lY fm y=true->fS fm x 0=fS fm y 0->x=y
theorem H4{bs:List cP}{pcs:List aO}{ls:List dV}(hn:pcs.length+bs.length<=1000000000)(hp:pcs.length<=1073741824)(hbl:bs.length<=1073741824)(hl:ls.length<=1073741824)(hof:ry=ls.map (J6 bs pcs r))(hat:q9=ls.map (λl=>(th bs pcs l).getD ⟨false,0⟩))(hN:4398046511104<=N):
  ∃r2 c up fm,mH N bs ls pcs (pq bs pcs) ry q9 []=some c/\DE pcs.length bs.length (pq bs pcs) r2/\Mv bs pcs ls r2 ls.length up fm c:=by
 suffices h:Ok (mH N bs ls pcs (pq bs pcs) ry q9 []) (λc=>∃r2 up fm,DE pcs.length bs.length (pq bs pcs) r2/\Mv bs pcs ls r2 ls.length up fm c)by
  obtain⟨c,h1,r2,up,fm,h2,h3⟩:=h;exact⟨r2,c,up,fm,h1,h2,h3⟩
 unfold mH;refine SZ (x:=[]) rfl ?_;rw[wrap_add (by omega)];obtain⟨up0,u1,u2⟩:=Be (N:=N) (n:=pcs.length+bs.length) (by omega);refine SZ u1 ?_;simp only[Ox];refine Td (D9 (n:=pcs.length) (m:=bs.length) (by unfold pq;simp) (GS (by omega)) (by omega) (by omega) u2 hN) ?_;rintro up1⟨r2,v1,v2⟩;refine SZ (x:=up1) rfl<|SZ (oQ 0 (by omega)) ?_
 have pU:q9.length=ls.length:=by rw[hat,eL]
 refine Td (T6 (λj(st:List Int×List (Int×Int)×List Int)=>Mv bs pcs ls r2 j st.1 st.2.1 st.2.2) (by omega) ⟨v1,by simp,λi l h=>by omega,λi l h h1=>by omega,λx hx=>(by cases hx),λx y hx=>(by cases hx)⟩ ?_)<|λst I=>S9 ⟨r2,st.1,st.2.1,v2,by rw[<-pU];exact I⟩
 rintro j⟨up,fm,out⟩hj I;rw[pU]at hj;dsimp only at I ⊢;have hx:ls[j]? =some ls[j]:=aS hj;have h1:q9[j]? =some ((th bs pcs ls[j]).getD ⟨false,0⟩):=by rw[hat,iZ,hx];rfl
 have h2:ry[j]? =some (J6 bs pcs r ls[j]):=by rw[hof,iZ,hx];rfl
 have h3:out[j]? =some (out[j]'(by rw[I.len];exact hj)):=aS _;have hjo:j<out.length:=by rw[I.len];exact hj
 refine Ti h1 ?_
 cases hh:th bs pcs ls[j]with
 |none=>
  have e1:J6 bs pcs r ls[j] = -1:=by unfold J6 zW;rw[hh];rfl
  refine SZ (x:=0) rfl<|SZ (x:=true) (by rw[eD h2,aB,e1];rfl) ?_
  refine Ti h3<|S9 ?_
  dsimp only;rw[cN];refine⟨I.uf,by rw[hZ];exact I.len,λi l hi hil hn=>?_,λi l h hi hil hs=>?_,λx hx=>?_,I.inj⟩
  ·by_cases e:i=j
   ·subst e;rw[List.getElem?_set_self hjo]
   ·rw[List.getElem?_set_ne<|Ne.symm e];exact I.no i l (by omega) hil hn
  ·by_cases e:i=j
   ·subst e;rw[hx]at hil;injection hil with hil;subst hil;rw[hh]at hs;cases hs
   ·rw[List.getElem?_set_ne<|Ne.symm e];exact I.yes i l h (by omega) hil hs
  ·obtain⟨v,q1,q2⟩:=I.low x hx;exact⟨v,q1,by omega⟩
 |some h=>
  obtain⟨c1,c2⟩:=H3 (N:=N) hh hn;have e1:∃g:Nat,J6 bs pcs r ls[j]=((g:Nat):Int):=by unfold J6 zW;rw[hh];exact⟨_,rfl⟩
  obtain⟨g,e1⟩:=e1;refine SZ c1<|SZ (x:=false) (by rw[eD h2,aB,e1,bP (show ¬((g:Nat):Int)<0 by omega),aT];rfl) ?_
  rw[aT];obtain⟨up2,t1,t2⟩:=wP (N:=N) I.uf c2 (by omega);refine SZ t1 ?_;dsimp only;have fin:∀(up3:List Int)(fm2:List (Int×Int)),UF (pcs.length+bs.length) up3 r2->(∀x,lY fm x=true->lY fm2 x=true/\fS fm2 x 0=fS fm x 0)->lY fm2 ((r2 (ko pcs.length h):Nat):Int)=true->(∀x,lY fm2 x=true->∃v:Nat,fS fm2 x 0=((v:Nat):Int)/\v<j+1)->(∀x y,lY fm2 x=true->lY fm2 y=true->fS fm2 x 0=fS fm2 y 0->x=y)->
    Mv bs pcs ls r2 (j+1) up3 fm2 (out.set j<|fS fm2 ((r2 (ko pcs.length h):Nat):Int) 0):=λup3 fm2 g1 g2 g3 g4 g5=>by
   refine⟨g1,by rw[hZ];exact I.len,λi l hi hil hn=>?_,λi l h' hi hil hs=>?_,g4,g5⟩
   ·by_cases e:i=j
    ·subst e;rw[hx]at hil;injection hil with hil;subst hil;rw[hh]at hn;cases hn
    ·rw[List.getElem?_set_ne<|Ne.symm e];exact I.no i l (by omega) hil hn
   ·by_cases e:i=j
    ·subst e;rw[hx]at hil;injection hil with hil;subst hil;rw[hh]at hs;injection hs with hs;subst hs
     exact⟨g3,by rw[List.getElem?_set_self hjo]⟩
    ·obtain⟨q1,q2⟩:=I.yes i l h' (by omega) hil hs;rw[List.getElem?_set_ne<|Ne.symm e,q2,(g2 _ q1).2];exact⟨(g2 _ q1).1,rfl⟩
  cases hm:lY fm ((r2 (ko pcs.length h):Nat):Int)with
  |true=>
   rw[mU,aT];obtain⟨up3,t3,t4⟩:=wP (N:=N) t2 c2 (by omega);refine SZ (x:=(up2,fm)) rfl<|SZ t3<|Ti h3<|S9 ?_
   dsimp only;rw[cN];exact fin up3 fm t4 (λx hx=>⟨hx,rfl⟩) hm (λx hx=>by obtain⟨v,q1,q2⟩:=I.low x hx;exact⟨v,q1,by omega⟩) I.inj
  |false=>
   rw[px,aQ];obtain⟨up3,t3,t4⟩:=wP (N:=N) t2 c2 (by omega);obtain⟨up4,t5,t6⟩:=wP (N:=N) t4 c2 (by omega);refine SZ (x:=(up3,qE fm ((r2 (ko pcs.length h):Nat):Int) ((j:Nat):Int))) (by rw[t3,aB])<|SZ t5<|Ti h3<|S9 ?_
   dsimp only;rw[cN];refine fin up4 _ t6 (λx hx=>?_) (by rw[uA];simp) (λx hx=>?_)<|λx y hx hy e=>?_
   ·have hne:x≠((r2 (ko pcs.length h):Nat):Int):=λe=>by rw[e,hm]at hx;cases hx
    rw[uA,ql,aD hne,hx];exact⟨by simp,rfl⟩
   ·rw[ql]
    by_cases e:x=((r2 (ko pcs.length h):Nat):Int)
    ·rw[aC e];exact⟨j,rfl,by omega⟩
    ·rw[aD e];rw[uA,bP e,Bool.false_or]at hx;obtain⟨v,q1,q2⟩:=I.low x hx;exact⟨v,q1,by omega⟩
   ·rw[ql,ql]at e;rw[uA]at hx hy
    by_cases ex:x=((r2 (ko pcs.length h):Nat):Int)
    ·by_cases ey:y=((r2 (ko pcs.length h):Nat):Int)
     ·rw[ex,ey]
     ·rw[aC ex,aD ey]at e;rw[bP ey,Bool.false_or]at hy;obtain⟨v,q1,q2⟩:=I.low y hy;omega
    ·rw[bP ex,Bool.false_or]at hx
     by_cases ey:y=((r2 (ko pcs.length h):Nat):Int)
     ·rw[aD ex,aC ey]at e;obtain⟨v,q1,q2⟩:=I.low x hx;omega
     ·rw[aD ex,aD ey]at e;rw[bP ey,Bool.false_or]at hy;exact I.inj x y hx hy e
theorem Mw(b:w3 a mz gY r gs ofP ofB ry q9){x y:dV}{h h':gM}(hx:th a.aV (eQ 0 gY) x=some h)(hy:th a.aV (eQ 0 gY) y=some h'):(zW a.aV (eQ 0 gY) r x=zW a.aV (eQ 0 gY) r y)↔r (ko (eQ 0 gY).length h)=r (ko (eQ 0 gY).length h'):=by
 have gp:∀{z:dV}{h:gM},th a.aV (eQ 0 gY) z=some h->(live a.aV (eQ 0 gY).length ((eQ 0 gY).length+a.aV.length) r<|cE ((eQ 0 gY).length+a.aV.length) r)[gi a.aV (eQ 0 gY).length ((eQ 0 gY).length+a.aV.length) r<|r<|ko (eQ 0 gY).length h]? =some (r<|ko (eQ 0 gY).length h):=by
  intro z h hz;obtain⟨k,e,g1,g2⟩:=(HO hz).num;have hle:=b.QV.conn.le;have hrr:=b.QV.conn.rr;have hd:∀i,i<(eQ 0 gY).length+a.aV.length->r i∈cE ((eQ 0 gY).length+a.aV.length) r:=λi hi=>lE.2 ⟨oH.2 (by have:=hle i hi;omega),by rw[bK];exact hrr i hi⟩;unfold ko
  cases hB:h.cP with
  |true=>
   obtain⟨k1,k2⟩:=g1 hB;rw[aC rfl,e,cN];exact(Le (hd _ (by omega))<|NA k2 (by omega)).2
  |false=>
   have k1:=g2 hB;rw[aD pr,e,cN];exact(Le (hd _ (by omega))<|Nz k1 (by omega)).2
 unfold zW;rw[hx,hy];constructor
 ·intro e;simp only[Option.map_some,Option.some.injEq]at e;have h1:=gp hx;have h2:=gp hy;rw[e,h2]at h1;injection h1 with h1;exact h1.symm
 ·intro e;simp only[Option.map_some,Option.some.injEq];rw[e]
theorem Fi(b:w3 a mz gY r gs ofP ofB ry q9)(h1:iH N a=some (some (a.aL,a.dC,a.aV,a.bN,mz,eQ 0 gY,pq a.aV<|eQ 0 gY,gs,ofP,ofB,ry,q9),0)){p q:eE}{i k:Nat}{x y:dV}(ep:iW a p=((i:Nat):Int))(hx:a.bN[i]? =some x)(eq:iW a q=((k:Nat):Int))(hy:a.bN[k]? =some y)(hN:4398046511104<=N):
  j3 N a [] p q=some ((zW a.aV (eQ 0 gY) r x).isSome&&decide (zW a.aV (eQ 0 gY) r x=zW a.aV (eQ 0 gY) r y),0):=by
 have hf:=b.CU.2;have hbl:=b.QU.gb.len;have hlf:=b.wZ.CU;obtain⟨r2,c,up,fm,c1,c2,c3⟩:=H4 (N:=N) (r:=r) (ry:=ry) (q9:=q9) (bs:=a.aV) (pcs:=eQ 0 gY) (ls:=a.bN) (by omega) (by omega) (by omega) (by omega) b.QV.ry b.QV.q9 hN;have hil:=(bE.1 hx).1;have hkl:=(bE.1 hy).1;unfold j3;rw[h1,aB,uL b.wZ p hN,uL b.wZ q hN];simp only[Kq,bne_self_eq_false,aT,aB];have hz:∀(p0:List (List aI))(p1:List aI)(p2:List cP)(p3:List dV)(p4:List (List aA))(p5:List aO)(p6:List (List Int))(p7:List dL)(p8 p9 p10:List Int)(p11:List gM),nS N p0 p1 p2 p3 p4 p5 p6 p7 p8 p9 p10 p11 []=some 0:=λ_ _ _ _ _ _ _ _ _ _ _ _=>rfl;rw[hz,aB,bne_self_eq_false,aT,ep,eq,bP (show ¬((i:Nat):Int)<0 by omega),bP (show ¬((k:Nat):Int)<0 by omega),Bool.or_false,aT,c1,aB]
 cases hhx:th a.aV (eQ 0 gY) x with
 |none=>
  have e1:zW a.aV (eQ 0 gY) r x=none:=by unfold zW;rw[hhx];rfl
  rw[eD<|c3.no i x hil hx hhx,aB,e1];rfl
 |some h=>
  obtain⟨q1,q2⟩:=c3.yes i x h hil hx hhx;obtain⟨v,v1,_⟩:=c3.low _ q1;have e1:(zW a.aV (eQ 0 gY) r x).isSome=true:=by unfold zW;rw[hhx];rfl
  rw[eD q2,aB,v1,bM (show((v:Nat):Int)>=0 by omega),aQ,aB,e1,Bool.true_and]
  cases hhy:th a.aV (eQ 0 gY) y with
  |none=>
   have e2:zW a.aV (eQ 0 gY) r y=none:=by unfold zW;rw[hhy];rfl
   rw[eD<|c3.no k y hkl hy hhy,aB,aB,bP (λe=>by rw[e,e2]at e1;cases e1),show(((v:Nat):Int)== -1)=false from by rw[beq_eq_false_iff_ne];omega]
  |some h'=>
   obtain⟨s1,s2⟩:=c3.yes k y h' hkl hy hhy;obtain⟨w,w1,_⟩:=c3.low _ s1;rw[eD s2,aB,w1,aB];have t1:=(H3 (N:=N) hhx (by omega)).2;have t2:=(H3 (N:=N) hhy (by omega)).2;have key:(((v:Nat):Int)=((w:Nat):Int))↔zW a.aV (eQ 0 gY) r x=zW a.aV (eQ 0 gY) r y:=by
    rw[Mw b hhx hhy,DE.uniq b.QV.conn c2 t1 t2];constructor
    ·intro e;have:=c3.inj _ _ q1 s1 (by rw[v1,w1];exact e);omega
    ·intro e;rw[e,w1]at v1;exact v1.symm
   congr 2;rw[eN,beq_iff_eq,bK];exact key
end
def ti:fE:=⟨[[⟨0,0,1,1⟩]],[],[],[⟨⟨[97]⟩,⟨[49]⟩,0,⟨0,0⟩⟩]⟩
def Mx:eE:=⟨⟨[97]⟩,⟨[49]⟩⟩
def vE:aA:=⟨0,1,[0,1]⟩
theorem My:sO [⟨0,0,1,1⟩] [vE]where
 can:=⟨λb hb=>by
  have e:b=cG vE:=by simpa using hb
  subst e
  exact⟨by decide,by decide,by unfold kb;decide,by decide⟩,List.pairwise_singleton _ _⟩
 cover:=λx y=>by
  show pO (if(0:Int)<=y/\y<1 then [0,1]else []) x=((decide ((0:Int)<=x)&&decide (x<1))&&(decide ((0:Int)<=y)&&decide (y<1))||false)
  by_cases h:(0:Int)<=y/\y<1
  ·rw[aC h,bM h.1,bM h.2];unfold pO;rw[oD,oD,EW]
   by_cases h0:(0:Int)<=x
   ·by_cases h1:(1:Int)<=x
    ·rw[aC h0,aC h1,bP (show ¬x<1 by omega)];simp
    ·rw[aC h0,aD h1,bM h0,bM (show x<1 by omega)];rfl
   ·rw[aD h0,aD (show ¬(1:Int)<=x by omega),bP h0];rfl
  ·rw[aD h];have:(decide ((0:Int)<=y)&&decide (y<1))=false:=by
    rw[Bool.eq_false_iff];intro h';rw[cD,bK,bK]at h';exact h h'
   rw[this,Bool.and_false];rfl
 lim:=λb hb=>by
  have e:b=cG vE:=by simpa using hb
  subst e;exact⟨by decide,by decide,by decide⟩
theorem Sn:sO [] []:=⟨fC.nil,λ_ _=>rfl,λb hb=>by cases hb⟩
theorem So:jk [⟨0,0,1,1⟩]=0:=tz.2 ⟨by decide,λk a b h1 h2=>(by cases k <;> simp at h2),⟨_,My,rfl⟩⟩
theorem Sp:jk []=0:=tz.2 ⟨by decide,λk a b h1 h2=>(by simp at h2),⟨_,Sn,rfl⟩⟩
theorem Oy:uG ti:=⟨by decide,by decide,by decide,by decide,by decide,by
 intro x hx;have e:x= ⟨⟨[97]⟩,⟨[49]⟩,0,⟨0,0⟩⟩:=by simpa[ti]using hx
 subst e;decide⟩
theorem Oz:ke ti=0:=by
 have e1:ti.aL.findSome? uF=none:=by
  show [[(⟨0,0,1,1⟩:aI)]].findSome? uF=none;have:uF [⟨0,0,1,1⟩]=none:=by unfold uF;rw[So];simp
  simp[this]
 have e2:jf ti=0:=by decide
 have e3:lX ti=0:=by
  unfold lX;have:qK ti.bN.length (jU ti)=none:=ky.2 λk hk=>by
   have hk:k<1:=hk;obtain rfl:k=0:=by omega
   unfold jU;have hx0:ti.bN[0]? =some ⟨⟨[97]⟩,⟨[49]⟩,0,⟨0,0⟩⟩:=rfl;rw[hx0,Option.bind_some,aC (by decide),aC (by decide),aD (by rintro⟨h,_⟩;omega)]
  rw[this,aD (by decide)];rfl
 have e4:¬rz ti:=by
  rintro⟨i,k,x,y,_,h,_⟩;simp[ti]at h
 unfold ke;rw[aD (by decide),aD (by decide)];unfold JO;rw[e1];show(if jk []≠0 then jk []else DH ti)=0;rw[Sp,aD (by simp)];unfold DH;rw[aD (by decide),e2,aD (by simp),e3,aD (by simp),aD e4]
theorem QZ{mz:List (List aA)}{gY:List (List<|List aA)}(D:wW ti.aL ti.aV ti.aL.length mz gY):mz= [[vE]]/\gY= [[[vE]]]:=by
 obtain⟨s,rfl⟩:=List.length_eq_one_iff.1 D.len;obtain⟨ps,rfl⟩:=List.length_eq_one_iff.1 D.DD;have hd:=D.dr 0 [⟨0,0,1,1⟩] s (by decide) rfl rfl;have hs:s= [vE]:=GM hd.can My.can λx y=>by
  rw[hd.cover,My.cover];show(_&& !vW [] x y)=_;simp[vW]
 subst hs;obtain⟨u,hu⟩:=D.pt 0 [vE] ps (by decide) rfl rfl;have u0:u 0=0:=Nat.le_zero.1<|hu.join.le 0 (by decide)
 have hh:cE (aU [vE]).length u= [0]:=by
  show(List.range 1).filter (λk=>decide<|u k=k)= [0];simp[List.range_succ,u0]
 obtain⟨p,rfl⟩:=List.length_eq_one_iff.1 (show ps.length=1 by rw[hu.len,hh];rfl);have hp:=hu.each 0 0 p (by rw[hh];rfl) rfl;have hc:oe (aU [vE]) (aU [vE]).length u 0= [⟨0,0,1,1⟩]:=by
  show((List.range 1).filter<|λi=>decide<|u i=0).filterMap (λi=>(aU [vE])[i]?)=_;simp[List.range_succ,u0];rfl
 rw[hc]at hp;exact⟨rfl,by rw[hp.unique My]⟩
section
variable {N:Nat}
theorem Mz(hN:4398046511104<=N):jK N=some true:=by
 have key:j3 N ti [] Mx Mx=some (true,0):=by
  obtain⟨x,hx,hI⟩:=AO (N:=N) Oy hN
  rcases hI with⟨he,_⟩|⟨_,hg,hcl,mz,gY,D,⟨hf,_⟩|⟨hf,r,gs,ofP,ofB,ry,q9,hC,rfl⟩⟩
  ·exact absurd Oz he
  ·obtain⟨rfl,rfl⟩:=QZ D;exact absurd ⟨by decide,by decide⟩ hf
  ·have b:w3 ti mz gY r gs ofP ofB ry q9:=⟨hg,hcl,D,hf,hC⟩;have e:iW ti Mx=((0:Nat):Int):=by
    rcases Bo ti Mx with⟨_,h⟩|⟨k,x,h,hk,_⟩
    ·exact absurd rfl<|h ⟨⟨[97]⟩,⟨[49]⟩,0,⟨0,0⟩⟩ (by simp[ti])
    ·have:k<1:=(bE.1 hk).1;rw[h];omega
   have hl:ti.bN[0]? =some ⟨⟨[97]⟩,⟨[49]⟩,0,⟨0,0⟩⟩:=rfl;rw[Fi b hx e hl e hl hN];obtain⟨rfl,rfl⟩:=QZ D;have hh:th ti.aV (eQ 0 [[[vE]]]) ⟨⟨[97]⟩,⟨[49]⟩,0,⟨0,0⟩⟩=some ⟨false,0⟩:=by decide
   unfold zW;rw[hh];simp
 unfold jK;have e:j3 N (⟨([([(⟨0,0,1,1⟩:aI)]:List aI)]:List (List aI)),([]:List aI),([]:List cP),([(⟨⟨[97]⟩,⟨[49]⟩,0,⟨0,0⟩⟩:dV)]:List dV)⟩:fE) ([]:List m7) (⟨⟨[97]⟩,⟨[49]⟩⟩:eE) (⟨⟨[97]⟩,⟨[49]⟩⟩:eE)=some (true,0):=key;rw[e,aB];rfl
end
def Q0(n:Nat)(fl:List m7)(v:Nat):Prop:=∃x∈fl,x.Open=true/\ko n x.gM=v
structure SU (bs:List cP) (n m:Nat) (fl:List m7):Prop where
 op:∀x∈fl,x.Open=true->Ny bs n m x.gM
 br:∀x∈fl,x.Open=false->∃i k:Nat,x.A=((i:Nat):Int)/\x.B=((k:Nat):Int)/\i<k/\k<n
structure Ha (t:Nat) (L:Nat->Nat->Prop) (r:Nat->Nat):Prop where
 le:∀i,i<t->r i<=i
 rr:∀i,i<t->r (r i)=r i
 co:∀i j,L i j->r i=r j
 fi:∀S:Nat->Prop,(∀i j,L i j->(S i↔S j))->∀i j,i<t->j<t->r i=r j->S i->S j
theorem Ha.uniq{t:Nat}{L:Nat->Nat->Prop}{r1 r2:Nat->Nat}(h1:Ha t L r1)(h2:Ha t L r2){i j:Nat}(hi:i<t)(hj:j<t):r1 i=r1 j↔r2 i=r2 j:=by
 have key:∀{r1 r2:Nat->Nat},Ha t L r1->Ha t L r2->r1 i=r1 j->r2 i=r2 j:=λ{r1 r2}h1 h2 e=>
  (h1.fi (λx=>r2 i=r2 x) (λa b hab=>by rw[h2.co a b hab]) i j hi hj e) rfl
 exact⟨key h1 h2,key h2 h1⟩
noncomputable def z9(bs:List cP)(pcs:List aO)(fl:List m7)(l:dV):Option Nat:=(th bs pcs l).bind λh=>if Q0 pcs.length fl (ko pcs.length h)then none else some (ko pcs.length h)
section
variable {N:Nat}{r:Nat->Nat}{ry:List Int}{q9:List gM}
def Sq(t:Nat)(L:Nat->Nat->Prop)(op:Nat->Prop)(done:Nat->Nat->Prop)(u:List Int):Prop:=
 ∃r E,UF t u r/\q8 r E/\BE t r E/\(∀p∈E,L p.1 p.2/\¬op p.1/\¬op p.2)/\∀i j,done i j->¬op i->¬op j->(i,j)∈E
theorem Sq.mono{t:Nat}{L:Nat->Nat->Prop}{op:Nat->Prop}{d d':Nat->Nat->Prop}{u:List Int}(h:Sq t L op d u)(hd:∀i j,d' i j->d i j):Sq t L op d' u:=by
 obtain⟨r,E,h1,h2,h3,h4,h5⟩:=h;exact⟨r,E,h1,h2,h3,h4,λi j hij=>h5 i j<|hd i j hij⟩
structure MA (bs:List cP) (pcs:List aO) (fl:List m7) (ls:List dV) (r2:Nat->Nat) (j:Nat) (up:List Int) (fm:List (Int×Int)) (out:List Int):Prop where
 uf:UF (pcs.length+bs.length) up r2
 len:out.length=ls.length
 no:∀i l,i<j->ls[i]? =some l->z9 bs pcs fl l=none->out[i]? =some (-1)
 yes:∀i l v,i<j->ls[i]? =some l->z9 bs pcs fl l=some v->lY fm ((r2 v:Nat):Int)=true/\out[i]? =some (fS fm ((r2 v:Nat):Int) 0)
 low:∀x,lY fm x=true->∃(v:Nat)(l:dV)(u:Nat),fS fm x 0=((v:Nat):Int)/\v<j/\ls[v]? =some l/\z9 bs pcs fl l=some u/\((r2 u:Nat):Int)=x
 inj:∀x y,lY fm x=true->lY fm y=true->fS fm x 0=fS fm y 0->x=y
 le:∀(i v:Nat),out[i]? =some ((v:Nat):Int)->v<=i
end
structure OA (c:List Int):Prop where
 neg:∀(i:Nat)(x:Int),c[i]? =some x->x<0->x = -1
 own:∀(i v:Nat),c[i]? =some ((v:Nat):Int)->c[v]? =some ((v:Nat):Int)
def ND(c:List Int)(i k:Nat):Bool:=decide (c.getD i (-1)>=0)&&c.getD i (-1)==c.getD k (-1)
section
variable {r:Nat->Nat}
theorem MA.first{bs:List cP}{pcs:List aO}{fl:List m7}{ls:List dV}{r2:Nat->Nat}{up:List Int}{fm:List (Int×Int)}{c:List Int}(h:MA bs pcs fl ls r2 ls.length up fm c):OA c where
 neg:=λi x hx h0=>by
  have hi:=(bE.1 hx).1;rw[h.len]at hi;have hl:ls[i]? =some ls[i]:=aS hi
  cases hn:z9 bs pcs fl ls[i]with
  |none=>have:=h.no i _ hi hl hn;rw[hx]at this;injection this
  |some u=>
   obtain⟨q1,q2⟩:=h.yes i _ u hi hl hn;obtain⟨v,_,_,q3,_⟩:=h.low _ q1;rw[hx,q3]at q2;injection q2 with q2;omega
 own:=λi v hx=>by
  have hi:=(bE.1 hx).1;rw[h.len]at hi;have hl:ls[i]? =some ls[i]:=aS hi
  cases hn:z9 bs pcs fl ls[i]with
  |none=>have:=h.no i _ hi hl hn;rw[hx]at this;injection this with this;omega
  |some u=>
   obtain⟨q1,q2⟩:=h.yes i _ u hi hl hn;obtain⟨v',l',u',q3,q4,q5,q6,q7⟩:=h.low _ q1;have e:v=v':=by rw[hx,q3]at q2;injection q2 with q2;omega
   subst e;obtain⟨s1,s2⟩:=h.yes v l' u' q4 q5 q6;rw[q7,q3]at s2;exact s2
theorem MA.conn{bs:List cP}{pcs:List aO}{fl:List m7}{ls:List dV}{r2:Nat->Nat}{up:List Int}{fm:List (Int×Int)}{c:List Int}(h:MA bs pcs fl ls r2 ls.length up fm c){i k:Nat}{x y:dV}(hx:ls[i]? =some x)(hy:ls[k]? =some y):
  ND c i k=true↔∃u v,z9 bs pcs fl x=some u/\z9 bs pcs fl y=some v/\r2 u=r2 v:=by
 have hi:=(bE.1 hx).1;have hk:=(bE.1 hy).1;unfold ND;rw[cD,bK,beq_iff_eq,List.getD_eq_getElem?_getD,List.getD_eq_getElem?_getD]
 cases hn:z9 bs pcs fl x with
 |none=>
  rw[h.no i x hi hx hn,Option.getD_some];exact⟨λh=>absurd h.1 (by decide),λ⟨u,v,e,_⟩=>(by cases e)⟩
 |some u=>
  obtain⟨q1,q2⟩:=h.yes i x u hi hx hn;obtain⟨a,_,_,q3,_⟩:=h.low _ q1;rw[q2,Option.getD_some,q3]
  cases hm:z9 bs pcs fl y with
  |none=>
   rw[h.no k y hk hy hm,Option.getD_some];exact⟨λh=>absurd h.2 (by omega),λ⟨u,v,_,e,_⟩=>(by cases e)⟩
  |some v=>
   obtain⟨s1,s2⟩:=h.yes k y v hk hy hm;obtain⟨b,_,_,s3,_⟩:=h.low _ s1;rw[s2,Option.getD_some,s3];constructor
   ·rintro⟨_,e⟩;have:=h.inj _ _ q1 s1 (by rw[q3,s3];exact e);exact⟨u,v,rfl,rfl,by omega⟩
   ·rintro⟨u',v',e1,e2,e3⟩;injection e1 with e1;injection e2 with e2
    subst e1;subst e2;rw[e3,s3]at q3;exact⟨by omega,q3.symm⟩
end
section
variable {N:Nat}{a:fE}{mz:List (List aA)}{gY:List (List (List aA))}{r:Nat->Nat}{gs:List dL}{ofP ofB ry:List Int}{q9:List gM}
end
section
variable {N:Nat}
end
section
variable {N:Nat}{a:fE}{mz:List (List aA)}{gY:List (List (List aA))}{r:Nat->Nat}{gs:List dL}{ofP ofB ry:List Int}{q9:List gM}
end
section
variable {N:Nat}{a:fE}{mz:List (List aA)}{gY:List (List (List aA))}{r:Nat->Nat}{gs:List dL}{ofP ofB ry:List Int}{q9:List gM}
end
section
variable {N:Nat}
end
def nJ(t u:Test):Int:=if gx t.A u.A≠0 then gx t.A u.A else gx t.B u.B
def oh(a:fE)(l:List Test)(k:Nat):Option Int:=(l[k]?).bind λt=>
 if iW a t.A<0\/iW a t.B<0 then some 9 else if gx t.B t.A<=0 then some 8 else if 0<k/\((l[k - 1]?).elim false λu=>decide<|nJ t u<=0)=true then some 8 else none
def oU(a:fE)(l:List Test):Int:=if 2000<l.length then 2 else(qK l.length<|oh a l).getD 0
structure Bs (a:fE) (t:Test):Prop where
 la:0<=iW a t.A
 lb:0<=iW a t.B
 lt:w6 t.A t.B
theorem Aa{a:fE}{p:eE}(h:0<=iW a p):∃(k:Nat)(x:dV),iW a p=((k:Nat):Int)/\a.bN[k]? =some x/\kd x=p/\k<a.bN.length:=by
 rcases Bo a p with⟨e,_⟩|⟨k,x,e,hx,hp⟩
 ·rw[e]at h;omega
 ·exact⟨k,x,e,hx,hp,(bE.1 hx).1⟩
theorem Fj{a:fE}{l:List Test}(h:oU a l=0):l.length<=2000/\(∀t∈l,Bs a t)/\∀(k:Nat)t u,0<k->l[k]? =some t->l[k - 1]? =some u->0<nJ t u:=by
 unfold oU at h;split at h
 ·omega
 rename_i hl;have hn:∀k,k<l.length->oh a l k=none:=by
  cases hf:qK l.length (oh a l)with
  |none=>exact ky.1 hf
  |some e=>
   rw[hf]at h;obtain⟨k,hk,he,_⟩:=kz.1 hf;have h:e=0:=h;subst h;unfold oh at he;rw[aS hk,Option.bind_some]at he
   repeat' split at he
   all_goals (first|(injection he with he;omega)|cases he)
 refine⟨by omega,λt ht=>?_,λk t u hk ht hu=>?_⟩
 ·obtain⟨k,hk,rfl⟩:=List.mem_iff_getElem.1 ht;have:=hn k hk;unfold oh at this;rw[aS hk,Option.bind_some]at this;split at this
  ·cases this
  rename_i h1;split at this
  ·cases this
  rename_i h2;exact⟨by omega,by omega,o0.1 (by omega)⟩
 ·have hlt:=(bE.1 ht).1;have:=hn k hlt;unfold oh at this;rw[ht,Option.bind_some]at this;split at this
  ·cases this
  split at this
  ·cases this
  split at this
  ·cases this
  rename_i h3;rw[hu]at h3;simp only[Option.elim_some,bK]at h3;omega
section
variable {N:Nat}
theorem OB(u v:Int):sf N [u,v]=some (if u≠0 then u else v):=by
 unfold sf
 rw[zv (l:=[u,v]) (λx=>if x≠0 then some x else none) (by simp) (λk x hx=>by
  rw[eD hx,aB]
  by_cases h:x=0
  ·subst h;rfl
  ·rw[show(x != 0)=true by simpa using h,aQ,aC h];rfl),aB]
 by_cases h:u=0
 ·subst h
  by_cases h':v=0
  ·subst h';rfl
  ·simp[h',EO,Fo.cs]
 ·simp[h,EO,Fo.cs]
theorem BG(t u:Test):iB N t u=some (nJ t u):=by
 unfold iB nJ;rw[my,aB,my,aB,OB,aB]
theorem Lr{a:fE}{e:Int}(he:e≠0)(h:iH N a=some (none,e))(l:List Test):l8 N a l=some (none,e):=by
 unfold l8;rw[h,aB];simp only[Kq,show(e != 0)=true by simpa using he,aQ]
end
section
variable {N:Nat}{a:fE}{mz:List (List aA)}{gY:List (List (List aA))}{r:Nat->Nat}{gs:List dL}{ofP ofB ry:List Int}{q9:List gM}
theorem MB(b:w3 a mz gY r gs ofP ofB ry q9)(h1:iH N a=some (some (a.aL,a.dC,a.aV,a.bN,mz,eQ 0 gY,pq a.aV<|eQ 0 gY,gs,ofP,ofB,ry,q9),0)){l:List Test}(hl:l.length<=1048576)(hN:4398046511104<=N):
  (oU a l≠0/\l8 N a l=some (none,oU a l))\/(oU a l=0/\l8 N a l=some (some (a.aL,a.dC,a.aV,a.bN,mz,eQ 0 gY,pq a.aV<|eQ 0 gY,gs,ofP,ofB,ry,q9),0)):=by
 unfold l8;rw[h1,aB];simp only[Kq,bne_self_eq_false,aT]
 by_cases h2:2000<l.length
 ·have e:oU a l=2:=by unfold oU;rw[aC h2]
  rw[bM (show((l.length:Nat):Int)>2000 by omega),aQ,e];exact .inl ⟨by decide,rfl⟩
 rw[bP (show ¬((l.length:Nat):Int)>2000 by omega),aT]
 rw[sw (λk=>(oh a l k).map (λc=>(none,c))) (by omega) (λk hk _=>by
  have hx:l[k]? =some l[k]:=aS hk;have e1:((fB N a l[k].A).bind λx149=>bif decide (x149<0)then some true else((fB N a l[k].B).bind λx153=>some<|decide<|x153<0))=some (decide (iW a l[k].A<0)||decide (iW a l[k].B<0)):=by
   rw[uL b.wZ _ hN,uL b.wZ _ hN,aB,aB]
   cases decide (iW a l[k].A<0) <;> rfl
  have e2:(bif decide ((k:Int)>0)then((idx l<|wrap .i64<|(k:Int) - 1).bind λx208=>(iB N l[k] x208).bind λx211=>some<|decide<|x211<=0)else some false)=some (decide<|0<k/\((l[k - 1]?).elim false λu=>decide<|nJ l[k] u<=0)=true):=by
   by_cases h0:0<k
   ·have hp:k - 1<l.length:=by omega
    have hy:l[k - 1]? =some l[k - 1]:=aS hp;rw[bM (show((k:Nat):Int)>0 by omega),aQ,gC h0 (by omega),eD hy,aB,BG,aB,hy];simp only[Option.elim_some,h0,true_and,bK]
   ·rw[bP (show ¬((k:Nat):Int)>0 by omega),aT,bP<|λh=>h0 h.1]
  rw[eD hx,aB,e1,aB];unfold oh;rw[hx,Option.bind_some]
  by_cases hA:iW a l[k].A<0\/iW a l[k].B<0
  ·rw[aC hA,show(decide (iW a l[k].A<0)||decide (iW a l[k].B<0))=true by rw[dP,bK,bK];exact hA];rfl
  rw[aD hA,show(decide (iW a l[k].A<0)||decide (iW a l[k].B<0))=false by rw[Bool.or_eq_false_iff,decide_eq_false_iff_not,decide_eq_false_iff_not];omega,aT,my,aB]
  by_cases hB:gx l[k].B l[k].A<=0
  ·rw[aC hB,bM hB];rfl
  rw[aD hB,bP hB,aT,e2,aB]
  by_cases hC:0<k/\((l[k - 1]?).elim false λu=>decide<|nJ l[k] u<=0)=true
  ·rw[aC hC,bM hC];rfl
  ·rw[aD hC,bP hC];rfl),aB,<-KN]
 have hz:oU a l=(qK l.length<|oh a l).getD 0:=by unfold oU;rw[aD h2]
 cases hf:qK l.length (oh a l)with
 |none=>
  rw[hf]at hz;exact .inr ⟨hz,rfl⟩
 |some e=>
  rw[hf]at hz;have hz:oU a l=e:=hz;refine .inl ⟨?_,by rw[hz];rfl⟩;obtain⟨k,hk,he,_⟩:=kz.1 hf;rw[hz];unfold oh at he;rw[aS hk,Option.bind_some]at he
  repeat' split at he
  all_goals (first|(injection he with he;omega)|cases he)
end
section
variable {N:Nat}
end
section
variable {N:Nat}
end
section
variable {N:Nat}{a:fE}{mz:List (List aA)}{gY:List (List (List aA))}{r:Nat->Nat}{gs:List dL}{ofP ofB ry:List Int}{q9:List gM}
theorem oG{l:List Test}{o:Option (List (List aI)×List aI×List cP×List dV×List (List aA)×List aO×List (List Int)×List dL×List Int×List Int×List Int×List gM)}{e:Int}(h:l8 N a l=some (o,e)):gR N a l=some e:=by
 unfold gR;rw[h,aB]
 cases o <;> rfl
end
section
variable {N:Nat}
end
section
variable (T:Nat->Nat->Bool)(n:Nat)
def w8(i k:Nat)(K:List Nat):Nat:=(List.range k).countP (T i)+K.countP (T i)
def MC(K:List Nat)(k:Nat):Bool:=(List.range n).any<|λi=>T i k&&decide (w8 T i (k+1) K=1)
def NF:Nat->List Nat->List Nat
 | 0,K=>K
 |k+1,K=>NF k (if MC T n K k=true then k::K else K)
variable {T n}
theorem yP(i k:Nat)(K:List Nat):w8 T i (k+1) K=w8 T i k K+if T i k=true then 1 else 0:=by
 unfold w8;rw[List.range_succ,List.countP_append,List.countP_singleton];omega
theorem yQ(i k:Nat)(K:List Nat):w8 T i k (k::K)=w8 T i (k+1) K:=by
 rw[yP];unfold w8;rw[List.countP_cons];omega
structure Ls (T:Nat->Nat->Bool) (n m k:Nat) (K:List Nat):Prop where
 up:K.Pairwise (· < ·)
 lo:∀j∈K,k<=j/\j<m
 all:∀i,i<n->(∃j,j<m/\T i j=true)->0<w8 T i k K
 own:∀j∈K,∃i,i<n/\T i j=true/\w8 T i k K=1
theorem Ls.step{m k:Nat}{K:List Nat}(h:Ls T n m (k+1) K)(hk:k<m):Ls T n m k (if MC T n K k=true then k::K else K):=by
 by_cases hn:MC T n K k=true
 ·rw[aC hn];refine⟨oI.2 ⟨λj hj=>by have:=h.lo j hj;omega,h.up⟩,λj hj=>?_,λi hi hj=>?_,λj hj=>?_⟩
  ·rcases dO.1 hj with rfl|hj
   ·exact⟨bV _,hk⟩
   ·have:=h.lo j hj;omega
  ·rw[yQ];exact h.all i hi hj
  ·rcases dO.1 hj with rfl|hj
   ·unfold MC at hn;obtain⟨i,hi,h1⟩:=kg.1 hn;rw[cD,bK]at h1;exact⟨i,oH.1 hi,h1.1,by rw[yQ];exact h1.2⟩
   ·obtain⟨i,h1,h2,h3⟩:=h.own j hj;exact⟨i,h1,h2,by rw[yQ];exact h3⟩
 ·rw[aD hn];have hno:∀i,i<n->T i k=true->w8 T i (k+1) K≠1:=λi hi ht e=>hn<|kg.2 ⟨i,oH.2 hi,by rw[ht,e];rfl⟩
  refine⟨h.up,λj hj=>by have:=h.lo j hj;omega,λi hi hj=>?_,λj hj=>?_⟩
  ·have h1:=h.all i hi hj;have e:=yP (T:=T) i k K
   by_cases ht:T i k=true
   ·have:=hno i hi ht;rw[aC ht]at e;omega
   ·rw[aD ht]at e;omega
  ·obtain⟨i,h1,h2,h3⟩:=h.own j hj;refine⟨i,h1,h2,?_⟩;have e:=yP (T:=T) i k K;have hp:0<K.countP (T i):=List.countP_pos_iff.2 ⟨j,hj,h2⟩;have:w8 T i k K=(List.range k).countP (T i)+K.countP (T i):=rfl;split at e <;> omega
def SB(T:Nat->Nat->Bool)(n m:Nat):List Nat:=NF T n m []
end
section
variable {N:Nat}
end
section
variable {N:Nat}{a:fE}{mz:List (List aA)}{gY:List (List (List aA))}{r:Nat->Nat}{gs:List dL}{ofP ofB ry:List Int}{q9:List gM}
end
section
variable {N:Nat}
end
def LG(u t:Test):Prop:=w6 u.A t.A\/(u.A=t.A/\w6 u.B t.B)
theorem Hb{t u:Test}:0<nJ t u↔LG u t:=by
 unfold nJ LG
 by_cases h:gx t.A u.A=0
 ·have e:=ml.1 h;rw[aD (by simpa using h),o0];constructor
  ·exact λh=> .inr ⟨e.symm,h⟩
  ·rintro(h1|⟨_,h1⟩)
   ·rw[e]at h1;exact absurd h1<|w6.irrefl _
   ·exact h1
 ·rw[aC h,o0];constructor
  ·exact .inl
  ·rintro(h1|⟨e,_⟩)
   ·exact h1
   ·exact absurd (ml.2 e.symm) h
theorem LG.trans{s t u:Test}(h1:LG s t)(h2:LG t u):LG s u:=by
 rcases h1 with h1|⟨e1,h1⟩
 ·rcases h2 with h2|⟨e2,_⟩
  ·exact .inl<|h1.trans h2
  ·exact .inl<|e2▸h1
 ·rcases h2 with h2|⟨e2,h2⟩
  ·exact .inl<|e1▸h2
  ·exact .inr ⟨e1.trans e2,h1.trans h2⟩
section
variable {T:Nat->Nat->Bool}{n:Nat}{l:List Test}
end
section
variable {N:Nat}
end
section
variable {N:Nat}{a:fE}{mz:List (List aA)}{gY:List (List (List aA))}{r:Nat->Nat}{gs:List dL}{ofP ofB ry:List Int}{q9:List gM}
end
def MD(t:Nat)(u:List Int)(r:Nat->Nat):Prop:=u=(List.range t).map (λi=>((r i:Nat):Int))
theorem MD.len{t:Nat}{u:List Int}{r:Nat->Nat}(h:MD t u r):u.length=t:=by rw[h];simp
theorem MD.at{t:Nat}{u:List Int}{r:Nat->Nat}(h:MD t u r){i:Nat}(hi:i<t):u[i]? =some ((r i:Nat):Int):=by rw[h,iZ,List.getElem?_range hi];rfl
structure Hc (t:Nat) (L:Nat->Nat->Prop) (r:Nat->Nat):Prop where
 co:∀i j,L i j->r i=r j
 fi:∀S:Nat->Prop,(∀i j,L i j->(S i↔S j))->∀i j,i<t->j<t->r i=r j->S i->S j
theorem Hc.uniq{t:Nat}{L:Nat->Nat->Prop}{r1 r2:Nat->Nat}(h1:Hc t L r1)(h2:Hc t L r2){i j:Nat}(hi:i<t)(hj:j<t):r1 i=r1 j↔r2 i=r2 j:=by
 have key:∀{r1 r2:Nat->Nat},Hc t L r1->Hc t L r2->r1 i=r1 j->r2 i=r2 j:=λ{r1 r2}h1 h2 e=>
  (h1.fi (λx=>r2 i=r2 x) (λa b hab=>by rw[h2.co a b hab]) i j hi hj e) rfl
 exact⟨key h1 h2,key h2 h1⟩
def xI(l:List Test)(k:Nat)(t:Test):Prop:=gx t.B t.A<=0\/(0<k/\((l[k - 1]?).elim false λu=>decide<|nJ t u<=0)=true)
theorem JY{a:fE}{l:List Test}{k:Nat}{t:Test}(hx:l[k]? =some t):oh a l k=if iW a t.A<0\/iW a t.B<0 then some 9 else if xI l k t then some 8 else none:=by
 unfold oh xI;rw[hx,Option.bind_some]
 by_cases h1:iW a t.A<0\/iW a t.B<0
 ·rw[aC h1,aC h1]
 rw[aD h1,aD h1]
 by_cases h2:gx t.B t.A<=0
 ·rw[aC h2,aC<|.inl h2]
 rw[aD h2]
 by_cases h3:0<k/\((l[k - 1]?).elim false λu=>decide<|nJ t u<=0)=true
 ·rw[aC h3,aC<|.inr h3]
 ·rw[aD h3,aD<|λh=>h.elim h2 h3]
section
variable {N:Nat}
theorem Db(p q:eE):g8 N p q=some (decide<|w6 p q):=by
 unfold g8;congr 1;rw[eN,bK,dP,cD,zu];rfl
theorem Dc(t u:Test):iO N t u=some (decide<|LG t u):=by
 unfold iO;simp only[Db,aB]
 by_cases h1:w6 t.A u.A
 ·have h:LG t u:= .inl h1;rw[bM h1,aQ,aB,bM h]
 rw[bP h1,aT]
 by_cases h2:t.A=u.A
 ·rw[bM h2,aQ,aB];congr 1;rw[decide_eq_decide];exact⟨λh=> .inr ⟨h2,h⟩,λh=>h.elim (λh=>absurd h h1)<|λh=>h.2⟩
 ·have h:¬LG t u:=λh=>h.elim h1<|λh=>h2 h.1
  rw[bP h2,aT,aB,bP h]
theorem Dd{a:fE}(hl:a.bN.length<=1000000)(p:eE)(hN:4398046511104<=N):dU N a p=some (iW a p):=by
 refine T3 ?_;unfold dU;refine Td (T2 (n:=a.bN.length) (λs=>s) (λk _=>∀(j:Nat)x,j<k->a.bN[j]? =some x->decide (kd x=p)=false) (Go:=λ_=>iW a p = -1) (Rt:=λr=>r=iW a p) ?_ ?_ (eH _) rfl (λj x hj=>by omega) (by omega)) ?_
 ·rintro k s hk e hI;subst e;rw[oF hk,aQ];have hx:a.bN[k]? =some a.bN[k]:=aS hk;refine SZ (x:=decide<|kd a.bN[k]=p) ?_<|Ty (λh=>T8 ?_)<|λh=>Tv ⟨bZ (by omega),λj x hj hjx=>?_⟩
  ·rw[eD hx,aB,aB,Ix,Ix]
   by_cases h1:a.bN[k].Part=p.Part
   ·rw[bM h1,aQ];congr 1;rw[eN,bK,bK,IZ];exact⟨λh=>⟨h1,h⟩,λh=>h.2⟩
   ·rw[bP h1,aT,bP<|λh=>h1 ((IZ _ _).1 h).1]
  ·exact(Gy hx h hI).symm
  ·by_cases e:j=k
   ·subst e;rw[hx]at hjx;injection hjx with hjx;rw[<-hjx];exact h
   ·exact hI j x (by omega) hjx
 ·rintro s e hI;subst e;rw[rU,aT];refine TE ?_;unfold iW;rw[Gx];rw[List.any_eq_false];intro x hx;obtain⟨j,hj⟩:=eX hx;rw[hI j x (bE.1 hj).1 hj];exact pr
 intro o ho;exact TG ho (λs hs=>S9 hs.symm)<|λr hr=>S9 hr
theorem Ab{a:fE}{e:Int}(he:e≠0)(h:dW N a=some e)(l:List Test):cV N a l=some e:=by
 unfold cV;rw[h,aB,show(e != 0)=true by simpa using he,aQ]
theorem AV{a:fE}(ha:a.bN.length<=1000000)(h:dW N a=some 0){l:List Test}(hl:l.length<=1048576)(hN:4398046511104<=N):cV N a l=some (oU a l):=by
 refine T3 ?_;unfold cV;refine SZ h ?_;rw[bne_self_eq_false,aT];unfold oU
 by_cases h2:2000<l.length
 ·rw[bM (show((l.length:Nat):Int)>2000 by omega),aQ,aC h2];exact S9 rfl
 rw[bP (show ¬((l.length:Nat):Int)>2000 by omega),aT,aD h2];have hA:∀p,dU N a p=some (iW a p):=λp=>Dd ha p hN;refine Td (T2 (n:=l.length) (λs=>s) (λk _=>∀j,j<k->oh a l j=none) (Go:=λ_=>qK l.length (oh a l)=none) (Rt:=λr=>qK l.length (oh a l)=some r) ?_ ?_ (eH _) rfl (λj hj=>by omega) (by omega)) ?_
 ·rintro k s hk e hI;subst e;rw[oF hk,aQ];have hx:l[k]? =some l[k]:=aS hk;have hte:=JY (a:=a) hx;generalize l[k]=t at hx hte;refine SZ (x:=decide<|iW a t.A<0\/iW a t.B<0) ?_<|Ty (λh1=>T8 ?_)<|λh1=>?_
  ·simp only[eD hx,aB,hA]
   by_cases q:iW a t.A<0
   ·rw[bM q,aQ,bM<|.inl q]
   ·rw[bP q,aT];congr 1;rw[decide_eq_decide];exact⟨.inr,λh=>h.resolve_left q⟩
  ·rw[aC<|of_decide_eq_true h1]at hte;exact kz.2 ⟨k,hk,hte,hI⟩
  rw[aD<|of_decide_eq_false h1]at hte;refine SZ (x:=decide<|xI l k t) ?_<|Ty (λh2=>T8 ?_)<|λh2=>Tv ⟨bZ (by omega),λj hj=>?_⟩
  ·simp only[eD hx,aB,Db,Dc];have hle:gx t.B t.A<=0↔¬w6 t.A t.B:=by rw[<-o0];omega
   by_cases q:w6 t.A t.B
   ·rw[bM q,mU,aT]
    by_cases h0:0<k
    ·have hp:k - 1<l.length:=by omega
     have hy:l[k - 1]? =some l[k - 1]:=aS hp;have hgt:nJ t l[k - 1]<=0↔¬LG l[k - 1] t:=by rw[<-Hb];omega
     rw[bM (show((k:Nat):Int)>0 by omega),aQ,gC h0 (by omega),eD hy,aB];congr 1;rw[eN,Bool.not_eq_true',decide_eq_false_iff_not,bK];unfold xI;rw[hy,Option.elim_some,bK,hgt,hle];exact⟨λh=> .inr ⟨h0,h⟩,λh=>h.elim (λh=>absurd q h)<|λh=>h.2⟩
    ·have hn:¬xI l k t:=λh=>h.elim (λh=>hle.1 h q)<|λh=>h0 h.1
     rw[bP (show ¬((k:Nat):Int)>0 by omega),aT,bP hn]
   ·have hn:xI l k t:= .inl<|hle.2 q
    rw[bP q,px,aQ,bM hn]
  ·rw[aC<|of_decide_eq_true h2]at hte;exact kz.2 ⟨k,hk,hte,hI⟩
  ·by_cases e:j=k
   ·subst e;rw[hte,aD<|of_decide_eq_false h2]
   ·exact hI j (by omega)
 ·rintro s e hI;subst e;rw[rU,aT];exact TE<|ky.2 hI
 intro o ho;exact TG ho (λ_ h=>S9 (by rw[h];rfl))<|λr hr=>S9 (by rw[hr];rfl)
end
def Q1(s:List Bool):eJ:=⟨s.map (λb=>bif b then 121 else 110)⟩
structure SV (M:List (eJ×Int)) (G:List (List Bool×List m7)):Prop where
 has:∀s,lY M (Q1 s)=(G.findIdx?<|λg=>decide<|g.1=s).isSome
 get:∀s i,G.findIdx? (λg=>decide<|g.1=s)=some i->fS M (Q1 s) 0=((i:Nat):Int)
section
variable {N:Nat}
end
def ME(p:bL):Prop:=(-1000000<=p.X/\p.X<=1000000)/\(-1000000<=p.Y/\p.Y<=1000000)
def tP(g:bL×bL):Prop:=ME g.1/\ME g.2
def BH:bL:=⟨0,0⟩
theorem Lt:tP (BH,BH):=⟨⟨⟨by decide,by decide⟩,⟨by decide,by decide⟩⟩,⟨⟨by decide,by decide⟩,⟨by decide,by decide⟩⟩⟩
def NG(a:fE)(p:eE):bL:=(a.bN[(iW a p).toNat]?).elim BH dV.At
def gl(a:fE)(t:Test)(s:Bool):bL×bL:=bif s then(NG a t.B,NG a t.A)else(NG a t.A,NG a t.B)
def Hj(x y:Int):Int:=max (x - y)<|y - x
def rB(f t:bL×bL):Int:=max (max (max (Hj f.1.X t.1.X)<|Hj f.1.Y t.1.Y)<|Hj f.2.X t.2.X)<|Hj f.2.Y t.2.Y
def tk(f t:bL×bL)(sp:Int):Int:=(rB f t+sp - 1) / sp
theorem w9{x y:Int}(h1: -1000000<=x/\x<=1000000)(h2: -1000000<=y/\y<=1000000):0<=Hj x y/\Hj x y<=2000000:=by unfold Hj;omega
theorem De{f t:bL×bL}(hf:tP f)(ht:tP t):0<=rB f t/\rB f t<=2000000:=by
 have h1:=w9 hf.1.1 ht.1.1;have h2:=w9 hf.1.2 ht.1.2;have h3:=w9 hf.2.1 ht.2.1;have h4:=w9 hf.2.2 ht.2.2;unfold rB;omega
theorem qe{f t:bL×bL}(hf:tP f)(ht:tP t){sp:Int}(h:1<=sp/\sp<=1000000):0<=tk f t sp/\tk f t sp<=3000000:=by
 have hd:=De hf ht;unfold tk;refine⟨Int.ediv_nonneg (by omega) (by omega),?_⟩;have:(rB f t+sp - 1) / sp<=rB f t+sp - 1:=Int.ediv_le_self _ (by omega);omega
structure Ac (a:fE):Prop where
 CU:a.bN.length<=1000
 SW:∀x∈a.bN,ME x.At
theorem Fk{a:fE}(h:Ac a)(p:eE):ME (NG a p):=by
 unfold NG
 cases hx:a.bN[(iW a p).toNat]? with
 |none=>exact Lt.1
 |some x=>exact h.SW x (fK hx)
theorem qR{a:fE}(h:Ac a)(t:Test)(s:Bool):tP (gl a t s):=by
 unfold gl
 cases s with
 |true=>exact⟨Fk h _,Fk h _⟩
 |false=>exact⟨Fk h _,Fk h _⟩
theorem Fm{a:fE}{p:eE}{k:Nat}{x:dV}(e:iW a p=((k:Nat):Int))(hx:a.bN[k]? =some x):NG a p=x.At:=by unfold NG;rw[e,cN,hx];rfl
def Hk(g:bL×bL):bT:=⟨g.1,g.2⟩
theorem Df{a:fE}(h:n0 a):Ac a:=⟨h.CU,λx hx=>by
 have:=(h.each x hx).at_;unfold rq lV fZ at this;simp only[cD,bK]at this
 exact⟨⟨by omega,by omega⟩,⟨by omega,by omega⟩⟩⟩
section
variable {N:Nat}
theorem pN{x y:Int}(h1: -1000000<=x/\x<=1000000)(h2: -1000000<=y/\y<=1000000):o4 N x y=some (Hj x y):=by
 unfold o4 Hj;rw[eZ (n:=x - y) (by omega),eZ (n:=y - x) (by omega),pM]
theorem I0{f t:bL×bL}(hf:tP f)(ht:tP t){sp:Int}(h:1<=sp/\sp<=1000000)(hN:4398046511104<=N):kI N (Hk f) (Hk t) sp=some (tk f t sp):=by
 have b1:=w9 hf.1.1 ht.1.1;have b2:=w9 hf.1.2 ht.1.2;have b3:=w9 hf.2.1 ht.2.1;have b4:=w9 hf.2.2 ht.2.2;have hd:=De hf ht;refine T3 ?_;unfold kI;refine Td (T2 (n:=2) (λst=>st.2) (λk st=>st.1=if k=0 then 0 else if k=1 then max (Hj f.1.X t.1.X) (Hj f.1.Y t.1.Y)else rB f t) (Go:=λst=>st.1=rB f t) (Rt:=λ_=>False) ?_ ?_ (eH _) rfl rfl (by omega)) ?_
 ·rintro k⟨s,kk⟩hk e hI;dsimp only at e hI ⊢;subst e;rw[show decide (((k:Nat):Int)<2)=true from bM (by omega),aQ];refine SZ (y8 hk) ?_;have:k=0\/k=1:=by omega
  rcases this with rfl|rfl
  ·rw[aC rfl]at hI;subst hI;refine SZ (pN hf.1.1 ht.1.1)<|SZ (pN hf.1.2 ht.1.2)<|Tv ⟨bZ (n:=0) (by omega),?_⟩
   dsimp only;rw[pM,pM];show max (max 0<|Hj f.1.X t.1.X) (Hj f.1.Y t.1.Y)=max (Hj f.1.X t.1.X) (Hj f.1.Y t.1.Y);rw[Int.max_eq_right b1.1]
  ·rw[aD (by decide),aC rfl]at hI;subst hI;refine SZ (pN hf.2.1 ht.2.1)<|SZ (pN hf.2.2 ht.2.2)<|Tv ⟨bZ (n:=1) (by omega),?_⟩
   dsimp only;rw[pM,pM];rfl
 ·rintro⟨s,kk⟩e hI;dsimp only at e hI ⊢;subst e;rw[aD (by decide),aD (by decide)]at hI;refine TE ?_;exact hI
 intro o ho;refine TG ho ?_<|λr hr=>hr.elim
 rintro⟨s,kk⟩hs;dsimp only at hs ⊢;subst hs;have hz:LR sp=some ():=by unfold LR;rw[show(sp==0)=false by rw[beq_eq_false_iff_ne];omega];rfl
 refine SZ hz<|S9 ?_
 rw[eZ (n:=rB f t+sp) (by omega),eZ (n:=rB f t+sp - 1) (by omega),Int.tdiv_eq_ediv_of_nonneg (by omega)];have hb:=qe hf ht h;unfold tk at hb ⊢;exact eZ (by omega)
theorem I8{a:fE}(g:n0 a){t:Test}(ht:Bs a t)(s:Bool)(hN:4398046511104<=N):i9 N a t s=some (Hk<|gl a t s):=by
 obtain⟨i,x,e1,hx,_,hi⟩:=Aa ht.la;obtain⟨j,y,e2,hy,_,hj⟩:=Aa ht.lb;have hA:∀p,fB N a p=some (iW a p):=λp=>uL g p hN;unfold i9;rw[hA,aB,e1,eD hx,aB,hA,aB,e2,eD hy,aB];unfold gl Hk;rw[Fm e1 hx,Fm e2 hy]
 cases s <;> rfl
theorem tQ{a:fE}{l:List Test}{e sp tc:Int}(h:gR N a l=some e):kr N a l sp tc=some (if e≠0 then e else if(1<=sp/\sp<=1000000)/\(0<=tc/\tc<=1000)then 0 else 1):=by
 unfold kr;rw[h,aB]
 by_cases he:e=0
 ·subst he;rw[bne_self_eq_false,aT,aD (by decide)];have w1:ln N sp 1 1000000=some (decide (sp>=1)&&decide (sp<=1000000)):=rfl;have w2:ln N tc 0 1000=some (decide (tc>=0)&&decide (tc<=1000)):=rfl;rw[w1,w2,aB]
  by_cases h1:1<=sp/\sp<=1000000
  ·rw[show(decide (sp>=1)&&decide (sp<=1000000))=true by rw[cD,bK,bK];exact h1,mU,aT,aB,aB]
   by_cases h2:0<=tc/\tc<=1000
   ·rw[show(decide (tc>=0)&&decide (tc<=1000))=true by rw[cD,bK,bK];exact h2,aC ⟨h1,h2⟩];rfl
   ·rw[show(decide (tc>=0)&&decide (tc<=1000))=false by rw[Bool.and_eq_false_iff,decide_eq_false_iff_not,decide_eq_false_iff_not];omega,aD<|λh=>h2 h.2];rfl
  ·rw[show(decide (sp>=1)&&decide (sp<=1000000))=false by rw[Bool.and_eq_false_iff,decide_eq_false_iff_not,decide_eq_false_iff_not];omega,aD<|λh=>h1 h.1];rfl
 ·rw[show(e != 0)=true by simpa using he,aQ,aC he]
def NH(a:fE)(l:List Test)(sp tc:Int):aW:=⟨a,l,sp,tc⟩
theorem yR{a:fE}{l:List Test}{e sp tc:Int}(h:cV N a l=some e):∃m,jh N a l sp tc=some (m,if e≠0 then e else if(1<=sp/\sp<=1000000)/\(0<=tc/\tc<=1000)then 0 else 1)/\(e=0->(1<=sp/\sp<=1000000)/\(0<=tc/\tc<=1000)->m=NH a l sp tc):=by
 unfold jh;rw[h,aB]
 by_cases he:e=0
 ·subst he;rw[bne_self_eq_false,aT,aD (by decide)];have w1:ik N sp 1 1000000=some (decide (sp>=1)&&decide (sp<=1000000)):=rfl;have w2:ik N tc 0 1000=some (decide (tc>=0)&&decide (tc<=1000)):=rfl;rw[w1,w2,aB]
  by_cases h1:1<=sp/\sp<=1000000
  ·rw[show(decide (sp>=1)&&decide (sp<=1000000))=true by rw[cD,bK,bK];exact h1,mU,aT,aB,aB]
   by_cases h2:0<=tc/\tc<=1000
   ·rw[show(decide (tc>=0)&&decide (tc<=1000))=true by rw[cD,bK,bK];exact h2,aC ⟨h1,h2⟩];exact⟨_,rfl,λ_ _=>rfl⟩
   ·rw[show(decide (tc>=0)&&decide (tc<=1000))=false by rw[Bool.and_eq_false_iff,decide_eq_false_iff_not,decide_eq_false_iff_not];omega,aD<|λh=>h2 h.2];exact⟨_,rfl,λ_ h=>absurd h.2 h2⟩
  ·rw[show(decide (sp>=1)&&decide (sp<=1000000))=false by rw[Bool.and_eq_false_iff,decide_eq_false_iff_not,decide_eq_false_iff_not];omega,aD<|λh=>h1 h.1];exact⟨_,rfl,λ_ h=>absurd h.1 h1⟩
 ·rw[show(e != 0)=true by simpa using he,aQ,aC he];exact⟨_,rfl,λh=>absurd h he⟩
theorem xc{a:fE}(g:Ac a){l:List Test}{sp tc:Int}{k:Nat}{t:Test}(hx:l[k]? =some t)(ht:Bs a t)(s:Bool)(hN:4398046511104<=N):cS N (NH a l sp tc) ((k:Nat):Int) s=some (gl a t s):=by
 obtain⟨i,x,e1,hlx,_,hi⟩:=Aa ht.la;obtain⟨j,y,e2,hly,_,hj⟩:=Aa ht.lb;have hf:=g.CU;have hA:∀p,dU N a p=some (iW a p):=λp=>Dd (by omega) p hN;unfold cS;show((idx l ((k:Nat):Int)).bind _)=_;rw[eD hx,aB];show((dU N a t.A).bind _)=_;rw[hA,aB];show((idx a.bN<|iW a t.A).bind _)=_;rw[e1,eD hlx,aB];show((idx l ((k:Nat):Int)).bind _)=_;rw[eD hx,aB];show((dU N a t.B).bind _)=_;rw[hA,aB];show((idx a.bN<|iW a t.B).bind _)=_;rw[e2,eD hly,aB];unfold gl;rw[Fm e1 hlx,Fm e2 hly]
 cases s <;> rfl
theorem Q2{d1 d2 d3 d4 e1 e2 e3 e4:Int}:Ak d1 [e1,d2,e2,d3,e3,d4,e4]=max (max (max (max d1 e1)<|max d2 e2)<|max d3 e3) (max d4 e4):=by
 unfold Ak;simp only[List.foldl_cons,List.foldl_nil,pM,Int.max_assoc]
theorem Bt{a:fE}(g:Ac a){l:List Test}{sp tc:Int}(hsp:1<=sp/\sp<=1000000)(htc:0<=tc/\tc<=1000){k:Nat}{t:Test}(hx:l[k]? =some t)(ht:Bs a t)(s:Bool){p:bL×bL}(hp:tP p)(hN:4398046511104<=N):
  cL N (NH a l sp tc) p.1 p.2 ((k:Nat):Int) s=some (tk p (gl a t s) sp+tc):=by
 have hg:=qR g t s;have hd:=De hp hg;have hb:=qe hp hg hsp;unfold cL;rw[xc g hx ht s hN,aB];generalize gl a t s=q at *;have hz:LR (NH a l sp tc).speed=some ():=by show LR sp=_;unfold LR;rw[show(sp==0)=false by rw[beq_eq_false_iff_ne];omega];rfl
 rw[hz,aB];obtain⟨⟨p1,p2⟩,⟨p3,p4⟩⟩:=hp;obtain⟨⟨q1,q2⟩,⟨q3,q4⟩⟩:=hg;rw[eZ (n:=q.1.X - p.1.X) (by omega),eZ (n:=p.1.X - q.1.X) (by omega),eZ (n:=q.1.Y - p.1.Y) (by omega),eZ (n:=p.1.Y - q.1.Y) (by omega),eZ (n:=q.2.X - p.2.X) (by omega),eZ (n:=p.2.X - q.2.X) (by omega),eZ (n:=q.2.Y - p.2.Y) (by omega),eZ (n:=p.2.Y - q.2.Y) (by omega),Q2];have e:max (max (max (max (q.1.X - p.1.X)<|p.1.X - q.1.X)<|max (q.1.Y - p.1.Y)<|p.1.Y - q.1.Y)<|max (q.2.X - p.2.X)<|p.2.X - q.2.X) (max (q.2.Y - p.2.Y)<|p.2.Y - q.2.Y)=rB p q:=by
  unfold rB Hj;rw[Int.max_comm<|q.1.X - p.1.X,Int.max_comm<|q.1.Y - p.1.Y,Int.max_comm<|q.2.X - p.2.X,Int.max_comm<|q.2.Y - p.2.Y]
 rw[e];show some (wrap .i64<|wrap .i64 (Int.tdiv (wrap .i64<|wrap .i64 (rB p q+sp) - 1) sp)+tc)=_;rw[eZ (n:=rB p q+sp) (by omega),eZ (n:=rB p q+sp - 1) (by omega),Int.tdiv_eq_ediv_of_nonneg (by omega)];have e2:(rB p q+sp - 1) / sp=tk p q sp:=rfl;rw[e2,eZ (n:=tk p q sp) (by omega),eZ (by omega)]
end
def OC:Test:=⟨⟨⟨[]⟩,⟨[]⟩⟩,⟨⟨[]⟩,⟨[]⟩⟩,false⟩
structure Lu (n:Nat) (o:List Touch) (k:Nat) (s:List Bool):Prop where
 len:s.length=n
 at_:∀i,i<n->s[i]? =some (decide (∃j y,j<k/\o[j]? =some y/\y.Test=((i:Nat):Int)))
theorem Lu.set{n:Nat}{o:List Touch}{k:Nat}{s:List Bool}(h:Lu n o k s){x:Touch}(hx:o[k]? =some x){i:Nat}(hi:x.Test=((i:Nat):Int))(hin:i<n):Lu n o (k+1) (s.set i true):=by
 refine⟨by rw[hZ];exact h.len,λq hq=>?_⟩
 by_cases e:i=q
 ·subst e;rw[List.getElem?_set_self (by rw[h.len];exact hin)];congr 1;exact(bM ⟨k,x,by omega,hx,hi⟩).symm
 ·rw[List.getElem?_set_ne e,h.at_ q hq];congr 1;rw[decide_eq_decide];constructor
  ·rintro⟨j,y,h1,h2,h3⟩;exact⟨j,y,by omega,h2,h3⟩
  ·rintro⟨j,y,h1,h2,h3⟩
   by_cases ej:j=k
   ·subst ej;rw[hx]at h2;injection h2 with h2;subst h2;rw[hi]at h3;omega
   ·exact⟨j,y,by omega,h2,h3⟩
section
variable {N:Nat}
end
def uM(a:fE)(sp:Int):List Test->bL×bL->Int
 | [],_=>0
 |t::ts,p=>min (tk p (gl a t false) sp+uM a sp ts (gl a t false)) (tk p (gl a t true) sp+uM a sp ts (gl a t true))
def JZ(a:fE)(sp:Int)(t:Test)(ts:List Test)(p:bL×bL):Bool:=decide<|tk p (gl a t true) sp+uM a sp ts (gl a t true)<tk p (gl a t false) sp+uM a sp ts (gl a t false)
def I9(a:fE)(sp tc:Int):List Test->Nat->bL×bL->Int->List Touch
 | [],_,_,_=>[]
 |t::ts,i,p,now=>⟨((i:Nat):Int),JZ a sp t ts p,now+(tk p (gl a t (JZ a sp t ts p)) sp+tc)⟩::I9 a sp tc ts (i+1) (gl a t (JZ a sp t ts p)) (now+(tk p (gl a t (JZ a sp t ts p)) sp+tc))
theorem Hd(a:fE)(sp tc:Int)(t:Test)(ts:List Test)(i:Nat)(p:bL×bL)(now:Int):I9 a sp tc (t::ts) i p now= ⟨((i:Nat):Int),JZ a sp t ts p,now+(tk p (gl a t<|JZ a sp t ts p) sp+tc)⟩::I9 a sp tc ts (i+1) (gl a t<|JZ a sp t ts p) (now+(tk p (gl a t<|JZ a sp t ts p) sp+tc)):=rfl
theorem AW{a:fE}(g:Ac a){sp:Int}(hsp:1<=sp/\sp<=1000000):∀(ts:List Test)(p:bL×bL),tP p->0<=uM a sp ts p/\uM a sp ts p<=3000000*((ts.length:Nat):Int)
 | [],p,_=>⟨Int.le_refl _,by simp[uM]⟩
 |t::ts,p,hp=>by
  have h1:=AW g hsp ts _<|qR g t false
  have h2:=AW g hsp ts _<|qR g t true
  have h3:=qe hp (qR g t false) hsp;have h4:=qe hp (qR g t true) hsp;unfold uM;rw[eM];omega
theorem MF(tc:Int)(n:Nat):tc*((n+1:Nat):Int)=tc*((n:Nat):Int)+tc:=by rw[Int.natCast_add,Int.mul_add];simp
theorem Ja(a:fE)(sp tc:Int):∀(ts:List Test)(i:Nat)(p:bL×bL)(now:Int),(I9 a sp tc ts i p now).length=ts.length
 | [],_,_,_=>rfl
 |t::ts,i,p,now=>by unfold I9;rw[eM,eM,Ja a sp tc ts]
theorem BX{l:List Test}{k:Nat}{t:Test}(hx:l[k]? =some t):l.drop k=t::l.drop (k+1):=by
 obtain⟨hk,rfl⟩:=bE.1 hx;exact tj hk
def AX(a:fE)(l:List Test)(sp:Int)(i:Nat):cB:=match l[i - 1]? with
 |some t=>if i=0 then⟨0,0⟩else⟨uM a sp (l.drop i) (gl a t false),uM a sp (l.drop i) (gl a t true)⟩
 |none=>⟨0,0⟩
def yS(a:fE)(l:List Test)(sp:Int)(lo i:Nat):cB:=if lo<=i then AX a l sp i else⟨0,0⟩
theorem BZ{a:fE}{l:List Test}{sp:Int}{k:Nat}{t:Test}(hx:l[k]? =some t):AX a l sp (k+1)= ⟨uM a sp (l.drop<|k+1)<|gl a t false,uM a sp (l.drop<|k+1)<|gl a t true⟩:=by
 unfold AX;rw[BJ,hx];dsimp only;rw[aD (by omega)]
theorem Lv{a:fE}{l:List Test}{sp:Int}(h0:0<l.length):AX a l sp l.length= ⟨0,0⟩:=by
 obtain⟨k,hk⟩:∃k,l.length=k+1:=⟨l.length - 1,by omega⟩;have hx:l[k]? =some l[k]:=aS (by omega);rw[hk,BZ hx,<-hk,List.drop_eq_nil_of_le<|bV _];rfl
def pR(n:Nat)(f:Nat->cB):List cB:=(List.range n).map f
theorem Ad(n:Nat)(f:Nat->cB):(pR n f).length=n:=by unfold pR;simp
theorem rX{n:Nat}{f:Nat->cB}{i:Nat}(h:i<n):(pR n f)[i]? =some (f i):=by unfold pR;rw[iZ,List.getElem?_range h];rfl
theorem nK{n:Nat}{f g:Nat->cB}(h:∀i,i<n->f i=g i):pR n f=pR n g:=List.map_congr_left λi hi=>h i<|oH.1 hi
theorem He{n:Nat}{f g:Nat->cB}{i:Nat}{v:cB}(hv:i<n->v=g i)(hg:∀j,j<n->j≠i->f j=g j):(pR n f).set i v=pR n g:=by
 refine List.ext_getElem? λj=>?_
 by_cases hj:j<n
 ·rw[rX hj]
  by_cases e:i=j
  ·subst e;rw[List.getElem?_set_self (by rw[Ad];exact hj),hv hj]
  ·rw[List.getElem?_set_ne e,rX hj,hg j hj<|Ne.symm e]
 ·rw[List.getElem?_eq_none (by rw[hZ,Ad];omega),List.getElem?_eq_none (by rw[Ad];omega)]
theorem Ei(n:Nat):List.replicate n (⟨0,0⟩:cB)=pR n (λ_=>⟨0,0⟩):=by
 refine List.ext_getElem? λj=>?_
 by_cases hj:j<n
 ·rw[rX hj,List.getElem?_replicate,aC hj]
 ·rw[List.getElem?_eq_none (by simp;omega),List.getElem?_eq_none (by rw[Ad];omega)]
section
variable {N:Nat}
theorem Lw{a:fE}(g:n0 a){l:List Test}{sp tc:Int}(hsp:1<=sp/\sp<=1000000)(htc:0<=tc/\tc<=1000)(h0:gR N a l=some 0)(hl:l.length<=2000)(ht:∀t∈l,Bs a t)(hN:4398046511104<=N):
  nn N a l sp tc=some (I9 a sp tc l 0 (BH,BH) 0,0):=by
 have gT:=Df g;have hc:=tQ (N:=N) (sp:=sp) (tc:=tc) h0;rw[aD (by decide),aC ⟨hsp,htc⟩]at hc;have hgo:∀{k:Nat}{t:Test},l[k]? =some t->∀s,i9 N a t s=some (Hk<|gl a t s):=λhx s=>I8 g (ht _<|fK hx) s hN;have hto:∀{p q:bL×bL},tP p->tP q->kI N (Hk p) (Hk q) sp=some (tk p q sp):=λhp hq=>I0 hp hq hsp hN;refine T3 ?_;unfold nn;refine SZ hc ?_;rw[bne_self_eq_false,aT,bZ (by omega)];refine SZ (oQ _ (by omega)) ?_;rw[Ei]
 refine Td (Ua (λst=>∃c:Int,st.2=c/\((l.length=0/\c = -1/\st.1=pR 1 (λ_=>⟨0,0⟩))\/(0<l.length/\∃k:Nat,k<l.length/\c=((k:Nat):Int)/\st.1=pR (l.length+1) (yS a l sp (k+1))))) (λst=>(st.2+1).toNat)
  (Go:=λst=>st.1=pR (l.length+1) (yS a l sp 1)) (Rt:=λ_=>False) ?_ ?_ ?_) ?_
 ·rintro⟨T,c⟩⟨_,rfl,⟨h1,h2,h3⟩|⟨h1,k,h2,h3,h4⟩⟩
  ·dsimp only at h2 h3 ⊢;subst h2;subst h3;rw[bP (by decide),aT];refine TE ?_;dsimp only;rw[h1];exact nK λi hi=>by unfold yS;rw[aD (by omega)]
  ·dsimp only at h3 h4 ⊢;subst h3;subst h4
   by_cases hk0:0<k
   rotate_left
   ·have:k=0:=by omega
    subst this;rw[bP (by decide),aT];exact TE rfl
   ·rw[bM (by omega),aQ];obtain⟨i,hi⟩:∃i,k=i+1:=⟨k - 1,by omega⟩;have hx:l[i]? =some l[i]:=aS (by omega);have hy:l[k]? =some l[k]:=aS h2;have hgx:=λs=>qR gT l[i] s;have hgy:=λs=>qR gT l[k] s;have hdk:l.drop k=l[k]::l.drop (k+1):=BX hy;have hb:=λs=>AW gT hsp (l.drop<|k+1) _<|hgy s
    have hdl:(l.drop<|k+1).length<=2000:=by rw[gO];omega
    have hval:∀s,uM a sp (l.drop k) (gl a l[i] s)=min (tk (gl a l[i] s) (gl a l[k] false) sp+uM a sp (l.drop<|k+1) (gl a l[k] false)) (tk (gl a l[i] s) (gl a l[k] true) sp+uM a sp (l.drop<|k+1) (gl a l[k] true)):=λs=>by rw[hdk];rfl
    have hEk:AX a l sp k= ⟨uM a sp (l.drop k)<|gl a l[i] false,uM a sp (l.drop k)<|gl a l[i] true⟩:=by
     conv=>lhs;rw[hi]
     rw[BZ hx,<-hi]
    rw[show([false,true]:List Bool).length=2 from rfl];refine Td (T6 (λj T=>T=pR (l.length+1) (λq=>if q=k then(if j=0 then⟨0,0⟩else if j=1 then⟨uM a sp (l.drop k)<|gl a l[i] false,0⟩else AX a l sp k)else yS a l sp (k+1) q)) (by omega) (nK λq hq=>?_)<|λj T hj I=>?_)<|λT I=>Tv ⟨⟨_,rfl, .inr ⟨h1,i,by omega,?_,?_⟩⟩,?_⟩
    ·by_cases e:q=k
     ·subst e;rw[aC rfl,aC rfl];unfold yS;rw[aD (by omega)]
     ·rw[aD e]
    ·subst I;have hk1:k+1<l.length+1:=by omega
     have hT1:(pR (l.length+1) (λq=>if q=k then(if j=0 then⟨0,0⟩else if j=1 then⟨uM a sp (l.drop k)<|gl a l[i] false,0⟩else AX a l sp k)else yS a l sp (k+1) q))[k+1]? =some (⟨uM a sp (l.drop<|k+1)<|gl a l[k] false,uM a sp (l.drop<|k+1)<|gl a l[k] true⟩:cB):=by
      rw[rX hk1,aD (by omega)];unfold yS;rw[aC<|bV _,BZ hy]
     have hT0:(pR (l.length+1) (λq=>if q=k then(if j=0 then⟨0,0⟩else if j=1 then⟨uM a sp (l.drop k)<|gl a l[i] false,0⟩else AX a l sp k)else yS a l sp (k+1) q))[k]? =some (if j=0 then⟨0,0⟩else if j=1 then⟨uM a sp (l.drop k)<|gl a l[i] false,0⟩else AX a l sp k):=by
      rw[rX (by omega),aC rfl]
     have hwp:wrap .i64 (((k:Nat):Int) - 1)=((i:Nat):Int):=by rw[gC hk0 (by omega)];congr 1;omega
     have hst:∀s:Bool,[false,true][j]? =some s->∀T',T'=pR (l.length+1) (λq=>if q=k then(if j=0 then⟨0,0⟩else if j=1 then⟨uM a sp (l.drop k)<|gl a l[i] false,0⟩else AX a l sp k)else yS a l sp (k+1) q)->
       T'.set k ((if j=0 then(⟨0,0⟩:cB)else if j=1 then⟨uM a sp (l.drop k)<|gl a l[i] false,0⟩else AX a l sp k).st ⟨j,hj⟩<|uM a sp (l.drop k)<|gl a l[i] s)=pR (l.length+1) (λq=>if q=k then(if j+1=0 then⟨0,0⟩else if j+1=1 then⟨uM a sp (l.drop k)<|gl a l[i] false,0⟩else AX a l sp k)else yS a l sp (k+1) q):=λs hs T' hT'=>by
      subst hT';refine He (λ_=>?_) (λq _ hne=>by rw[aD hne,aD hne]);rw[aC rfl];have hj2:j=0\/j=1:=by omega
      rcases hj2 with rfl|rfl
      ·have:s=false:=by simpa using hs.symm
       subst this;rfl
      ·have:s=true:=by simpa using hs.symm
       subst this;show(⟨uM a sp (l.drop k)<|gl a l[i] false,0⟩:cB).st ⟨1,hj⟩ _=AX a l sp k;rw[hEk];rfl
     have hsx:([false,true]:List Bool)[j]? =some (([false,true]:List Bool)[j]'hj):=aS _;generalize ([false,true]:List Bool)[j]'hj=s at hsx;have t1:=qe (hgx s) (hgy false) hsp;have t2:=qe (hgx s) (hgy true) hsp;have b1:=hb false;have b2:=hb true;refine Ti hsx ?_;rw[hwp,bZ (by omega)];refine Ti hx<|SZ (hgo hx s)<|Ti hy<|SZ (hgo hy false)<|SZ (hto (hgx s)<|hgy false)<|Ti hT1<|Ti hy<|SZ (hgo hy true)<|SZ (hto (hgx s)<|hgy true)<|Ti hT1<|Ti hT0<|SZ (y8 hj)<|S9 ?_
     dsimp only;rw[eZ (n:=tk (gl a l[i] s) (gl a l[k] true) sp+uM a sp (l.drop<|k+1) (gl a l[k] true)) (by omega),eZ (n:=tk (gl a l[i] s) (gl a l[k] false) sp+uM a sp (l.drop<|k+1) (gl a l[k] false)) (by omega),tC,cN,<-hval s];exact hst s hsx _ rfl
    ·show wrap .i64 (((k:Nat):Int) - 1)=((i:Nat):Int);rw[gC hk0 (by omega)];congr 1;omega
    ·dsimp only;rw[I];refine nK λq hq=>?_
     by_cases e:q=k
     ·subst e;rw[aC rfl,aD (by decide),aD (by decide)];unfold yS;rw[aC (by omega)]
     ·rw[aD e];unfold yS
      by_cases h5:k+1<=q
      ·rw[aC h5,aC (by omega)]
      ·rw[aD h5,aD (by omega)]
    ·dsimp only;rw[gC hk0 (by omega)];omega
 ·refine⟨_,rfl,?_⟩
  by_cases hl0:l.length=0
  ·left;refine⟨hl0,by dsimp only;rw[hl0];rfl,by dsimp only;rw[hl0]⟩
  ·right;refine⟨by omega,l.length - 1,by omega,gC (by omega) (by omega),?_⟩;dsimp only;refine nK λq hq=>?_;unfold yS
   by_cases h5:l.length - 1+1<=q
   ·have:q=l.length:=by omega
    subst this;rw[aC h5,Lv (by omega)]
   ·rw[aD h5]
 ·dsimp only
  by_cases hl0:l.length=0
  ·rw[hl0];show _<N;rw[show wrap .i64 (((0:Nat):Int) - 1) = -1 from rfl];simp;omega
  ·rw[gC (by omega) (by omega)];omega
 intro o ho;refine TG ho ?_<|λr hr=>hr.elim
 rintro⟨T,c⟩hT;dsimp only at hT ⊢;subst hT;refine Td (T6 (λk st=>∃p:bL×bL,st.2.1=Hk p/\tP p/\(0<=st.2.2/\st.2.2<=3001000*((k:Nat):Int))/\st.1.length=k/\st.1++I9 a sp tc (l.drop k) k p st.2.2=I9 a sp tc l 0 (BH,BH) 0) (by omega) ⟨(BH,BH),rfl,Lt,⟨by decide,by decide⟩,rfl,rfl⟩<|λk st hk I=>?_)<|λst I=>?_
 ·obtain⟨out,q,now⟩:=st;obtain⟨p,rfl,I2,I3,I5,I4⟩:=I;dsimp only at I3 I4 I5 ⊢;have hx:l[k]? =some l[k]:=aS hk;rw[BX hx]at I4;generalize l[k]=t at *;have hgk:=λs=>qR gT t s;have t1:=qe I2 (hgk false) hsp;have t2:=qe I2 (hgk true) hsp;have b1:=AW gT hsp (l.drop<|k+1) _<|hgk false
  have b2:=AW gT hsp (l.drop<|k+1) _<|hgk true
  have hdl:(l.drop<|k+1).length<=2000:=by rw[gO];omega
  have hT1:(pR (l.length+1)<|yS a l sp 1)[k+1]? =some (⟨uM a sp (l.drop<|k+1)<|gl a t false,uM a sp (l.drop<|k+1)<|gl a t true⟩:cB):=by
   rw[rX (by omega)];unfold yS;rw[aC (by omega),BZ hx]
  refine Ti hx<|SZ (hgo hx false)<|SZ (hto I2<|hgk false)<|SZ (hgo hx true)<|SZ (hto I2<|hgk true) ?_
  rw[bZ (by omega)];refine Ti hT1<|Ti hT1 ?_
  dsimp only;rw[eZ (n:=tk p (gl a t true) sp+uM a sp (l.drop<|k+1) (gl a t true)) (by omega),eZ (n:=tk p (gl a t false) sp+uM a sp (l.drop<|k+1) (gl a t false)) (by omega)];have eb:decide (tk p (gl a t true) sp+uM a sp (l.drop<|k+1) (gl a t true)<tk p (gl a t false) sp+uM a sp (l.drop<|k+1) (gl a t false))=JZ a sp t (l.drop<|k+1) p:=rfl;rw[eb];generalize hB:JZ a sp t (l.drop<|k+1) p=B at *;have tB:=qe I2 (hgk B) hsp;refine SZ (x:=tk p (gl a t B) sp) (by cases B <;> rfl)<|SZ (hgo hx B) ?_
  rw[eZ (n:=tk p (gl a t B) sp+tc) (by omega),eZ (n:=now+(tk p (gl a t B) sp+tc)) (by omega)];refine TW (by rw[I5];simp only[eM,List.length_nil];omega)<|S9 ⟨_,rfl,hgk B,?_,?_,?_⟩
  ·dsimp only;omega
  ·dsimp only;rw[dG,I5];rfl
  ·dsimp only;rw[<-I4,kf];congr 1;show _=I9 a sp tc (t::l.drop (k+1)) k p now;rw[Hd,hB];rfl
 ·obtain⟨p,I1,I2,I3,I5,I4⟩:=I;refine S9 ?_;rw[List.drop_eq_nil_of_le<|bV _]at I4;rw[<-I4];show(st.1,0)=(st.1++[],0);rw[mS]
end
def m9(a:fE)(sp tc:Int)(ts:List Test)(p:bL×bL):Int:=uM a sp ts p+tc*((ts.length:Nat):Int)
theorem Fp{a:fE}(g:Ac a){sp tc:Int}(hsp:1<=sp/\sp<=1000000)(htc:0<=tc/\tc<=1000)(ts:List Test)(hl:ts.length<=2000){p:bL×bL}(hp:tP p):0<=m9 a sp tc ts p/\m9 a sp tc ts p<=6002000000:=by
 have h1:=AW g hsp ts p hp;have h2:0<=tc*((ts.length:Nat):Int):=Int.mul_nonneg htc.1 (by omega);have h3:tc*((ts.length:Nat):Int)<=1000*((ts.length:Nat):Int):=Int.mul_le_mul_of_nonneg_right htc.2 (by omega);unfold m9;omega
theorem J0(a:fE)(sp tc:Int)(t:Test)(ts:List Test)(p:bL×bL):m9 a sp tc (t::ts) p=min (tk p (gl a t false) sp+tc+m9 a sp tc ts (gl a t false)) (tk p (gl a t true) sp+tc+m9 a sp tc ts (gl a t true)):=by
 unfold m9;rw[eM,MF,show uM a sp (t::ts) p=min (tk p (gl a t false) sp+uM a sp ts (gl a t false)) (tk p (gl a t true) sp+uM a sp ts (gl a t true))from rfl];omega
def Ae(a:fE)(l:List Test)(sp tc:Int)(i:Nat):cB:=match l[i]? with
 |some t=>⟨m9 a sp tc (l.drop (i+1)) (gl a t false),m9 a sp tc (l.drop (i+1)) (gl a t true)⟩
 |none=>⟨0,0⟩
def xd(a:fE)(l:List Test)(sp tc:Int)(lo i:Nat):cB:=if lo<=i then Ae a l sp tc i else⟨0,0⟩
theorem Fq{a:fE}{l:List Test}{sp tc:Int}{k:Nat}{t:Test}(hx:l[k]? =some t):Ae a l sp tc k= ⟨m9 a sp tc (l.drop<|k+1)<|gl a t false,m9 a sp tc (l.drop<|k+1)<|gl a t true⟩:=by unfold Ae;rw[hx]
theorem Ej{a:fE}{l:List Test}{sp tc:Int}{k:Nat}(h:l.length<=k+1):Ae a l sp tc k= ⟨0,0⟩:=by
 unfold Ae
 cases l[k]? with
 |none=>rfl
 |some t=>
  dsimp only;rw[List.drop_eq_nil_of_le h];show(⟨0+tc*0,0+tc*0⟩:cB)= ⟨0,0⟩;rw[Int.mul_zero];rfl
section
variable {N:Nat}
theorem H5{a:fE}(gT:Ac a){l:List Test}{sp tc:Int}(hsp:1<=sp/\sp<=1000000)(htc:0<=tc/\tc<=1000)(h0:cV N a l=some 0)(hl:l.length<=2000)(ht:∀t∈l,Bs a t)(hN:4398046511104<=N):
  gI N a l sp tc=some (I9 a sp tc l 0 (BH,BH) 0,0):=by
 obtain⟨m,hm,hmm⟩:=yR (N:=N) (sp:=sp) (tc:=tc) h0;have hmm:=hmm rfl ⟨hsp,htc⟩;subst hmm;rw[aD (by decide),aC ⟨hsp,htc⟩]at hm;have hso:∀{k:Nat}{t:Test},l[k]? =some t->∀s,cS N (NH a l sp tc) ((k:Nat):Int) s=some (gl a t s):=λhx s=>xc gT hx (ht _<|fK hx) s hN;have hta:∀{k:Nat}{t:Test},l[k]? =some t->∀s{p:bL×bL},tP p->cL N (NH a l sp tc) p.1 p.2 ((k:Nat):Int) s=some (tk p (gl a t s) sp+tc):=λhx s _ hp=>Bt gT hsp htc hx (ht _<|fK hx) s hp hN;refine T3 ?_;unfold gI;refine SZ hm ?_;simp only[bne_self_eq_false,aT];rw[bZ (by omega)];refine SZ (oQ _ (by omega)) ?_;rw[Ei]
 refine Td (Ua (λst=>(l.length<=1/\st.2<0/\st.1=pR (l.length+1) (xd a l sp tc 0))\/∃k:Nat,k<l.length/\st.2=((k:Nat):Int) - 1/\st.1=pR (l.length+1) (xd a l sp tc k)) (λst=>(st.2+1).toNat)
  (Go:=λst=>st.1=pR (l.length+1) (xd a l sp tc 0)) (Rt:=λ_=>False) ?_ ?_ ?_) ?_
 ·rintro⟨T,c⟩(⟨h1,h2,h3⟩|⟨k,h2,h3,h4⟩)
  ·dsimp only at h2 h3 ⊢;rw[bP (by omega),aT];exact TE h3
  ·dsimp only at h3 h4 ⊢;subst h3;subst h4
   by_cases hk0:0<k
   rotate_left
   ·have:k=0:=by omega
    subst this;rw[bP (by omega),aT];exact TE rfl
   ·rw[bM (by omega),aQ];obtain⟨i,hi⟩:∃i,k=i+1:=⟨k - 1,by omega⟩;have hki:((k:Nat):Int) - 1=((i:Nat):Int):=by omega
    rw[hki];have hx:l[i]? =some l[i]:=aS (by omega);have hy:l[k]? =some l[k]:=aS h2;have hgx:=λs=>qR gT l[i] s;have hgy:=λs=>qR gT l[k] s;have hdk:l.drop k=l[k]::l.drop (k+1):=BX hy;have hdl:(l.drop<|k+1).length<=2000:=by rw[gO];omega
    have hb:=λs=>Fp gT hsp htc (l.drop<|k+1) hdl<|hgy s
    have hval:∀s,m9 a sp tc (l.drop k) (gl a l[i] s)=min (tk (gl a l[i] s) (gl a l[k] false) sp+tc+m9 a sp tc (l.drop<|k+1) (gl a l[k] false)) (tk (gl a l[i] s) (gl a l[k] true) sp+tc+m9 a sp tc (l.drop<|k+1) (gl a l[k] true)):=λs=>by rw[hdk,J0]
    have hEi:Ae a l sp tc i= ⟨m9 a sp tc (l.drop k)<|gl a l[i] false,m9 a sp tc (l.drop k)<|gl a l[i] true⟩:=by rw[Fq hx,<-hi]
    refine Td (T2 (n:=2) (λst=>st.2) (λj st=>st.1=pR (l.length+1) (λq=>if q=i then(if j=0 then⟨0,0⟩else if j=1 then⟨m9 a sp tc (l.drop k)<|gl a l[i] false,0⟩else Ae a l sp tc i)else xd a l sp tc k q)) (Go:=λst=>st.1=pR (l.length+1) (xd a l sp tc i)) (Rt:=λ_=>False) ?_ ?_ (eH _) rfl (nK λq hq=>?_) (by omega))<|λo ho=>TG ho (λst hst=>Tv ⟨.inr ⟨i,by omega,?_,hst⟩,?_⟩)<|λr hr=>hr.elim
    ·rintro j⟨T,jj⟩hj e I;dsimp only at e I ⊢;subst e;subst I;rw[show decide (((j:Nat):Int)<2)=true from bM (by omega),aQ];have hT1:(pR (l.length+1) (λq=>if q=i then(if j=0 then⟨0,0⟩else if j=1 then⟨m9 a sp tc (l.drop k)<|gl a l[i] false,0⟩else Ae a l sp tc i)else xd a l sp tc k q))[k]? =some (⟨m9 a sp tc (l.drop<|k+1)<|gl a l[k] false,m9 a sp tc (l.drop<|k+1)<|gl a l[k] true⟩:cB):=by
      rw[rX (by omega),aD (by omega)];unfold xd;rw[aC<|bV _,Fq hy]
     have hT0:(pR (l.length+1) (λq=>if q=i then(if j=0 then⟨0,0⟩else if j=1 then⟨m9 a sp tc (l.drop k)<|gl a l[i] false,0⟩else Ae a l sp tc i)else xd a l sp tc k q))[i]? =some (if j=0 then⟨0,0⟩else if j=1 then⟨m9 a sp tc (l.drop k)<|gl a l[i] false,0⟩else Ae a l sp tc i):=by
      rw[rX (by omega),aC rfl]
     have hst:∀s:Bool,(((j:Nat):Int)==1)=s->∀T',T'=pR (l.length+1) (λq=>if q=i then(if j=0 then⟨0,0⟩else if j=1 then⟨m9 a sp tc (l.drop k)<|gl a l[i] false,0⟩else Ae a l sp tc i)else xd a l sp tc k q)->
       T'.set i ((if j=0 then(⟨0,0⟩:cB)else if j=1 then⟨m9 a sp tc (l.drop k)<|gl a l[i] false,0⟩else Ae a l sp tc i).st ⟨j,hj⟩<|m9 a sp tc (l.drop k)<|gl a l[i] s)=pR (l.length+1) (λq=>if q=i then(if j+1=0 then⟨0,0⟩else if j+1=1 then⟨m9 a sp tc (l.drop k)<|gl a l[i] false,0⟩else Ae a l sp tc i)else xd a l sp tc k q):=λs hs T' hT'=>by
      subst hT';refine He (λ_=>?_) (λq _ hne=>by rw[aD hne,aD hne]);rw[aC rfl];have hj2:j=0\/j=1:=by omega
      rcases hj2 with rfl|rfl
      ·have:s=false:=hs.symm;subst this;rfl
      ·have:s=true:=hs.symm;subst this;show(⟨m9 a sp tc (l.drop k)<|gl a l[i] false,0⟩:cB).st ⟨1,hj⟩ _=Ae a l sp tc i;rw[hEi];rfl
     generalize hs:(((j:Nat):Int)==1)=s at *;have t1:=qe (hgx s) (hgy false) hsp;have t2:=qe (hgx s) (hgy true) hsp;have b1:=hb false;have b2:=hb true;rw[show wrap .i64 (((i:Nat):Int)+1)=((k:Nat):Int)by rw[bZ (by omega),<-hi]];refine SZ (hso hx s)<|SZ (hta hy false<|hgx s)<|Ti hT1<|SZ (hta hy true<|hgx s)<|Ti hT1<|Ti hT0<|SZ (y8 hj)<|Tv ⟨bZ (by omega),?_⟩
     dsimp only;rw[eZ (n:=tk (gl a l[i] s) (gl a l[k] true) sp+tc+m9 a sp tc (l.drop<|k+1) (gl a l[k] true)) (by omega),eZ (n:=tk (gl a l[i] s) (gl a l[k] false) sp+tc+m9 a sp tc (l.drop<|k+1) (gl a l[k] false)) (by omega),tC,cN,<-hval s];exact hst s rfl _ rfl
    ·rintro⟨T,jj⟩e I;dsimp only at e I ⊢;subst e;subst I;rw[show decide (((2:Nat):Int)<2)=false from rfl,aT];refine TE<|nK λq hq=>?_
     by_cases e:q=i
     ·subst e;rw[aC rfl,aD (by decide),aD (by decide)];unfold xd;rw[aC<|bV _]
     ·rw[aD e];unfold xd
      by_cases h5:k<=q
      ·rw[aC h5,aC (by omega)]
      ·rw[aD h5,aD (by omega)]
    ·by_cases e:q=i
     ·subst e;rw[aC rfl,aC rfl];unfold xd;rw[aD (by omega)]
     ·rw[aD e]
    ·show wrap .i64 (((i:Nat):Int) - 1)=((i:Nat):Int) - 1;exact eY (by omega) (by omega)
    ·dsimp only;rw[eY (x:=((i:Nat):Int) - 1) (by omega) (by omega)];omega
 ·dsimp only;rw[eY (x:=((l.length:Nat):Int) - 2) (by omega) (by omega)]
  by_cases hl1:l.length<=1
  ·left;refine⟨hl1,by omega,nK λq hq=>?_⟩;unfold xd;rw[aC<|eH _,Ej (by omega)]
  ·right;refine⟨l.length - 1,by omega,by omega,nK λq hq=>?_⟩;unfold xd
   by_cases h5:l.length - 1<=q
   ·rw[aC h5,Ej (by omega)]
   ·rw[aD h5]
 ·dsimp only;rw[eY (x:=((l.length:Nat):Int) - 2) (by omega) (by omega)];omega
 intro o ho;refine TG ho ?_<|λr hr=>hr.elim
 rintro⟨T,c⟩hT;dsimp only at hT ⊢;subst hT;refine Td (T2 (n:=l.length) (λst=>st.2.2.2.2) (λk st=>tP (st.2.1,st.2.2.1)/\(0<=st.2.2.2.1/\st.2.2.2.1<=3001000*((k:Nat):Int))/\st.1.length=k/\st.1++I9 a sp tc (l.drop k) k (st.2.1,st.2.2.1) st.2.2.2.1=I9 a sp tc l 0 (BH,BH) 0) (Go:=λst=>st.1=I9 a sp tc l 0 (BH,BH) 0) (Rt:=λ_=>False) ?_ ?_ (eH _) rfl ⟨Lt,⟨by decide,by decide⟩,rfl,rfl⟩ (by omega)) ?_
 ·rintro k⟨out,p1,p2,now,kk⟩hk e⟨I2,I3,I5,I4⟩;dsimp only at e I2 I3 I4 I5 ⊢;subst e;rw[oF hk,aQ];have hx:l[k]? =some l[k]:=aS hk;rw[BX hx]at I4;have hgk:=λs=>qR gT l[k] s;have t1:=qe I2 (hgk false) hsp;have t2:=qe I2 (hgk true) hsp;have hdl:(l.drop<|k+1).length<=2000:=by rw[gO];omega
  have b1:=Fp gT hsp htc (l.drop<|k+1) hdl<|hgk false
  have b2:=Fp gT hsp htc (l.drop<|k+1) hdl<|hgk true
  have hT1:(pR (l.length+1)<|xd a l sp tc 0)[k]? =some (⟨m9 a sp tc (l.drop<|k+1)<|gl a l[k] false,m9 a sp tc (l.drop<|k+1)<|gl a l[k] true⟩:cB):=by
   rw[rX (by omega)];unfold xd;rw[aC<|eH _,Fq hx]
  have a0:=hta hx false I2;have a1:=hta hx true I2;refine SZ a0<|SZ a1<|Ti hT1<|Ti hT1 ?_
  dsimp only;rw[eZ (n:=tk (p1,p2) (gl a l[k] true) sp+tc+m9 a sp tc (l.drop<|k+1) (gl a l[k] true)) (by omega),eZ (n:=tk (p1,p2) (gl a l[k] false) sp+tc+m9 a sp tc (l.drop<|k+1) (gl a l[k] false)) (by omega)];have eb:decide (tk (p1,p2) (gl a l[k] true) sp+tc+m9 a sp tc (l.drop<|k+1) (gl a l[k] true)<tk (p1,p2) (gl a l[k] false) sp+tc+m9 a sp tc (l.drop<|k+1) (gl a l[k] false))=JZ a sp l[k] (l.drop<|k+1) (p1,p2):=by
   unfold JZ m9;rw[decide_eq_decide];omega
  rw[eb];generalize hB:JZ a sp l[k] (l.drop<|k+1) (p1,p2)=B at *;have tB:=qe I2 (hgk B) hsp;refine SZ (x:=tk (p1,p2) (gl a l[k] B) sp+tc) (by cases B <;> rfl) ?_;rw[eZ (n:=now+(tk (p1,p2) (gl a l[k] B) sp+tc)) (by omega)];refine TW (by rw[I5];simp only[eM,List.length_nil];omega)<|SZ (hso hx B)<|Tv ⟨bZ (by omega),hgk B,?_,?_,?_⟩
  ·dsimp only;omega
  ·dsimp only;rw[dG,I5];rfl
  ·dsimp only;rw[<-I4,kf];congr 1;show _=I9 a sp tc (l[k]::l.drop (k+1)) k (p1,p2) now;rw[Hd,hB];rfl
 ·rintro⟨out,p1,p2,now,kk⟩e⟨I2,I3,I5,I4⟩;dsimp only at e I4 ⊢;subst e;rw[rU,aT];refine TE ?_;rw[List.drop_eq_nil_of_le<|bV _]at I4;dsimp only;rw[<-I4];show out=out++[];rw[mS]
 intro o ho;exact TG ho (λst h=>S9 (by rw[h]))<|λr hr=>hr.elim
end
def Lx(a:fE)(sp:Int)(t:Test)(p:bL×bL):Int:=min (tk p (gl a t false) sp)<|tk p (gl a t true) sp
def OD(a:fE)(sp:Int)(t:Test)(p:bL×bL):Bool:=decide<|tk p (gl a t true) sp<tk p (gl a t false) sp
theorem OE(a:fE)(sp:Int)(t:Test)(p:bL×bL):Lx a sp t p=tk p (gl a t<|OD a sp t p) sp:=by
 unfold Lx OD
 by_cases h:tk p (gl a t true) sp<tk p (gl a t false) sp
 ·rw[bM h];omega
 ·rw[bP h];omega
noncomputable def Jb(a:fE)(l:List Test)(sp:Int)(dn:List Bool)(p:bL×bL)(st:Int×Bool×Int)(k:Nat):Int×Bool×Int:=match l[k]? with
 |none=>st
 |some t=>if dn[k]? =some true then st else if st.1<0\/Lx a sp t p<st.2.2 then(((k:Nat):Int),OD a sp t p,Lx a sp t p)else st
noncomputable def pk(a:fE)(l:List Test)(sp:Int)(dn:List Bool)(p:bL×bL):Nat->Int×Bool×Int
 | 0=>(-1,false,0)
 |k+1=>Jb a l sp dn p (pk a l sp dn p k) k
theorem NI{a:fE}{l:List Test}{sp:Int}{dn:List Bool}{p:bL×bL}(hd:dn.length=l.length):∀(k:Nat),k<=l.length->
  ((pk a l sp dn p k).1 = -1/\∀i,i<k->dn[i]? =some true)\/∃b t,b<k/\(pk a l sp dn p k).1=((b:Nat):Int)/\dn[b]? =some false/\l[b]? =some t/\(pk a l sp dn p k).2.2=tk p (gl a t (pk a l sp dn p k).2.1) sp
 | 0,_=> .inl ⟨rfl,λi h=>absurd h (by omega)⟩
 |k+1,hk=>by
  have IH:=NI hd (a:=a) (sp:=sp) (p:=p) k (by omega);have hx:l[k]? =some l[k]:=aS (by omega);have hy:dn[k]? =some dn[k]:=aS (by omega);show((Jb a l sp dn p (pk a l sp dn p k) k).1 = -1/\_)\/∃b t,b<k+1/\(Jb a l sp dn p (pk a l sp dn p k) k).1=((b:Nat):Int)/\dn[b]? =some false/\l[b]? =some t/\(Jb a l sp dn p (pk a l sp dn p k) k).2.2=tk p (gl a t (Jb a l sp dn p (pk a l sp dn p k) k).2.1) sp;generalize pk a l sp dn p k=st at IH ⊢;unfold Jb;rw[hx];dsimp only
  by_cases h1:dn[k]? =some true
  ·rw[aC h1]
   rcases IH with⟨e,h⟩|⟨b,t,h2,h3⟩
   ·refine .inl ⟨e,λi hi=>?_⟩
    by_cases ei:i=k
    ·subst ei;exact h1
    ·exact h i (by omega)
   ·exact .inr ⟨b,t,by omega,h3⟩
  ·rw[aD h1]
   by_cases h2:st.1<0\/Lx a sp l[k] p<st.2.2
   ·rw[aC h2];refine .inr ⟨k,l[k],by omega,rfl,?_,hx,OE a sp l[k] p⟩;rw[hy]at h1 ⊢;congr 1
    cases he:dn[k]with
    |false=>rfl
    |true=>exact absurd (by rw[he]) h1
   ·rw[aD h2]
    rcases IH with⟨e,h⟩|⟨b,t,h2,h3⟩
    ·exact absurd (.inl (by rw[e];decide)) h2
    ·exact .inr ⟨b,t,by omega,h3⟩
theorem Ft:∀(dn:List Bool)(b:Nat),dn[b]? =some false->(dn.set b true).count false+1=dn.count false
 | [],b,h=>by simp at h
 |x::xs,0,h=>by
  rw[List.getElem?_cons_zero]at h;injection h with h
  subst h;rw[List.set_cons_zero,List.count_cons_self,List.count_cons_of_ne (by decide)]
 |x::xs,b+1,h=>by
  rw[List.getElem?_cons_succ]at h;have:=Ft xs b h;rw[List.set_cons_succ,List.count_cons,List.count_cons];omega
theorem Ly{a:fE}{l:List Test}{sp:Int}{dn:List Bool}{p:bL×bL}(hd:dn.length=l.length){m:Nat}(hc:dn.count false=m+1):∃b t,b<l.length/\(pk a l sp dn p l.length).1=((b:Nat):Int)/\dn[b]? =some false/\l[b]? =some t/\(pk a l sp dn p l.length).2.2=tk p (gl a t (pk a l sp dn p l.length).2.1) sp:=by
 rcases NI hd (a:=a) (sp:=sp) (p:=p) l.length (bV _)with⟨_,h⟩|h
 ·have hm:false∈dn:=List.count_pos_iff.1 (by omega);obtain⟨i,hi⟩:=eX hm;have hlt:=(bE.1 hi).1;have:=h i (by omega);rw[hi]at this;exact absurd this (by decide)
 ·exact h
noncomputable def J7(a:fE)(l:List Test)(sp tc:Int):Nat->List Bool->bL×bL->Int->List Touch
 | 0,_,_,_=>[]
 |m+1,dn,p,now=>⟨(pk a l sp dn p l.length).1,(pk a l sp dn p l.length).2.1,now+((pk a l sp dn p l.length).2.2+tc)⟩::J7 a l sp tc m (dn.set (pk a l sp dn p l.length).1.toNat true) (gl a (l.getD (pk a l sp dn p l.length).1.toNat OC) (pk a l sp dn p l.length).2.1) (now+((pk a l sp dn p l.length).2.2+tc))
theorem Hf{a:fE}{l:List Test}{sp tc:Int}{m:Nat}{dn:List Bool}{p:bL×bL}{now:Int}{b:Nat}{t:Test}{s:Bool}{d:Int}(h1:(pk a l sp dn p l.length).1=((b:Nat):Int))(h2:(pk a l sp dn p l.length).2.1=s)(h3:(pk a l sp dn p l.length).2.2=d)(hx:l[b]? =some t):
  J7 a l sp tc (m+1) dn p now= ⟨((b:Nat):Int),s,now+(d+tc)⟩::J7 a l sp tc m (dn.set b true) (gl a t s) (now+(d+tc)):=by
 show(⟨(pk a l sp dn p l.length).1,(pk a l sp dn p l.length).2.1,now+((pk a l sp dn p l.length).2.2+tc)⟩:Touch)::J7 a l sp tc m (dn.set (pk a l sp dn p l.length).1.toNat true) (gl a (l.getD (pk a l sp dn p l.length).1.toNat OC) (pk a l sp dn p l.length).2.1) (now+((pk a l sp dn p l.length).2.2+tc))=_;rw[h1,h2,h3,cN,show l.getD b OC=t by rw[List.getD_eq_getElem?_getD,hx];rfl]
def J8(s:Bool):Nat:=bif s then 1 else 0
theorem OG(s:Bool):J8 s<2:=by cases s <;> decide
section
variable {N:Nat}
theorem H6{a:fE}(g:n0 a){l:List Test}{sp tc:Int}(hsp:1<=sp/\sp<=1000000)(htc:0<=tc/\tc<=1000)(h0:gR N a l=some 0)(hl:l.length<=2000)(ht:∀t∈l,Bs a t)(hN:4398046511104<=N):
  lA N a l sp tc=some (J7 a l sp tc l.length (List.replicate l.length false) (BH,BH) 0,0):=by
 have gT:=Df g;have hc:=tQ (N:=N) (sp:=sp) (tc:=tc) h0;rw[aD (by decide),aC ⟨hsp,htc⟩]at hc;have hgo:∀{k:Nat}{t:Test},l[k]? =some t->∀s,i9 N a t s=some (Hk<|gl a t s):=λhx s=>I8 g (ht _<|fK hx) s hN;have hto:∀{p q:bL×bL},tP p->tP q->kI N (Hk p) (Hk q) sp=some (tk p q sp):=λhp hq=>I0 hp hq hsp hN;refine T3 ?_;unfold lA;refine SZ hc ?_;rw[bne_self_eq_false,aT];refine SZ (oQ _ (by omega)) ?_;refine Td (T6 (λk T=>T.length=l.length/\∀j t,j<k->l[j]? =some t->T[j]? =some (⟨Hk<|gl a t false,Hk<|gl a t true⟩:bW)) (by omega) ⟨by simp,λj t hj=>absurd hj (by omega)⟩<|λk T hk I=>?_) ?_
 ·obtain⟨I1,I2⟩:=I;have hx:l[k]? =some l[k]:=aS hk;have hTk:T[k]? =some T[k]:=aS (by omega);refine Ti hx<|SZ (hgo hx false)<|SZ (hgo hx true)<|Ti hTk<|S9 ⟨by rw[hZ];exact I1,λj t hj hy=>?_⟩
  rw[cN]
  by_cases e:k=j
  ·subst e;rw[List.getElem?_set_self (by omega)];rw[hx]at hy;injection hy with hy;subst hy;rfl
  ·rw[List.getElem?_set_ne e];exact I2 j t (by omega) hy
 rintro T⟨_,hT⟩;have hT:∀j t,l[j]? =some t->T[j]? =some (⟨Hk<|gl a t false,Hk<|gl a t true⟩:bW):=λj t hj=>hT j t (bE.1 hj).1 hj;refine SZ (oQ _ (by omega)) ?_;refine Td (T6 (λk st=>∃p:bL×bL,st.2.2.1=Hk p/\tP p/\(0<=st.2.2.2/\st.2.2.2<=3001000*((k:Nat):Int))/\st.1.length=l.length/\st.1.count false+k=l.length/\st.2.1.length=k/\st.2.1++J7 a l sp tc (l.length - k) st.1 p st.2.2.2=J7 a l sp tc l.length (List.replicate l.length false) (BH,BH) 0) (by omega) ⟨(BH,BH),rfl,Lt,⟨Int.le_refl _,Int.le_refl _⟩,by simp,by simp,rfl,rfl⟩<|λk st hk I=>?_)<|λst I=>?_
 ·obtain⟨dn,out,q,now⟩:=st;obtain⟨p,rfl,I2,I3,I4,I5,I6,I7⟩:=I;dsimp only at I3 I4 I5 I6 I7 ⊢;refine Td (T6 (λj st=>st=((pk a l sp dn p j).1,((J8 (pk a l sp dn p j).2.1:Nat):Int),(pk a l sp dn p j).2.2)) (by omega) rfl<|λj st hj I=>?_)<|λst I=>?_
  ·subst I;have hx:l[j]? =some l[j]:=aS hj;have hy:dn[j]? =some dn[j]:=aS (by omega);have hpk:pk a l sp dn p (j+1)=Jb a l sp dn p (pk a l sp dn p j) j:=rfl;rw[hpk];generalize pk a l sp dn p j=S0;have hn:Jb a l sp dn p S0 j=if dn[j]=true then S0 else if S0.1<0\/Lx a sp l[j] p<S0.2.2 then(((j:Nat):Int),OD a sp l[j] p,Lx a sp l[j] p)else S0:=by
    unfold Jb;rw[hx,hy];dsimp only
    by_cases h:dn[j]=true
    ·rw[aC h,aC (by rw[h])]
    ·rw[aD h,aD<|λe=>h (by injection e)]
   generalize Jb a l sp dn p S0 j=S2 at hn;have hTj:=hT j _ hx;have hg0:=qR gT l[j] false;have hg1:=qR gT l[j] true;generalize l[j]=t at *;generalize hdj:dn[j]=dj at *;refine Td (T2 (n:=2) (λst=>st.2.2.2) (λi st=>(st.1,st.2.1,st.2.2.1)=if i=0 then(S0.1,((J8 S0.2.1:Nat):Int),S0.2.2)else if i=1 then(if dj=true then(S0.1,((J8 S0.2.1:Nat):Int),S0.2.2)else if S0.1<0\/tk p (gl a t false) sp<S0.2.2 then(((j:Nat):Int),0,tk p (gl a t false) sp)else(S0.1,((J8 S0.2.1:Nat):Int),S0.2.2))else(S2.1,((J8 S2.2.1:Nat):Int),S2.2.2)) (Go:=λst=>(st.1,st.2.1,st.2.2.1)=(S2.1,((J8 S2.2.1:Nat):Int),S2.2.2)) (Rt:=λ_=>False) ?_ ?_ (eH _) rfl rfl (by omega))<|λo ho=>TG ho (λst h=>S9 h)<|λr hr=>hr.elim
   ·rintro i⟨s1,s2,s3,s4⟩hi e I;dsimp only at e I ⊢;subst e;rw[show decide (((i:Nat):Int)<2)=true from bM (by omega),aQ];refine Ti hy ?_;have hi2:i=0\/i=1:=by omega
    cases dj with
    |true=>
     rw[aQ];rw[aC rfl]at hn;subst hn
     rcases hi2 with rfl|rfl
     ·refine Tv ⟨bZ (n:=0) (by omega),?_⟩;rw[aC rfl]at I;rw[aD (by decide),aC rfl,aC rfl];exact I
     ·refine Tv ⟨bZ (n:=1) (by omega),?_⟩;rw[aD (by decide),aC rfl,aC rfl]at I;rw[aD (by decide),aD (by decide)];exact I
    |false=>
     rw[aT];rw[aD (by decide)]at hn;refine Ti hTj<|SZ (y8 hi) ?_
     rcases hi2 with rfl|rfl
     ·rw[aC rfl]at I;injection I with I1 I
      injection I with I2' I3'
      subst I1;subst I2';subst I3';refine SZ (hto I2 hg0) ?_
      by_cases hb:S0.1<0\/tk p (gl a t false) sp<S0.2.2
      ·rw[show(decide (S0.1<0)||decide (tk p (gl a t false) sp<S0.2.2))=true by rw[dP,bK,bK];exact hb,aQ,aB];refine Tv ⟨bZ (n:=0) (by omega),?_⟩;rw[aD (by decide),aC rfl,aD (by decide),aC hb];rfl
      ·rw[show(decide (S0.1<0)||decide (tk p (gl a t false) sp<S0.2.2))=false by rw[Bool.or_eq_false_iff,decide_eq_false_iff_not,decide_eq_false_iff_not];exact⟨λh=>hb<|.inl h,λh=>hb<|.inr h⟩,aT,aB];refine Tv ⟨bZ (n:=0) (by omega),?_⟩;rw[aD (by decide),aC rfl,aD (by decide),aD hb]
     ·rw[aD (by decide),aC rfl,aD (by decide)]at I;have key:∀u:Int×Int×Int,u=(if s1<0\/tk p (gl a t true) sp<s3 then(((j:Nat):Int),1,tk p (gl a t true) sp)else(s1,s2,s3))->u=(S2.1,((J8 S2.2.1:Nat):Int),S2.2.2):=λu hu=>by
       subst hu;rw[hn];unfold Lx OD;generalize tk p (gl a t false) sp=d0 at *;generalize tk p (gl a t true) sp=d1 at *
       by_cases hb:S0.1<0\/d0<S0.2.2
       ·rw[aC hb]at I;injection I with I1 I
        injection I with I2' I3'
        subst I1;subst I2';subst I3';rw[aC (show S0.1<0\/min s3 d1<S0.2.2 by omega)]
        by_cases h1:d1<s3
        ·rw[aC<|.inr h1,bM h1];show _=(((j:Nat):Int),((J8 true:Nat):Int),min s3 d1);rw[Int.min_eq_right (by omega)];rfl
        ·rw[aD (by omega),bP h1];show _=(((j:Nat):Int),((J8 false:Nat):Int),min s3 d1);rw[Int.min_eq_left (by omega)];rfl
       ·rw[aD hb]at I;injection I with I1 I
        injection I with I2' I3'
        subst I1;subst I2';subst I3'
        by_cases h1:d1<S0.2.2
        ·rw[aC<|.inr h1,aC (show S0.1<0\/min d0 d1<S0.2.2 by omega),bM (show d1<d0 by omega)];show _=(((j:Nat):Int),((J8 true:Nat):Int),min d0 d1);rw[Int.min_eq_right (by omega)];rfl
        ·rw[aD (by omega),aD (show ¬(S0.1<0\/min d0 d1<S0.2.2)by omega)]
      refine SZ (hto I2 hg1) ?_
      by_cases hb:s1<0\/tk p (gl a t true) sp<s3
      ·rw[show(decide (s1<0)||decide (tk p (gl a t true) sp<s3))=true by rw[dP,bK,bK];exact hb,aQ,aB];refine Tv ⟨bZ (n:=1) (by omega),?_⟩;rw[aD (by decide),aD (by decide)];exact key _ (by rw[aC hb];rfl)
      ·rw[show(decide (s1<0)||decide (tk p (gl a t true) sp<s3))=false by rw[Bool.or_eq_false_iff,decide_eq_false_iff_not,decide_eq_false_iff_not];exact⟨λh=>hb<|.inl h,λh=>hb<|.inr h⟩,aT,aB];refine Tv ⟨bZ (n:=1) (by omega),?_⟩;rw[aD (by decide),aD (by decide)];exact key _ (by rw[aD hb])
   ·rintro⟨s1,s2,s3,s4⟩e I;dsimp only at e I ⊢;subst e;rw[show decide (((2:Nat):Int)<2)=false from rfl,aT];rw[aD (by decide),aD (by decide)]at I;exact TE I
  ·subst I;dsimp only;obtain⟨b,t,hb,e1,h2,h3,h4⟩:=Ly I4 (m:=l.length - k - 1) (a:=a) (sp:=sp) (p:=p) (by omega);have hsn:=Hf (tc:=tc) (m:=l.length - k - 1) (now:=now) e1 rfl h4 h3;rw[show l.length - k - 1+1=l.length - k by omega]at hsn;rw[hsn]at I7;generalize pk a l sp dn p l.length=R at *;obtain⟨R1,R2,R3⟩:=R;dsimp only at e1 h4 I7 ⊢;subst e1;subst h4;have hgk:=qR gT t R2;have t1:=qe I2 hgk hsp;rw[eZ (n:=tk p (gl a t R2) sp+tc) (by omega),eZ (n:=now+(tk p (gl a t R2) sp+tc)) (by omega)];refine Ti h2<|Ti (hT b t h3)<|SZ (y8<|OG R2)<|TW (by rw[I6];simp only[eM,List.length_nil];omega)<|S9 ⟨gl a t R2,?_,hgk,?_,?_,?_,?_,?_⟩
   ·cases R2 <;> rfl
   ·dsimp only;omega
   ·dsimp only;rw[hZ];exact I4
   ·dsimp only;rw[cN];have:=Ft dn b h2;omega
   ·dsimp only;rw[dG,I6];rfl
   ·dsimp only;rw[<-I7,kf,cN,show l.length -(k+1)=l.length - k - 1 by omega,show(((J8 R2:Nat):Int)==1)=R2 by cases R2 <;> rfl];rfl
 ·obtain⟨p,I1,I2,I3,I4,I5,I6,I7⟩:=I;refine S9 ?_;rw[Nat.sub_self]at I7;rw[<-I7];show(st.2.1,0)=(st.2.1++[],0);rw[mS]
end
section
variable {N:Nat}
theorem Fu{a:fE}(gT:Ac a){l:List Test}{sp tc:Int}(hsp:1<=sp/\sp<=1000000)(htc:0<=tc/\tc<=1000)(h0:cV N a l=some 0)(hl:l.length<=2000)(ht:∀t∈l,Bs a t)(hN:4398046511104<=N):
  fX N a l sp tc=some (J7 a l sp tc l.length (List.replicate l.length false) (BH,BH) 0,0):=by
 obtain⟨m,hm,hmm⟩:=yR (N:=N) (sp:=sp) (tc:=tc) h0;have hmm:=hmm rfl ⟨hsp,htc⟩;subst hmm;rw[aD (by decide),aC ⟨hsp,htc⟩]at hm;have hso:∀{k:Nat}{t:Test},l[k]? =some t->∀s,cS N (NH a l sp tc) ((k:Nat):Int) s=some (gl a t s):=λhx s=>xc gT hx (ht _<|fK hx) s hN;have hta:∀{k:Nat}{t:Test},l[k]? =some t->∀s{p:bL×bL},tP p->cL N (NH a l sp tc) p.1 p.2 ((k:Nat):Int) s=some (tk p (gl a t s) sp+tc):=λhx s _ hp=>Bt gT hsp htc hx (ht _<|fK hx) s hp hN;refine T3 ?_;unfold fX;refine SZ hm ?_;simp only[bne_self_eq_false,aT];refine SZ (oQ _ (by omega)) ?_;refine Td (T6 (λk st=>tP (st.2.2.1,st.2.2.2.1)/\(0<=st.2.2.2.2/\st.2.2.2.2<=3001000*((k:Nat):Int))/\st.1.length=l.length/\st.1.count false+k=l.length/\st.2.1.length=k/\st.2.1++J7 a l sp tc (l.length - k) st.1 (st.2.2.1,st.2.2.2.1) st.2.2.2.2=J7 a l sp tc l.length (List.replicate l.length false) (BH,BH) 0) (by omega) ⟨Lt,⟨Int.le_refl _,Int.le_refl _⟩,by simp,by simp,rfl,rfl⟩<|λk st hk I=>?_)<|λst I=>?_
 ·obtain⟨dn,out,p1,p2,now⟩:=st;obtain⟨I2,I3,I4,I5,I6,I7⟩:=I;dsimp only at I2 I3 I4 I5 I6 I7 ⊢;refine Td (T2 (n:=l.length) (λst=>st.2.2.2) (λi st=>st.1=(pk a l sp dn (p1,p2) i).1/\st.2.1=(pk a l sp dn (p1,p2) i).2.1/\(0<=st.1->st.2.2.1=(pk a l sp dn (p1,p2) i).2.2+tc)) (Go:=λst=>st.1=(pk a l sp dn (p1,p2) l.length).1/\st.2.1=(pk a l sp dn (p1,p2) l.length).2.1/\(0<=st.1->st.2.2.1=(pk a l sp dn (p1,p2) l.length).2.2+tc)) (Rt:=λ_=>False) ?_ ?_ (eH _) rfl ⟨rfl,rfl,λh=>absurd h (by decide)⟩ (by omega)) ?_
  ·rintro j⟨s1,s2,s3,s4⟩hj e⟨J1,J2,J3⟩;dsimp only at e J1 J2 J3 ⊢;subst e;rw[oF hj,aQ];have hx:l[j]? =some l[j]:=aS hj;have hy:dn[j]? =some dn[j]:=aS (by omega);have hpk:pk a l sp dn (p1,p2) (j+1)=Jb a l sp dn (p1,p2) (pk a l sp dn (p1,p2) j) j:=rfl;rw[hpk];generalize pk a l sp dn (p1,p2) j=S0 at *;have hn:Jb a l sp dn (p1,p2) S0 j=if dn[j]=true then S0 else if S0.1<0\/Lx a sp l[j] (p1,p2)<S0.2.2 then(((j:Nat):Int),OD a sp l[j] (p1,p2),Lx a sp l[j] (p1,p2))else S0:=by
    unfold Jb;rw[hx,hy];dsimp only
    by_cases h:dn[j]=true
    ·rw[aC h,aC (by rw[h])]
    ·rw[aD h,aD<|λe=>h (by injection e)]
   generalize Jb a l sp dn (p1,p2) S0 j=S2 at hn;refine Ti hy ?_;have hg0:=qR gT l[j] false;have hg1:=qR gT l[j] true;have t1:=qe I2 hg0 hsp;have t2:=qe I2 hg1 hsp;have a0:=hta hx false I2;have a1:=hta hx true I2
   cases hdj:dn[j]with
   |true=>
    rw[hdj,aC rfl]at hn;subst hn;rw[aQ];exact Tv ⟨bZ (by omega),J1,J2,J3⟩
   |false=>
    rw[hdj,aD (by decide)]at hn;rw[aT];refine SZ a0<|SZ a1 ?_
    unfold Lx OD at hn;generalize tk (p1,p2) (gl a l[j] false) sp=d0 at *;generalize tk (p1,p2) (gl a l[j] true) sp=d1 at *;rw[tC];refine SZ (x:=decide<|S0.1<0\/min d0 d1<S0.2.2) ?_ ?_
    ·by_cases h:S0.1<0
     ·rw[J1,bM h,aQ,bM<|.inl h]
     ·rw[J1,bP h,aT];congr 1;rw[decide_eq_decide];have:=J3 (by omega);omega
    ·by_cases h:S0.1<0\/min d0 d1<S0.2.2
     ·rw[aC h]at hn;rw[bM h,aQ,aB];refine Tv ⟨bZ (by omega),?_,?_,λ_=>?_⟩
      ·rw[hn]
      ·rw[hn];show decide (d1+tc<d0+tc)=decide (d1<d0);rw[decide_eq_decide];omega
      ·rw[hn];show min (d0+tc) (d1+tc)=min d0 d1+tc;omega
     ·rw[aD h]at hn;rw[bP h,aT,aB];subst hn;exact Tv ⟨bZ (by omega),J1,J2,J3⟩
  ·rintro⟨s1,s2,s3,s4⟩e I;dsimp only at e I ⊢;subst e;rw[rU,aT];exact TE I
  intro o ho;refine TG ho ?_<|λr hr=>hr.elim
  rintro⟨s1,s2,s3,s4⟩⟨J1,J2,J3⟩;dsimp only at J1 J2 J3 ⊢;obtain⟨b,t,hb,e1,h2,h3,h4⟩:=Ly I4 (m:=l.length - k - 1) (a:=a) (sp:=sp) (p:=(p1,p2)) (by omega);have hsn:=Hf (tc:=tc) (m:=l.length - k - 1) (now:=now) e1 rfl h4 h3;rw[show l.length - k - 1+1=l.length - k by omega]at hsn;rw[hsn]at I7;generalize pk a l sp dn (p1,p2) l.length=R at *;obtain⟨R1,R2,R3⟩:=R;dsimp only at e1 h4 I7 J1 J2 J3 ⊢;subst e1;subst J1;subst J2;have J3:=J3 (by omega);rw[h4]at J3;subst J3;have hgk:=qR gT t s2;have t1:=qe I2 hgk hsp;rw[eZ (n:=now+(tk (p1,p2) (gl a t s2) sp+tc)) (by omega)];refine Ti h2<|TW (by rw[I6];simp only[eM,List.length_nil];omega)<|SZ (hso h3 s2)<|S9 ⟨hgk,?_,?_,?_,?_,?_⟩
  ·dsimp only;omega
  ·dsimp only;rw[hZ];exact I4
  ·dsimp only;rw[cN];have:=Ft dn b h2;omega
  ·dsimp only;rw[dG,I6];rfl
  ·dsimp only;rw[<-I7,kf,cN,show l.length -(k+1)=l.length - k - 1 by omega];rfl
 ·obtain⟨I2,I3,I4,I5,I6,I7⟩:=I;refine S9 ?_;rw[Nat.sub_self]at I7;rw[<-I7];show(st.2.1,0)=(st.2.1++[],0);rw[mS]
theorem Bu{l:List Touch}(hl:l.length<=4611686018427387904):jy N l l=some true:=by
 have e:jy N l l=ES l l:=rfl;rw[e,Aw hl,bM rfl]
theorem Jc(a:fE)(l:List Test)(sp tc:Int):∀(m:Nat)(dn:List Bool)(p:bL×bL)(now:Int),(J7 a l sp tc m dn p now).length=m
 | 0,_,_,_=>rfl
 |m+1,dn,p,now=>by
  show(J7 a l sp tc m _ _ _).length+1=m+1;rw[Jc a l sp tc m]
theorem vt{a:fE}{l:List Test}{sp tc:Int}(ha:bk a<=1048576)(hl:bk l<=1048576)(_h1:bk sp<=1048576)(_h2:bk tc<=1048576)(hN:4398046511104<=N):dT N a l sp tc=some true:=by
 have hs:=GV ha;have hll:l.length<=1048576:=by have:=yy l;omega
 have aw:=Mz hN;have fin:∀{x y:List Touch×Int},x.1.length<=1048576->y.1.length<=1048576->nn N a l sp tc=some x->gI N a l sp tc=some x->lA N a l sp tc=some y->fX N a l sp tc=some y->dT N a l sp tc=some true:=λ{x y}hx hy h1 h2 h3 h4=>by
  unfold dT;rw[h1,aB,h2,aB,h3,aB,h4,aB,Bu (by omega),aB,Bu (by omega),aB,aw];simp
 have bad:∀{e:Int},gR N a l=some e->cV N a l=some e->(e≠0\/¬((1<=sp/\sp<=1000000)/\(0<=tc/\tc<=1000)))->dT N a l sp tc=some true:=λ{e}h1 h2 h3=>by
  have hc:=tQ (N:=N) (sp:=sp) (tc:=tc) h1;obtain⟨m,hm,_⟩:=yR (N:=N) (sp:=sp) (tc:=tc) h2;have hne:(if e≠0 then e else if(1<=sp/\sp<=1000000)/\(0<=tc/\tc<=1000)then 0 else 1)≠0:=by
   by_cases he:e≠0
   ·rw[aC he];exact he
   ·rw[aD he,aD<|h3.resolve_left he];decide
  generalize (if e≠0 then e else if(1<=sp/\sp<=1000000)/\(0<=tc/\tc<=1000)then 0 else 1)=E at *;have hb:(E != 0)=true:=by simpa using hne
  refine fin (x:=([],E)) (y:=([],E)) (eH _) (eH _) ?_ ?_ ?_ ?_
  ·unfold nn;rw[hc,aB,hb,aQ]
  ·unfold gI;rw[hm,aB];dsimp only;rw[hb,aQ]
  ·unfold lA;rw[hc,aB,hb,aQ]
  ·unfold fX;rw[hm,aB];dsimp only;rw[hb,aQ]
 rcases checked (N:=N) hs hN with⟨e,he,h1,h2⟩|⟨b,h1,h2⟩
 ·exact bad (oG<|Lr he h1 l) (Ab he h2 l)<|.inl he
 rename_i mz gY r gs ofP ofB ry q9;have hlf:=b.wZ.CU;have hT:=AV (N:=N) (by omega) h2 hll hN
 rcases MB b h1 hll hN with⟨e1,e2⟩|⟨e1,e2⟩
 ·exact bad (oG e2) hT<|.inl e1
 rw[e1]at hT;obtain⟨t1,t2,_⟩:=Fj e1;have gT:=Df b.wZ
 by_cases hst:(1<=sp/\sp<=1000000)/\(0<=tc/\tc<=1000)
 ·exact fin (by rw[Ja];omega) (by rw[Jc];omega) (Lw b.wZ hst.1 hst.2 (oG e2) t1 t2 hN) (H5 gT hst.1 hst.2 hT t1 t2 hN) (H6 b.wZ hst.1 hst.2 (oG e2) t1 t2 hN)<|Fu gT hst.1 hst.2 hT t1 t2 hN
 ·exact bad (oG e2) hT<|.inr hst
end
end Go.Gk
