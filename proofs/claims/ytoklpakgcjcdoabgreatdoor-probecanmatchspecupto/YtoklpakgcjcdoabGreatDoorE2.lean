/-
  Helping texts: plain functions and plain laws. No statement of the seed is proved here.
-/
import Derived.Test.YtoklpakgcjcdoabGreatDoorE1
import Derived.Test.YtoklpakgcjcdoabGreatDoorA2
set_option linter.unusedVariables false
set_option linter.unusedSimpArgs false
set_option linter.unusedSectionVars false
namespace Go.Gk
open Go IntKind Classical
section
variable {N:Nat}
def F2(a:gZ):Prop:=∀x∈a.bO,x.Part.dV.length<=2097152/\x.eK.dV.length<=2097152
theorem G7{a:gZ}(h1:a.aL.length<=1073741824)(h2:a.bO.length<=1073741824)(h3:F2 a)(hN:4194304<=N):mu N a=some (nS a):=by
 unfold mu nS
 by_cases h:1000<a.bO.length
 ·grind
 ·have hw:wrap .i64 ((a.aL.length:Int) - 1)=(a.aL.length:Int) - 1:=gF (by omega) (by omega)
  rw[bY (by omega),aQ,aI h,qm (l9 a) (by omega) (λk hk _=>by
   have hx:a.bO[k]? =some a.bO[k]:=aM hk;have hs:=h3 _<|cH hk
   rw[cB hx,aB,CF hs.1 hN,aB]
   have hle:l9 a k=(if(pX a.bO[k].Part&&isWord a.bO[k].eK)=true then
     if(il a.bO[k].cN 0 ((a.aL.length:Int) - 1)&&vo a.bO[k].At)=true then
      if 0<k/\(∃y,a.bO[k - 1]? =some y/\iq (lq a.bO[k]) (lq y)<=0)then some 8 else none
     else some 1
    else some 5):=by unfold l9;rw[hx];rfl
   rw[hle];have e1:((bif(!pX a.bO[k].Part)then some true else((kE N a.bO[k].eK).bind λx225=>some<|!x225)):aT Bool)=some (!(pX a.bO[k].Part&&isWord a.bO[k].eK)):=by
    grind [v7,aB,pX]
   have e2:((jM N a.bO[k].cN 0<|wrap .i64<|(a.aL.length:Int) - 1).bind λx318=>bif(!x318)then some true else((lC N a.bO[k].At).bind λx321=>some<|!x321))=some (!(il a.bO[k].cN 0 ((a.aL.length:Int) - 1)&&vo a.bO[k].At)):=by
    grind [BG,aB,D4]
   show((bif(!pX a.bO[k].Part)then some true else((kE N a.bO[k].eK).bind λx225=>some<|!x225)):aT Bool).bind _=_;rw[e1,aB]
   cases h4:(pX a.bO[k].Part&&isWord a.bO[k].eK)with
   |false=>rfl
   |true=>
    rw[ku,aQ,aH rfl];show(((jM N a.bO[k].cN 0<|wrap .i64<|(a.aL.length:Int) - 1).bind λx318=>bif(!x318)then some true else((lC N a.bO[k].At).bind λx321=>some<|!x321))).bind _=_;rw[e2,aB]
    cases h5:(il a.bO[k].cN 0 ((a.aL.length:Int) - 1)&&vo a.bO[k].At)with
    |false=>rfl
    |true=>
     rw[ku,aQ,aH rfl]
     by_cases h0:0<k
     ·rw[bQ (by omega),aP,jB h0 (by omega),np _ _ (by omega)];simp only[Dt,aB,qJ]
      by_cases h6:iq (lq a.bO[k]) (lq a.bO[k - 1])<=0
      ·rw[bQ h6,aH ⟨h0,_,aM (by omega),h6⟩];rfl
      ·rw[bY h6,aI (by
        grind)];rfl
     ·rw[bY (by omega),aI (λh=>h0 h.1)];rfl),aB]
  cases rQ a.bO.length (l9 a) <;> rfl
def m0(b:bV)(k:Int):Bool:=decide (b.cM<=k)&&decide (k<=b.To)
theorem F3(b:bV)(k:Int):mP N b k=some (m0 b k):=rfl
def lW(bs:Z bV)(k:Int):Z aF:=(bs.filter<|λb=>m0 b k).map zu
structure lK (bs:Z bV):Prop where
 len:bs.length<=500
 ok:∀b∈bs,tY b=true/\dK (zu b)=true
structure xY (r hs:Z aF) (s:Z aA):Prop where
 can:ga (s.map cQ)
 cover:∀x y,yQ (s.map cQ) x y=(vX r x y&& !vX hs x y)
 FM:BQ (xf r++xf hs) (kA r++kA hs) (s.map cQ)
theorem Du{bs:Z bV}(h:lK bs)(k:Int):(lW bs k).length<=500:=by
 unfold lW;rw[dM];have:=l4 (λb=>m0 b k) bs;have:=h.len;omega
theorem vq{bs:Z bV}(h:lK bs)(k:Int):∀r∈lW bs k,GL r/\dK r=true:=by
 intro r hr;unfold lW at hr;obtain⟨b,hb,rfl⟩:=dN.1 hr;have:=h.ok b (lu.1 hb).1
 grind [Ra]
theorem xY.small{r hs:Z aF}{s:Z aA}(h:xY r hs s)(h1:∀x∈r,GL x)(h2:∀x∈hs,GL x):(∀c∈xf r++xf hs,small c)/\∀c∈kA r++kA hs,small c:=by
 constructor
 ·intro c hc
  rcases dI.1 hc with h|h
  ·obtain⟨x,hx,rfl|rfl⟩:=xg.1 h
   ·exact(h1 x hx).s1
   ·exact(h1 x hx).s2
  ·obtain⟨x,hx,rfl|rfl⟩:=xg.1 h
   ·exact(h2 x hx).s1
   ·exact(h2 x hx).s2
 ·intro c hc
  rcases dI.1 hc with h|h
  ·obtain⟨x,hx,rfl|rfl⟩:=o7.1 h
   ·exact(h1 x hx).s3
   ·exact(h1 x hx).s4
  ·obtain⟨x,hx,rfl|rfl⟩:=o7.1 h
   ·exact(h2 x hx).s3
   ·exact(h2 x hx).s4
theorem Ag{s:Z aA}{X Y:Z Int}{A:Nat}(hc:ga (s.map cQ))(h:BQ X Y (s.map cQ))(hX:X.length<=A)(hY:Y.length<=A):s.length<=A/\(∀b∈s,b.Xs.length<=A)/\(bB s).length<=A*A:=by
 have h1:s.length<=A:=by have:=h.len hc;grind
 have h2:∀b∈s,b.Xs.length<=A:=λb hb=>by
  have:=h.row hc (b:=cQ b)<|dN.2 ⟨b,hb,rfl⟩
  grind [cQ]
 simp_all[FP]
theorem G8{r hs:Z aF}(h1:r.length<=2000)(h2:∀x∈r,GL x)(h3:hs.length<=500)(h4:∀x∈hs,GL x)(hN:nq N){β:Type}{f:Z aA->aT β}{Q:β->Prop}(k:∀s,xY r hs s->Ok (f s) Q):
  Ok ((jm N r).bind λx378=>(jm N hs).bind λx380=>(mQ N x378 x380).bind f) Q:=by
 refine WJ (sJ (N:=N) (by omega) h2 (by omega))<|λs hs1=>?_
 refine WJ (sJ (N:=N) (by omega) h4 (by omega))<|λt ht=>?_
 have hz:∀c∈kA r++kA hs,small c:=by
  intro c hc
  rcases dI.1 hc with h|h
  ·obtain⟨x,hx,rfl|rfl⟩:=o7.1 h
   ·exact(h2 x hx).s3
   ·exact(h2 x hx).s4
  ·obtain⟨x,hx,rfl|rfl⟩:=o7.1 h
   ·exact(h4 x hx).s3
   ·exact(h4 x hx).s4
 refine WJ (Np (X:=xf r++xf hs) (Y:=kA r++kA hs) hs1.can ht.can (hs1.FM.mono (λc h=>List.mem_append_left _ h) (λc h=>List.mem_append_left _ h)) (ht.FM.mono (λc h=>List.mem_append_right _ h) (λc h=>List.mem_append_right _ h))
  (by grind [eP,vl]) (by grind [eP,nQ]) hz hN) (λu hu=>?_)
 exact k u ⟨hu.can,λx y=>by rw[hu.cover,hs1.cover,ht.cover],hu.FM⟩
def bN:Nat->Z (Z<|Z aA)->Z aD
 |_,[]=>[]
 |k,ps::r=>ps.map (λp=>⟨(k:Int),p,bB p⟩)++bN (k+1) r
theorem xZ(ps:Z (Z aA)):∀(r:Z (Z<|Z aA))(k:Nat),bN k (r++[ps])=bN k r++ps.map (λp=>⟨((k+r.length:Nat):Int),p,bB p⟩)
 | [],k=>by unfold bN;simp[bN]
 |q::r,k=>by
  show _++bN (k+1) (r++[ps])=(_++bN (k+1) r)++_;rw[xZ ps r<|k+1,lx];congr 3;simp only[dX];rw[show k+(r.length+1)=k+1+r.length by omega]
theorem F4{s p:Z aA}{ps:Z (Z aA)}{r:Nat->Nat}{X Y:Z Int}(h:vY s r ps)(hc:ga (s.map cQ))(hl:BQ X Y (s.map cQ))(hX:∀c∈X,small c)(hY:∀c∈Y,small c)(hp:p∈ps):
  ∃j k:Nat,ps[j]? =some p/\(bW (bB s).length r)[j]? =some k/\vm (pd (bB s) (bB s).length r k) p/\BQ X Y (p.map cQ):=by
 obtain⟨j,hj⟩:=dZ hp;have hjl:=(bS.1 hj).1;rw[h.len]at hjl;have hh:(bW (bB s).length r)[j]? =some (bW (bB s).length r)[j]:=aM hjl;have hs:=h.each j _ p hh hj;refine⟨j,_,hj,hh,hs,hs.FM.mono (λc hcx=>?_)<|λc hcx=>?_⟩
 ·obtain⟨x,hx,hxc⟩:=xg.1 hcx;obtain⟨i,_,_,hi⟩:=mZ.1 hx;have:=FR hc hl hX hY x<|gl hi
  grind
 ·obtain⟨x,hx,hxc⟩:=o7.1 hcx;obtain⟨i,_,_,hi⟩:=mZ.1 hx;have:=FR hc hl hX hY x<|gl hi
  grind
structure zx (cs:Z (Z aF)) (bs:Z bV) (k:Nat) (ka:Z (Z aA)) (cI:Z (Z (Z aA))):Prop where
 len:ka.length=k
 Dv:cI.length=k
 dr:∀(i:Nat)r s,i<k->cs[i]? =some r->ka[i]? =some s->xY r (lW bs (i:Int)) s
 pt:∀(i:Nat)s ps,i<k->ka[i]? =some s->cI[i]? =some ps->∃u,vY s u ps
 yO:(bN 0 cI).length<=k*25000000
theorem vY.yO{s:Z aA}{u:Nat->Nat}{ps:Z (Z aA)}(h:vY s u ps):ps.length<=(bB s).length:=by
 rw[h.len];exact mj _ _
theorem LJ{cs:Z (Z aF)}{bs:Z bV}(hcs:cs.length<=16)(hc:∀r∈cs,r.length<=2000/\∀x∈r,GL x)(hb:lK bs)(hN:nq N):
  Ok (lO N cs bs [] []) (λx=>∃cI,zx cs bs cs.length x.2.1 cI/\x.2.2=bN 0 cI/\(x.1=true↔(∀s∈x.2.1,(bB s).length<=2000)/\x.2.2.length<=2000)):=by
 unfold lO
 refine WJ (P:=λ(st:Z (Z aA)×Z aD×Bool)=>∃cI,zx cs bs cs.length st.1 cI/\st.2.1=bN 0 cI/\(st.2.2=true↔∀s∈st.1,(bB s).length<=2000)) (XI (λ(k:Nat)(st:Z (Z aA)×Z aD×Bool)=>∃cI,zx cs bs k st.1 cI/\st.2.1=bN 0 cI/\(st.2.2=true↔∀s∈st.1,(bB s).length<=2000)) (by omega)
  ⟨[],⟨rfl,rfl,λi r s hi=>by omega,λi s ps hi=>by omega,by simp[bN]⟩,rfl,by simp⟩ (λk st hk hI=>?_)) ?_
 ·obtain⟨ka,pcs,okk⟩:=st;obtain⟨cI,D,e1,e2⟩:=hI;dsimp only at D e1 e2 ⊢;subst e1;have hkx:cs[k]? =some cs[k]:=aM hk;obtain⟨hr1,hr2⟩:=hc _<|cH hk
  refine WR hkx ?_;refine WJ (P:=λt=>t=lW bs ((k:Nat):Int)) (Ok.mono (XI (λj t=>t=lW (bs.take j) ((k:Nat):Int)) (by have:=hb.len;omega) rfl<|λj t hj e=>?_) (λt e=>by rw[e,dY]))<|λt e=>?_
  ·subst e;refine XH hj<|IS (F3 _ _) ?_
   have hts:bs.take (j+1)=bs.take j++[bs[j]]:=dH hj;have hgb:=hb.ok _<|cH hj
   have hl:(lW (bs.take j) ((k:Nat):Int)).length<=500:=by
    unfold lW;rw[dM];have:=l4 (λb=>m0 b ((k:Nat):Int))<|bs.take j
    rw[dO]at this;have:=hb.len;omega
   cases ht:m0 bs[j] ((k:Nat):Int)with
   |false=>
    grind [IS,OF,lW]
   |true=>
    rw[aP]
    grind [IS,lW,pf,aB,iS,OF]
  ·subst e;have hho:=vq hb ((k:Nat):Int);have hhl:=Du hb ((k:Nat):Int);refine G8 hr1 hr2 hhl (λx hx=>(hho x hx).1) hN<|λs hs=>?_
   obtain⟨sx,sy⟩:=hs.small hr2<|λx hx=>(hho x hx).1
   obtain⟨z1,z2,z3⟩:=Ag (A:=5000) hs.can hs.FM (by grind [eP,vl]) (by grind [eP,nQ]);have hmany:=P7 (N:=N) (s:=s) (by omega) (λb hb=>by grind) (by omega);refine IS (x:=(okk&&decide ((bB s).length<=2000),s)) ?_ ?_
   ·grind [aB,decide,bB]
   dsimp only;refine Xw (by rw[D.len];simp;omega) ?_;refine WJ (LG (N:=N) hs.can hs.FM sx sy (by omega) (λb hb=>by grind) (by omega) hN) ?_;rintro ps⟨u,hu⟩;have hfew:=hu.yO;have hk16:k*25000000<=16*25000000:=Nat.mul_le_mul_right _ (by omega);have hDf:=D.yO;refine WJ (P:=λt=>t=bN 0 cI++ps.map (λp=>(⟨((k:Nat):Int),p,bB p⟩:aD))) (Ok.mono (XI (λj t=>t=bN 0 cI++(ps.take j).map (λp=>(⟨((k:Nat):Int),p,bB p⟩:aD))) (by omega) (by simp)<|λj t hj e=>?_) (λt e=>by rw[e,dY]))<|λt e=>OF ?_
   ·subst e;have hjx:ps[j]? =some ps[j]:=aM hj;refine WR hjx ?_;obtain⟨_,_,_,_,ph,hpl⟩:=F4 hu hs.can hs.FM sx sy<|cH hj
    obtain⟨y1,y2,y3⟩:=Ag (A:=5000) ph.can hpl (by grind [eP,vl]) (by grind [eP,nQ]);refine IS (FQ (xk ph.can) (by omega) (λb hb=>by grind) (by omega))<|Xw ?_<|OF ?_
    ·grind
    grind [dH,lx]
   ·subst e;refine⟨cI++[ps],⟨by simp[D.len],by simp[D.Dv],λi r s' hi hr hs'=>?_,λi s' ps' hi hs' hps'=>?_,?_⟩,?_,?_⟩
    ·dsimp only at hs'
     by_cases hik:i<k
     ·rw[kM (by rw[D.len];exact hik)]at hs';exact D.dr i r s' hik hr hs'
     ·have:i=k:=by omega
      subst this;rw[jO (by rw[D.len];omega),D.len,Nat.sub_self]at hs';simp at hs';subst hs';rw[hkx]at hr;injection hr with hr;subst hr
      exact hs
    ·dsimp only at hs'
     by_cases hik:i<k
     ·rw[kM (by rw[D.len];exact hik)]at hs';rw[kM (by rw[D.Dv];exact hik)]at hps';exact D.pt i s' ps' hik hs' hps'
     ·have:i=k:=by omega
      subst this;rw[jO (by rw[D.len];omega),D.len,Nat.sub_self]at hs';rw[jO (by rw[D.Dv];omega),D.Dv,Nat.sub_self]at hps';simp at hs' hps';subst hs';subst hps';exact⟨u,hu⟩
    ·rw[xZ,eP,dM];omega
    ·dsimp only;rw[xZ,D.Dv,jR]
    ·dsimp only;rw[dD,e2,dR];constructor
     ·rintro⟨h1,h2⟩s' hs'
      rcases dI.1 hs' with h|h
      ·exact h1 s' h
      ·simp at h;subst h;exact h2
     ·intro h;exact⟨λs' hs'=>h s'<|List.mem_append_left _ hs',h s (by simp)⟩
 ·rintro⟨ka,pcs,okk⟩⟨cI,D,e1,e2⟩;dsimp only at D e1 e2 ⊢;subst e1;refine WJ (P:=λb=>b=true↔(∀s∈ka,(bB s).length<=2000)/\(bN 0 cI).length<=2000) (Xj (λh=>OF ?_)<|λh=>OF ?_)<|λb hb=>OF ⟨cI,D,rfl,hb⟩
  ·rw[dR];constructor
   ·intro h';exact⟨e2.1 h,by omega⟩
   ·rintro⟨_,h'⟩;omega
  ·constructor
   ·intro h';cases h'
   ·rintro⟨h',_⟩;rw[e2.2 h']at h;cases h
end
section
variable {N:Nat}
section
variable {α:Type}
def rp(P:α->Bool)(l:Z α)(n:Nat):Z Nat:=(List.range n).filter<|λk=>(l[k]?).any P
theorem BH{P:α->Bool}{l:Z α}{n:Nat}{x:α}(h:l[n]? =some x):rp P l (n+1)=if P x=true then rp P l n++[n]else rp P l n:=by
 grind [rp,List.range_succ]
theorem Dw(P:α->Bool)(l:Z α)(n:Nat):(rp P l n).length<=n:=by
 have:=l4 (λk=>(l[k]?).any P)<|List.range n
 rw[List.length_range]at this;exact this
theorem Nv{P:α->Bool}{l:Z α}{n k:Nat}:k∈rp P l n↔k<n/\(l[k]?).any P=true:=by simp[rp]
theorem CI{β:Type}{l:Z α}(P:α->Bool)(g:Nat->β):rQ l.length (λk=>(l[k]?).bind λx=>if P x=true then some (g k)else none)=(l.findIdx? P).map g:=by
 cases h:l.findIdx? P with
 |none=>
  grind [List.findIdx?_eq_none_iff,j7,aM,cH]
 |some j=>
  obtain⟨hj,hp,hn⟩:=List.findIdx?_eq_some_iff_getElem.1 h;refine km.2 ⟨j,hj,by grind,λi hi=>?_⟩
  grind
end
def ints(l:Z Nat):Z Int:=l.map λi=>((i:Nat):Int)
theorem tD(l m:Z Nat):ints (l++m)=ints l++ints m:=eU
theorem mz(l:Z Nat):(ints l).length=l.length:=dM _
theorem qz{l:Z Nat}{x:Int}:x∈ints l↔∃i∈l,x=((i:Nat):Int):=by
 grind [ints]
def ux(p0 p1:aF):Bool:=(((decide (p0.X0<p1.X1)&&decide (p1.X0<p0.X1))&&((p0.Y1==p1.Y0)||(p1.Y1==p0.Y0)))||((decide (p0.Y0<p1.Y1)&&decide (p1.Y0<p0.Y1))&&((p0.X1==p1.X0)||(p1.X1==p0.X0))))
def jc(b:bV)(p:aD):Bool:=b.fM&&(m0 b p.cN&&p.eD.any (λr=>ux r<|zu b))
def cU(bs:Z bV)(pcs:Z aD):Z (Z Int):=bs.map λb=>ints<|rp (jc b) pcs pcs.length
theorem v8{l:Z aF}{φ:aF->aT Bool}(p:aF->Bool)(hl:l.length<=4611686018427387904)(h:∀x∈l,φ x=some (p x)):i6 N l φ=some (l.any p):=
 wS p hl h
theorem OL{bs:Z bV}{pcs:Z aD}(hb:lK bs)(hp:pcs.length<=1073741824)(hr:∀p∈pcs,p.eD.length<=1073741824):lP N bs pcs []=some (cU bs pcs):=by
 refine XC ?_;have hbl:=hb.len;unfold lP;refine WJ (XI (λk st=>st=cU (bs.take k) pcs) (by omega) rfl<|λk st hk e=>?_)<|λst e=>OF (by rw[e,dY])
 subst e;have hg:=hb.ok _<|cH hk
 refine XH hk ?_;refine WJ (P:=λt=>t=ints (rp (jc bs[k]) pcs pcs.length)) (XI (λj t=>t=ints (rp (jc bs[k]) pcs j)) (by omega) rfl<|λj t hj e=>?_)<|λt e=>?_
 ·subst e;have hjx:pcs[j]? =some pcs[j]:=aM hj;have hl:=Dw (jc bs[k]) pcs j;refine WR hjx ?_;refine IS (x:=jc bs[k] pcs[j]) ?_ ?_
  ·unfold jc
   cases bs[k].fM with
   |false=>rfl
   |true=>
    rw[aP,F3,aB,Bool.true_and]
    cases m0 bs[k] pcs[j].cN with
    |false=>rfl
    |true=>
     rw[aP,v8 (λr=>ux r (zu bs[k])) (by grind) (λr _=>by
      unfold l6;rw[pf hg.1];rfl),aB,Bool.true_and]
  ·rw[BH hjx]
   cases ht:jc bs[k] pcs[j]with
   |false=>simp[aQ,aI,IS,OF]
   |true=>
    rw[aP,aH rfl]
    grind [IS,ints,rp,jc,iS,mz,aB,OF,tD]
 grind [Xw,OF,cU,dH]
def D6(r:Z aF)(p:dW):Bool:=r.any<|λx=>decide (p.X>=x.X0)&&(decide (p.X<x.X1)&&(decide (p.Y>=x.Y0)&&decide (p.Y<x.Y1)))
theorem CJ{r:Z aF}{p:dW}(hl:r.length<=4611686018427387904):mg N r p=some (D6 r p):=by
 unfold mg
 rw[v8 (λx=>decide (p.X>=x.X0)&&(decide (p.X<x.X1)&&(decide (p.Y>=x.Y0)&&decide (p.Y<x.Y1)))) hl (λx _=>by
  grind [nj,decide])];rfl
def nE(l:dA)(b:bV):Bool:=b.fM&&(m0 b l.cN&&D6 [zu b] l.At)
def mA(l:dA)(p:aD):Bool:=(p.cN==l.cN)&&D6 p.eD l.At
def rB(bs:Z bV)(pcs:Z aD)(l:dA):aT eB:=match bs.findIdx? (nE l)with
 |some k=>some ⟨true,((k:Nat):Int)⟩
 |none=>(pcs.findIdx? (mA l)).map λk=>⟨false,((k:Nat):Int)⟩
theorem OM{bs:Z bV}{pcs:Z aD}(hb:lK bs)(hp:pcs.length<=1073741824)(hr:∀p∈pcs,p.eD.length<=1073741824)(l:dA):
  lR N bs pcs l=some ((rB bs pcs l).getD ⟨false,0⟩,(rB bs pcs l).isSome):=by
 have hbl:=hb.len;unfold lR
 rw[qm (λk=>(bs[k]?).bind λx=>if nE l x=true then some ((⟨true,((k:Nat):Int)⟩:eB),true)else none) (by omega) (λk hk _=>by
  have hkx:bs[k]? =some bs[k]:=aM hk;have hg:=hb.ok _<|cH hk
  rw[cB hkx,aB,hkx,pf hg.1,aB,aB,CJ (by simp)];unfold nE
  cases bs[k].fM with
  |false=>rfl
  |true=>
   show(((bif m0 bs[k] l.cN then _ else _:aT Bool)).bind _)=_
   cases m0 bs[k] l.cN with
   |false=>rfl
   |true=>
    cases D6 [zu bs[k]] l.At <;> rfl),aB,CI (nE l) (λk=>((⟨true,((k:Nat):Int)⟩:eB),true))]
 unfold rB
 cases bs.findIdx? (nE l)with
 |some k=>rfl
 |none=>
  show((vA pcs.length _ ()).bind _)=_
  rw[qm (λk=>(pcs[k]?).bind λx=>if mA l x=true then some ((⟨false,((k:Nat):Int)⟩:eB),true)else none) (by omega) (λk hk _=>by
   have hkx:pcs[k]? =some pcs[k]:=aM hk;rw[cB hkx,aB,hkx,aB,CJ (by have:=hr _<|cH hk;omega)];unfold mA
   cases pcs[k].cN==l.cN with
   |false=>rfl
   |true=>cases D6 pcs[k].eD l.At <;> rfl),aB,CI (mA l) (λk=>((⟨false,((k:Nat):Int)⟩:eB),true))]
  cases pcs.findIdx? (mA l) <;> rfl
def Lk(n:Nat)(tch:Z (Z Int))(i j:Nat):Prop:=∃(k:Nat)(l:Z Int),tch[k]? =some l/\(i:Int)∈l/\j=n+k
structure EE (n m:Nat) (tch:Z (Z Int)) (r:Nat->Nat):Prop where
 le:∀i,i<n+m->r i<=i
 rr:∀i,i<n+m->r (r i)=r i
 co:∀i j,Lk n tch i j->r i=r j
 fi:∀S:Nat->Prop,(∀i j,Lk n tch i j->(S i↔S j))->∀i j,i<n+m->j<n+m->r i=r j->S i->S j
theorem HJ{n m:Nat}{tch:Z (Z Int)}(hm:tch.length=m)(ht:∀l∈tch,l.length<=1073741824/\∀x∈l,∃i:Nat,i<n/\x=((i:Nat):Int))(hn:n<=1073741824)(hm2:m<=1073741824){up:Z Int}(hu:UF (n+m) up (λi=>i))(hN:nq N):
  Ok (k9 tch.length (λ(k34:Nat)(s35:Z Int)=>((idx tch (k34:Int)).bind λx89=>(k9 x89.length (λ(k92:Nat)(s93:Z Int)=>((idx x89 (k92:Int)).bind λx107=>(fW N s93 x107<|wrap .i64<|(n:Int)+(k34:Int)).bind λx109=>some x109:aT (Z Int))) s35).bind λs93=>some s93:aT (Z Int))) up)
   (λup'=>∃r,UF (n+m) up' r/\EE n m tch r):=by
 have base:Ok (k9 tch.length (λ(k34:Nat)(s35:Z Int)=>((idx tch (k34:Int)).bind λx89=>(k9 x89.length (λ(k92:Nat)(s93:Z Int)=>((idx x89 (k92:Int)).bind λx107=>(fW N s93 x107<|wrap .i64<|(n:Int)+(k34:Int)).bind λx109=>some x109:aT (Z Int))) s35).bind λs93=>some s93:aT (Z Int))) up)
   (λup'=>∃r E,UF (n+m) up' r/\oq r E/\yN (n+m) r E/\(∀p∈E,Lk n tch p.1 p.2)/\∀(k:Nat)l(i:Nat),k<tch.length->tch[k]? =some l->((i:Nat):Int)∈l->(i,n+k)∈E):=by
  refine XI (λq up'=>∃r E,UF (n+m) up' r/\oq r E/\yN (n+m) r E/\(∀p∈E,Lk n tch p.1 p.2)/\∀(k:Nat)l(i:Nat),k<q->tch[k]? =some l->((i:Nat):Int)∈l->(i,n+k)∈E) (by omega)
   ⟨_,_,hu,oq.id,yN.id _,λp hp=>(by cases hp),λk l i hk=>by omega⟩ (λq up' hq hI=>?_)
  obtain⟨r,E,h1,h2,h3,h4,h5⟩:=hI;have hqx:tch[q]? =some tch[q]:=aM hq;obtain⟨hl1,hl2⟩:=ht _<|cH hq
  refine WR hqx ?_;rw[wrap_add (by omega)]
  refine WJ (XI (λt up'=>∃r E,UF (n+m) up' r/\oq r E/\yN (n+m) r E/\(∀p∈E,Lk n tch p.1 p.2)/\(∀(k:Nat)l(i:Nat),k<q->tch[k]? =some l->((i:Nat):Int)∈l->(i,n+k)∈E)/\∀i:Nat,((i:Nat):Int)∈tch[q].take t->(i,n+q)∈E) (by omega)
   ⟨r,E,h1,h2,h3,h4,h5,λi hi=>by simp at hi⟩ (λt up' htl hI=>?_)) (λup' hI=>OF ?_)
  ·obtain⟨r,E,h1,h2,h3,h4,h5,h6⟩:=hI;refine XH htl ?_;obtain⟨i,hi,e⟩:=hl2 _<|cH htl
   rw[e];obtain⟨u2,a1,a2⟩:=Mz (N:=N) h1 (i:=i) (k:=n+q) (by omega) (by omega) (by omega);refine IS a1<|OF ⟨_,_,a2,h2.join i (n+q)<|h1.rr i (by omega),h3.join (by omega) (by omega),λp hp=>?_,λk l j hk hl hj=>List.mem_append_left _<|h5 k l j hk hl hj,λj hj=>?_⟩
   ·rcases dI.1 hp with hp|hp
    ·exact h4 p hp
    ·simp at hp;subst hp;exact⟨q,tch[q],hqx,by grind,rfl⟩
   ·rw[dH htl,dI]at hj
    rcases hj with hj|hj
    ·exact List.mem_append_left _<|h6 j hj
    ·rw[lY,e]at hj;have:j=i:=by omega
     subst this;simp
  ·obtain⟨r,E,h1,h2,h3,h4,h5,h6⟩:=hI;refine⟨r,E,h1,h2,h3,h4,λk l i hk hl hi=>?_⟩
   by_cases hkq:k<q
   ·exact h5 k l i hkq hl hi
   ·have:k=q:=by omega
    subst this;rw[hqx]at hl;injection hl with hl;subst hl
    exact h6 i (by grind)
 obtain⟨up',e,r,E,h1,h2,h3,h4,h5⟩:=base;have hE:∀i j,Lk n tch i j->(i,j)∈E:=λi j⟨k,l,hl,hi,hj⟩=>by
  grind
 exact⟨up',e,r,h1,h1.le,h1.rr,λi j h=>h2 (i,j)<|hE i j h,λS hS i j hi hj=>h3 S (λp hp=>hS p.1 p.2<|h4 p hp) i j hi hj⟩
def sM(bs:Z bV)(j:Nat):Bool:=(bs[j]?).any<|λb=>b.fM
def gP(n:Nat)(c:Z Nat):Z Nat:=c.filter<|λi=>decide<|i<n
def gB(bs:Z bV)(n:Nat)(c:Z Nat):Z Nat:=(c.filter<|λi=> !decide (i<n)&&sM bs (i - n)).map<|λi=>i - n
def Kr(bs:Z bV)(n:Nat)(c:Z Nat):Bool:=decide<|0<(gP n c).length+(gB bs n c).length
def Rb(bs:Z bV)(n:Nat)(c:Z Nat):bZ:=⟨ints<|gP n c,ints<|gB bs n c,[]⟩
theorem MD(n:Nat)(c:Z Nat)(i:Nat):gP n (c++[i])=if i<n then gP n c++[i]else gP n c:=by
 unfold gP;grind
theorem ME(bs:Z bV)(n:Nat)(c:Z Nat)(i:Nat):gB bs n (c++[i])=if i<n then gB bs n c else if sM bs (i - n)=true then gB bs n c++[i - n]else gB bs n c:=by
 unfold gB;grind
theorem IL(n:Nat)(c:Z Nat):(gP n c).length<=c.length:=l4 _ _
theorem IM(bs:Z bV)(n:Nat)(c:Z Nat):(gB bs n c).length<=c.length:=by unfold gB;grind
def live(bs:Z bV)(n t:Nat)(r:Nat->Nat)(hs:Z Nat):Z Nat:=hs.filter<|λh=>Kr bs n<|cls t r h
def m6(bs:Z bV)(n t:Nat)(r:Nat->Nat)(hs:Z Nat):Z bZ:=(live bs n t r hs).map<|λh=>Rb bs n<|cls t r h
theorem HK(bs:Z bV)(n t:Nat)(r:Nat->Nat)(hs:Z Nat)(h:Nat):live bs n t r (hs++[h])=if Kr bs n (cls t r h)=true then live bs n t r hs++[h]else live bs n t r hs:=by
 grind [live]
theorem vr(bs:Z bV)(n t:Nat)(r:Nat->Nat)(hs:Z Nat):(m6 bs n t r hs).length=(live bs n t r hs).length:=by simp[m6,dM]
def gi(bs:Z bV)(n t:Nat)(r:Nat->Nat)(h:Nat):Nat:=(live bs n t r<|(bW t r).takeWhile<|λx=>decide<|x≠h).length
theorem A1{l:Z Nat}(hn:l.Nodup){k h:Nat}(hk:l[k]? =some h):l.takeWhile (λx=>decide<|x≠h)=l.take k:=by
 induction l generalizing k with
 |nil=>simp at hk
 |cons a l ih=>
  cases k with
  |zero=>simp_all
  |succ k=>
   grind [List.nodup_cons,gl,List.takeWhile_cons]
theorem rY(bs:Z bV)(n t:Nat)(r:Nat->Nat)(hs:Z Nat):(live bs n t r hs).length<=hs.length:=l4 _ _
theorem HL{bs:Z bV}{n t:Nat}{r:Nat->Nat}{h:Nat}(hh:h∈bW t r)(hne:Kr bs n (cls t r h)=true):gi bs n t r h<(live bs n t r<|bW t r).length/\(live bs n t r<|bW t r)[gi bs n t r h]? =some h:=by
 obtain⟨k,hk⟩:=dZ hh;have hkl:=(bS.1 hk).1;unfold gi;rw[A1 (na t r) hk]
 grind [bW,List.take_append_drop,xx,bS,live]
end
section
variable {N:Nat}
theorem Ah{l:Z Nat}(h:l.Nodup){i j a:Nat}(hi:l[i]? =some a)(hj:l[j]? =some a):i=j:=
 by grind [List.getElem_inj,bS]
theorem sZ{n i k:Nat}{r:Nat->Nat}:i∈cls n r k↔i<n/\r i=k:=by simp[cls]
theorem Nw(n:Nat)(r:Nat->Nat)(k:Nat):(cls n r k).Nodup:=List.Nodup.sublist List.filter_sublist List.nodup_range
structure UA (bs:Z bV) (n m:Nat) (r:Nat->Nat) (hs:Z Nat) (ofP ofB:Z Int):Prop where
 lp:ofP.length=n
 lb:ofB.length=m
 pc:∀i,i<n->r i∈hs->ofP[i]? =some ((gi bs n (n+m) r (r i):Nat):Int)
 bo:∀j,j<m->r (n+j)∈hs->ofB[j]? =some (if sM bs j=true then((gi bs n (n+m) r (r<|n+j):Nat):Int)else -1)
theorem Ks{bs:Z bV}{n m:Nat}{r:Nat->Nat}(hm:bs.length=m)(hn:n<=1073741824)(hm2:m<=1073741824){op ob:Z Int}(hop:op.length=n)(hob:ob.length=m)
  {body:Nat->Z bZ×Z Int×Z Int->aT (Z bZ×Z Int×Z Int)}
  (hbody:body=(λ(k123:Nat)(s124:Z bZ×Z Int×Z Int)=>((idx (vn (n+m) r) (k123:Int)).bind λx455=>(k9 x455.length (λ(k458:Nat)(s459:Z Int×Z Int×Z Int×Z Int)=>((idx x455 (k458:Int)).bind λx556=>(bif decide (x556<(n:Int))then((idx s459.1 x556).bind λx580=>(app 8 s459.2.2.1 ([x556]:Z Int)).bind λx582=>some (s459.1.set (Int.toNat x556) (s124.1.length:Int),s459.2.1,x582,s459.2.2.2))else((idx bs<|wrap .i64<|x556 -(n:Int)).bind λx584=>(bif x584.fM then((idx s459.2.1<|wrap .i64<|x556 -(n:Int)).bind λx594=>(app 8 s459.2.2.2 ([wrap .i64<|x556 -(n:Int)]:Z Int)).bind λx596=>some (s459.2.1.set (Int.toNat<|wrap .i64<|x556 -(n:Int)) (s124.1.length:Int),x596))else((idx s459.2.1<|wrap .i64<|x556 -(n:Int)).bind λx598=>some (s459.2.1.set (Int.toNat<|wrap .i64<|x556 -(n:Int))<|-1,s459.2.2.2))).bind λs592=>some (s459.1,s592.1,s459.2.2.1,s592.2))).bind λs577=>some (s577.1,s577.2.1,s577.2.2.1,s577.2.2.2):aT (Z Int×Z Int×Z Int×Z Int))) (s124.2.1,s124.2.2,([]:Z Int),([]:Z Int))).bind λs459=>(bif decide (wrap .i64 ((s459.2.2.1.length:Int)+(s459.2.2.2.length:Int))>0)then((app 72 s124.1 [(⟨s459.2.2.1,s459.2.2.2,([]:Z eK)⟩:bZ)]).bind λx610=>some x610)else some s124.1).bind λs606=>some (s606,s459.1,s459.2.1):aT (Z bZ×Z Int×Z Int)))):
  Ok (k9 (vn (n+m) r).length body ([],op,ob)) (λst=>st.1=m6 bs n (n+m) r (bW (n+m) r)/\UA bs n m r (bW (n+m) r) st.2.1 st.2.2):=by
 subst hbody;have hsl:(vn (n+m) r).length=(bW (n+m) r).length:=by simp[vn]
 have hhl:=mj (n+m) r;refine Ok.mono (XI (λ(k:Nat)(st:Z bZ×Z Int×Z Int)=>st.1=m6 bs n (n+m) r ((bW (n+m) r).take k)/\UA bs n m r ((bW (n+m) r).take k) st.2.1 st.2.2) (by omega) ⟨rfl,hop,hob,λi hi h=>by simp at h,λj hj h=>by simp at h⟩<|λk st hk hI=>?_) (λst h=>by grind);obtain⟨gs,ofP,ofB⟩:=st;obtain⟨e1,I⟩:=hI;dsimp only at e1 I ⊢;subst e1;rw[hsl]at hk;have hkx:(bW (n+m) r)[k]? =some (bW (n+m) r)[k]:=aM hk;have hts:(bW (n+m) r).take (k+1)=(bW (n+m) r).take k++[(bW (n+m) r)[k]]:=dH hk;have hgk:gi bs n (n+m) r (bW (n+m) r)[k]=(m6 bs n (n+m) r<|(bW (n+m) r).take k).length:=by
  unfold gi;grind [A1,na,vr]
 generalize hh:(bW (n+m) r)[k]=h at *;have hsx:(vn (n+m) r)[k]? =some (ints<|cls (n+m) r h):=by unfold vn;rw[gE,hkx];rfl
 refine WR hsx ?_;have hcl:=CD (n+m) r h;rw[mz];have hgl:(m6 bs n (n+m) r<|(bW (n+m) r).take k).length<=n+m:=by
  grind [vr,rY,bW,dO]
 have hold:∀i∈cls (n+m) r h,∀i',r i'∈(bW (n+m) r).take k->i≠i':=λi hi i' hi' e=>by
  grind [sZ,dZ,bS,dO,List.getElem?_take_of_lt,Ah,na]
 refine WJ (P:=λs'=>UA bs n m r ((bW (n+m) r).take (k+1)) s'.1 s'.2.1/\s'.2.2.1=ints (gP n (cls (n+m) r h))/\s'.2.2.2=ints (gB bs n (cls (n+m) r h))) (Ok.mono (XI
  (λ(t:Nat)(s':Z Int×Z Int×Z Int×Z Int)=>UA bs n m r ((bW (n+m) r).take k) s'.1 s'.2.1/\s'.2.2.1=ints (gP n ((cls (n+m) r h).take t))/\s'.2.2.2=ints (gB bs n ((cls (n+m) r h).take t))/\
   (∀i∈(cls (n+m) r h).take t,i<n->s'.1[i]? =some ((gi bs n (n+m) r h:Nat):Int))/\∀i∈(cls (n+m) r h).take t,¬i<n->s'.2.1[i - n]? =some (if sM bs (i - n)=true then((gi bs n (n+m) r h:Nat):Int)else -1)) (by omega)
   ⟨I,rfl,rfl,λi hi=>by simp at hi,λi hi=>by simp at hi⟩ (λt s' ht hI'=>?_)) ?_) ?_
 ·obtain⟨oP,oB,pp,bb⟩:=s';obtain⟨J,e2,e3,J1,J2⟩:=hI';dsimp only at J e2 e3 J1 J2 ⊢;subst e2;subst e3;have htx:(ints<|cls (n+m) r h)[t]? =some (((cls (n+m) r h)[t]:Nat):Int):=by unfold ints;rw[gE,aM ht];rfl
  refine WR htx ?_;have htt:(cls (n+m) r h).take (t+1)=(cls (n+m) r h).take t++[(cls (n+m) r h)[t]]:=dH ht;have hcm:=cH ht;have hdist:∀i∈(cls (n+m) r h).take t,i≠(cls (n+m) r h)[t]:=λi hi e=>by
   obtain⟨j,hj⟩:=dZ hi;have hjt:j<t:=by have:=(bS.1 hj).1;rw[dO]at this;omega
   rw[List.getElem?_take_of_lt hjt]at hj;have:=Ah (Nw (n+m) r h) hj (by rw[e];exact aM ht);omega
  generalize (cls (n+m) r h)[t]=c at *;obtain⟨hc1,hc2⟩:=sZ.1 hcm;have hgp:=IL n<|(cls (n+m) r h).take t
  have hgb:=IM bs n<|(cls (n+m) r h).take t
  rw[dO]at hgp hgb
  by_cases hcn:c<n
  ·rw[bQ (by omega:(c:Int)<(n:Int)),aP];refine WJ (P:=λx=>x=(oP.set c ((gi bs n (n+m) r h:Nat):Int),oB,ints (gP n<|(cls (n+m) r h).take t)++[(c:Int)],ints<|gB bs n<|(cls (n+m) r h).take t)) ?_ ?_
   ·refine XH (by rw[J.lp];exact hcn)<|Xw (by rw[mz];simp;omega)<|OF ?_
    rw[cK,hgk]
   ·rintro _ rfl;refine OF ⟨⟨by simp[J.lp],J.lb,λi hi hr=>?_,J.bo⟩,?_,?_,λi hi hin=>?_,λi hi hin=>?_⟩
    ·dsimp only;rw[rX (by rw[J.lp];exact hcn),aI<|λe=>hold c hcm i hr e.symm];exact J.pc i hi hr
    ·dsimp only;rw[htt,MD,aH hcn,tD];rfl
    ·dsimp only;rw[htt,ME,aH hcn]
    ·dsimp only;rw[rX (by rw[J.lp];exact hcn)];split
     ·rfl
     ·rename_i hne;rw[htt]at hi
      rcases dI.1 hi with hi|hi
      ·exact J1 i hi hin
      ·exact absurd (by simpa using hi) hne
    ·rw[htt]at hi
     rcases dI.1 hi with hi|hi
     ·exact J2 i hi hin
     ·have:i=c:=by simpa using hi
      subst this;exact absurd hcn hin
  ·rw[bY (by omega:¬(c:Int)<(n:Int)),aQ];have hw:wrap .i64 ((c:Int) -(n:Int))=((c - n:Nat):Int):=by rw[gF (by omega) (by omega)];omega
   have hcm2:c - n<bs.length:=by omega
   have hpl:sM bs (c - n)=bs[c - n].fM:=by unfold sM;rw[aM hcm2];rfl
   rw[hw];refine WJ (P:=λx=>x=(oP,oB.set (c - n) (if sM bs (c - n)=true then((gi bs n (n+m) r h:Nat):Int)else -1),ints<|gP n<|(cls (n+m) r h).take t,ints<|gB bs n<|(cls (n+m) r h).take t++[c])) ?_ ?_
   ·refine XH hcm2 ?_;rw[ME,aI hcn,hpl]
    cases hp:bs[c - n].fM with
    |true=>
     rw[aP,aH rfl,aH rfl];refine IS (x:=(oB.set (c - n) ((gi bs n (n+m) r h:Nat):Int),ints<|gB bs n ((cls (n+m) r h).take t)++[c - n])) ?_<|OF rfl
     rw[np _ _ (by rw[J.lb];omega),aB,iS (by rw[mz];simp;omega),aB,cK,hgk,tD];rfl
    |false=>
     rw[aQ,aI (by simp),aI (by simp)];refine IS (x:=(oB.set (c - n)<|-1,ints<|gB bs n<|(cls (n+m) r h).take t)) ?_<|OF rfl
     rw[np _ _ (by rw[J.lb];omega),aB,cK]
   ·rintro _ rfl;refine OF ⟨⟨J.lp,by simp[J.lb],J.pc,λj hj hr=>?_⟩,?_,?_,λi hi hin=>?_,λi hi hin=>?_⟩
    ·dsimp only;rw[rX (by rw[J.lb];omega),aI<|λe=>hold c hcm (n+j) hr (by omega)];exact J.bo j hj hr
    ·dsimp only;rw[htt,MD,aI hcn]
    ·dsimp only;rw[htt]
    ·rw[htt]at hi
     rcases dI.1 hi with hi|hi
     ·exact J1 i hi hin
     ·have:i=c:=by simpa using hi
      subst this;exact absurd hin hcn
    ·dsimp only;rw[rX (by rw[J.lb];omega)];split
     ·rename_i e;rw[e]
     ·rename_i hne;rw[htt]at hi
      rcases dI.1 hi with hi|hi
      ·exact J2 i hi hin
      ·exact absurd (by have:i=c:=(by simpa using hi);rw[this]) hne
 ·rintro⟨oP,oB,pp,bb⟩⟨J,e2,e3,J1,J2⟩;dsimp only at J e2 e3 J1 J2 ⊢;rw[dY]at e2 e3 J1 J2;refine⟨⟨J.lp,J.lb,λi hi hr=>?_,λj hj hr=>?_⟩,e2,e3⟩
  ·rw[hts]at hr
   rcases dI.1 hr with hr|hr
   ·exact J.pc i hi hr
   ·have hr:r i=h:=by simpa using hr
    rw[hr];exact J1 i (sZ.2 ⟨by omega,hr⟩) hi
  ·rw[hts]at hr
   rcases dI.1 hr with hr|hr
   ·exact J.bo j hj hr
   ·have hr:r (n+j)=h:=by simpa using hr
    rw[hr];have:=J2 (n+j) (sZ.2 ⟨by omega,hr⟩) (by omega);rwa[Nat.add_sub_cancel_left]at this
 ·rintro⟨oP,oB,pp,bb⟩⟨J,e2,e3⟩;dsimp only at J e2 e3 ⊢;subst e2;subst e3;have hgp:=IL n<|cls (n+m) r h
  have hgb:=IM bs n<|cls (n+m) r h
  rw[mz,mz,wrap_add (by omega)];have hgs:m6 bs n (n+m) r ((bW (n+m) r).take<|k+1)=if Kr bs n (cls (n+m) r h)=true then m6 bs n (n+m) r ((bW (n+m) r).take k)++[Rb bs n<|cls (n+m) r h]else m6 bs n (n+m) r ((bW (n+m) r).take k):=by
   unfold m6;rw[hts,HK];split
   ·rw[eU];rfl
   ·rfl
  refine WJ (P:=λx=>x=m6 bs n (n+m) r ((bW (n+m) r).take<|k+1)) (Xj (λhb=>?_)<|λhb=>OF ?_)<|λx e=>OF ⟨e,J⟩
  ·have hne:Kr bs n (cls (n+m) r h)=true:=bQ (by have:=of_decide_eq_true hb;omega);refine Xw (by simp;omega)<|OF ?_
   rw[hgs,aH hne];rfl
  ·have hne:¬Kr bs n (cls (n+m) r h)=true:=λh'=>by
    have h1:=of_decide_eq_true h';have h2:=of_decide_eq_false hb;omega
   rw[hgs,aI hne]
end
section
variable {N:Nat}
def eI(n:Nat)(h:eB):Nat:=if h.bV=true then n+h.Number.toNat else h.Number.toNat
structure F5 (bs:Z bV) (n m:Nat) (h:eB):Prop where
 num:∃k:Nat,h.Number=(k:Int)/\(h.bV=true->k<m/\sM bs k=true)/\(h.bV=false->k<n)
theorem Dx{bs:Z bV}{pcs:Z aD}{l:dA}{h:eB}(hh:rB bs pcs l=some h):F5 bs pcs.length bs.length h:=by
 unfold rB at hh
 cases hf:bs.findIdx? (nE l)with
 |some k=>
  rw[hf]at hh;injection hh with hh;subst hh
  obtain⟨hk,hp,_⟩:=List.findIdx?_eq_some_iff_getElem.1 hf;refine⟨k,rfl,λ_=>⟨hk,?_⟩,λh=>by cases h⟩
  grind [nE,sM,aM]
 |none=>
  rw[hf]at hh;dsimp only at hh;rw[sQ]at hh;obtain⟨k,hk,rfl⟩:=hh;obtain⟨hk,_⟩:=List.findIdx?_eq_some_iff_getElem.1 hk;exact⟨k,rfl,λh=>(by cases h),λ_=>hk⟩
def vN(bs:Z bV)(pcs:Z aD)(r:Nat->Nat)(l:dA):aT Nat:=(rB bs pcs l).map λh=>gi bs pcs.length (pcs.length+bs.length) r<|r<|eI pcs.length h
def G9(bs:Z bV)(pcs:Z aD)(r:Nat->Nat)(l:dA):Int:=match vN bs pcs r l with|some g=>(g:Int)|none=> -1
def hZ(gs:Z bZ)(lg:dA->aT Nat)(ls:Z dA):Z bZ:=gs.mapIdx<|λg x=>{x with fB:=(ls.filter<|λl=>decide<|lg l=some g).map lq}
theorem mB{gs:Z bZ}{lg:dA->aT Nat}{ls:Z dA}{g:Nat}:(hZ gs lg ls)[g]? =(gs[g]?).map λx=>{x with fB:=(ls.filter<|λl=>decide<|lg l=some g).map lq}:=by
 simp[hZ,List.getElem?_mapIdx]
theorem x6(gs:Z bZ)(lg:dA->aT Nat)(ls:Z dA):(hZ gs lg ls).length=gs.length:=by simp[hZ,List.length_mapIdx]
theorem A2{gs:Z bZ}{lg:dA->aT Nat}{ls:Z dA}{l:dA}(h:lg l=none):hZ gs lg (ls++[l])=hZ gs lg ls:=by
 apply List.ext_getElem?
 grind [mB]
theorem CK{gs:Z bZ}{lg:dA->aT Nat}{ls:Z dA}{l:dA}{k:Nat}{x:bZ}(h:lg l=some k)(hx:(hZ gs lg ls)[k]? =some x):
  (hZ gs lg ls).set k {x with fB:=x.fB++[lq l]}=hZ gs lg (ls++[l]):=by
 apply List.ext_getElem?;intro g;have hk:=(bS.1 hx).1;rw[lZ]
 by_cases e:k=g
 ·subst e
  grind [mB,sQ]
 grind [mB]
theorem Kt{bs:Z bV}{n t:Nat}{r:Nat->Nat}{i:Nat}(hi:i<n)(ht:i<t):Kr bs n (cls t r<|r i)=true:=by
 unfold Kr;rw[dR];have:i∈gP n (cls t r<|r i):=lu.2 ⟨sZ.2 ⟨ht,rfl⟩,by grind⟩
 grind
theorem Ku{bs:Z bV}{n t:Nat}{r:Nat->Nat}{j:Nat}(hp:sM bs j=true)(ht:n+j<t):Kr bs n (cls t r<|r<|n+j)=true:=by
 unfold Kr;rw[dR];have:j∈gB bs n (cls t r<|r<|n+j):=dN.2 ⟨n+j,lu.2 ⟨sZ.2 ⟨ht,rfl⟩,by simp[hp]⟩,by omega⟩
 grind
structure x8 (bs:Z bV) (ls:Z dA) (pcs:Z aD) (r:Nat->Nat) (gs:Z bZ) (ofP ofB fK:Z Int) (fG:Z eB):Prop where
 conn:EE pcs.length bs.length (cU bs pcs) r
 gs:gs=hZ (m6 bs pcs.length (pcs.length+bs.length) r<|bW (pcs.length+bs.length) r) (vN bs pcs r) ls
 of:UA bs pcs.length bs.length r (bW (pcs.length+bs.length) r) ofP ofB
 fK:fK=ls.map (G9 bs pcs r)
 fG:fG=ls.map (λl=>(rB bs pcs l).getD ⟨false,0⟩)
theorem zy{bs:Z bV}{pcs:Z aD}(hp:pcs.length<=1073741824):∀l∈cU bs pcs,l.length<=1073741824/\∀x∈l,∃i:Nat,i<pcs.length/\x=(i:Int):=by
 grind [cU,Dw,jc,mz,qz,Nv]
theorem IP{bs:Z bV}{ls:Z dA}{pcs:Z aD}(hb:lK bs)(hp:pcs.length<=1000000000)(hr:∀p∈pcs,p.eD.length<=1073741824)(hl:ls.length<=1073741824)(hN:nq N):
  Ok (ir N bs ls pcs (cU bs pcs) [] [] [] []) (λx=>∃r,x8 bs ls pcs r x.1 x.2.1 x.2.2.1 x.2.2.2.1 x.2.2.2.2):=by
 have hbl:=hb.len;unfold ir;rw[wrap_add (by omega)];obtain⟨up0,u1,u2⟩:=zo (N:=N) (n:=pcs.length+bs.length) (by omega);refine IS u1 ?_;refine WJ (HJ (n:=pcs.length) (m:=bs.length) (by simp[cU]) (zy (by omega)) (by omega) (by omega) u2 hN) ?_;rintro up1⟨r,v1,v2⟩;refine IS (pI 0 (by omega))<|IS (pI 0 (by omega)) ?_
 obtain⟨up2,w1,_⟩:=P8 (N:=N) v1 (by omega) (by omega);refine IS w1 ?_;refine WJ (Ks (bs:=bs) (n:=pcs.length) (m:=bs.length) (r:=r) rfl (by omega) (by omega) (op:=List.replicate pcs.length 0) (ob:=List.replicate bs.length 0) (by simp) (by simp) rfl) ?_;rintro⟨gs,ofP,ofB⟩⟨e1,I⟩;dsimp only at e1 I ⊢;subst e1;have hgl:(m6 bs pcs.length (pcs.length+bs.length) r<|bW (pcs.length+bs.length) r).length<=pcs.length+bs.length:=by
  grind [vr,rY,bW,mj]
 refine WJ (XI (λ(k:Nat)(st:Z bZ×Z Int×Z Int×Z Int×Z eB)=>st=(hZ (m6 bs pcs.length (pcs.length+bs.length) r<|bW (pcs.length+bs.length) r) (vN bs pcs r)<|ls.take k,ofP,ofB,(ls.take k).map<|G9 bs pcs r,(ls.take k).map<|λl=>(rB bs pcs l).getD ⟨false,0⟩)) (by omega) ?_<|λk st hk e=>?_) ?_
 ·congr 1;unfold hZ;apply List.ext_getElem?;intro g;rw[List.getElem?_mapIdx];unfold m6;rw[gE]
  cases(live bs pcs.length (pcs.length+bs.length) r<|bW (pcs.length+bs.length) r)[g]? <;> rfl
 ·subst e;dsimp only;have hts:ls.take (k+1)=ls.take k++[ls[k]]:=dH hk;refine XH hk<|IS (OM hb (by omega) hr _) ?_
  dsimp only;refine WJ (P:=λx=>x=(hZ (m6 bs pcs.length (pcs.length+bs.length) r<|bW (pcs.length+bs.length) r) (vN bs pcs r)<|ls.take k++[ls[k]],G9 bs pcs r ls[k])) ?_ ?_
  ·cases hh:rB bs pcs ls[k]with
   |none=>
    refine OF ?_;have h1:vN bs pcs r ls[k]=none:=by unfold vN;rw[hh];rfl
    rw[A2 h1];unfold G9;rw[h1]
   |some h=>
    have h1:vN bs pcs r ls[k]=some (gi bs pcs.length (pcs.length+bs.length) r<|r<|eI pcs.length h):=by unfold vN;rw[hh];rfl
    have h2:G9 bs pcs r ls[k]=((gi bs pcs.length (pcs.length+bs.length) r (r<|eI pcs.length h):Nat):Int):=by unfold G9;rw[h1]
    obtain⟨q,q1,q2,q3⟩:=(Dx hh).num;have hix:eI pcs.length h<pcs.length+bs.length/\Kr bs pcs.length (cls (pcs.length+bs.length) r<|r<|eI pcs.length h)=true/\jo N ofP ofB h=some ((gi bs pcs.length (pcs.length+bs.length) r (r<|eI pcs.length h):Nat):Int):=by
     unfold jo eI;rw[q1,cK]
     cases hbo:h.bV with
     |true=>
      obtain⟨q4,q5⟩:=q2 hbo;rw[aP,aH rfl];refine⟨by omega,Ku q5 (by omega),?_⟩;have:=I.bo q q4<|iP.2 ⟨by have:=v2.le (pcs.length+q) (by omega);omega,v2.rr _ (by omega)⟩
      rw[aH q5]at this;rw[cB this,aB]
     |false=>
      have q4:=q3 hbo;rw[aQ,aI (by simp)];refine⟨by omega,Kt q4 (by omega),?_⟩;have:=I.pc q q4<|iP.2 ⟨by have:=v2.le q (by omega);omega,v2.rr _ (by omega)⟩
      rw[cB this,aB]
    obtain⟨i1,i2,i3⟩:=hix;have hgi:=HL (r:=r) (t:=pcs.length+bs.length) (bs:=bs) (n:=pcs.length) (h:=r<|eI pcs.length h) (iP.2 ⟨by have:=v2.le _ i1;omega,v2.rr _ i1⟩) i2;have hgx:gi bs pcs.length (pcs.length+bs.length) r (r<|eI pcs.length h)<(hZ (m6 bs pcs.length (pcs.length+bs.length) r<|bW (pcs.length+bs.length) r) (vN bs pcs r)<|ls.take k).length:=by
     rw[x6,vr];exact hgi.1
    rw[h2];dsimp only[Option.getD,Option.isSome];rw[aP];refine IS i3 ?_;generalize gi bs pcs.length (pcs.length+bs.length) r (r<|eI pcs.length h)=g at *;refine XH hgx<|IS (Dt _) ?_
    have hpl:((hZ (m6 bs pcs.length (pcs.length+bs.length) r<|bW (pcs.length+bs.length) r) (vN bs pcs r)<|ls.take k)[g]).fB.length<=ls.length:=by
     have:=mB (gs:=m6 bs pcs.length (pcs.length+bs.length) r<|bW (pcs.length+bs.length) r) (lg:=vN bs pcs r) (ls:=ls.take k) (g:=g);rw[aM hgx]at this;have:=this.symm;rw[sQ]at this;obtain⟨y,_,hy⟩:=this;rw[<-hy,dM];have:=l4 (λl=>decide<|vN bs pcs r l=some g)<|ls.take k
     rw[dO]at this;omega
    refine Xw (by simp;omega)<|XH hgx<|OF ?_
    rw[cK];congr 1;exact CK h1<|aM hgx
  ·rintro _ rfl;dsimp only;refine Xw (by simp;omega)<|Xw (by simp;omega)<|OF ?_
   rw[hts,eU,eU];rfl
 ·rintro st rfl;dsimp only;rw[dY];exact OF ⟨r,v2,rfl,I,rfl,rfl⟩
end
section
variable {N:Nat}
theorem Dy{p:aD}:∀{cI:Z (Z<|Z aA)}{k:Nat},p∈bN k cI->∃(i:Nat)(ps:Z (Z aA))(q:Z aA),cI[i]? =some ps/\q∈ps/\p= ⟨((k+i:Nat):Int),q,bB q⟩
 | [],k,h=>by cases h
 |ps::cI,k,h=>by
  rcases dI.1 h with h|h
  ·obtain⟨q,hq,rfl⟩:=dN.1 h;exact⟨0,ps,q,rfl,hq,rfl⟩
  ·obtain⟨i,ps',q,h1,h2,h3⟩:=Dy h;refine⟨i+1,ps',q,by grind,h2,?_⟩;rw[h3,show k+1+i=k+(i+1)by omega]
structure s8 (a:gZ):Prop where
 yO:0<a.aL.length/\a.aL.length<=16
 V7:∀r∈a.aL,ko r=0
 out:ko a.cS=0
 many:a.cS.length+(a.aL.map List.length).sum<=2000
 CL:j4 a=0
 vt:nS a=0
theorem s8.gb{a:gZ}(h:s8 a):lK a.aN:=⟨(n8 h.CL).1,λb hb=>⟨((n8 h.CL).2 b hb).1,((n8 h.CL).2 b hb).2.1⟩⟩
theorem s8.cs{a:gZ}(h:s8 a):∀r∈a.aL,r.length<=2000/\∀x∈r,GL x:=λr hr=>F1 (tC.1<|h.V7 r hr).1
structure x9 (a:gZ) (ka:Z (Z aA)) (cI:Z (Z (Z aA))) (p:aD) (i:Nat) (r:Z aF) (s:Z aA) (ps:Z (Z aA)) (u:Nat->Nat) (j k:Nat):Prop where
 WA:a.aL[i]? =some r
 ka:ka[i]? =some s
 cI:cI[i]? =some ps
 dr:xY r (lW a.aN (i:Int)) s
 pt:vY s u ps
 at_:ps[j]? =some p.Set
 head:(bW (bB s).length u)[j]? =some k
 set:vm (pd (bB s) (bB s).length u k) p.Set
 FM:BQ (xf r++xf (lW a.aN (i:Int))) (kA r++kA (lW a.aN (i:Int))) (p.Set.map cQ)
 UC:p.cN=(i:Int)
 Rc:p.eD=bB p.Set
theorem Kv{a:gZ}{ka:Z (Z aA)}{cI:Z (Z<|Z aA)}(hg:s8 a)(hD:zx a.aL a.aN a.aL.length ka cI){p:aD}(hp:p∈bN 0 cI):∃i r s ps u j k,x9 a ka cI p i r s ps u j k:=by
 obtain⟨i,ps,q,h1,h2,rfl⟩:=Dy hp;have hil:i<a.aL.length:=by have:=(bS.1 h1).1;rw[hD.Dv]at this;exact this
 have hc:a.aL[i]? =some a.aL[i]:=aM hil;have hd:ka[i]? =some (ka[i]'(by rw[hD.len];exact hil)):=aM _;have hdr:=hD.dr i _ _ hil hc hd;obtain⟨u,hu⟩:=hD.pt i _ ps hil hd h1;obtain⟨sx,sy⟩:=hdr.small (hg.cs _<|cH hil).2<|λx hx=>(vq hg.gb _ x hx).1
 obtain⟨j,k,g1,g2,g3,g4⟩:=F4 hu hdr.can hdr.FM sx sy h2;exact⟨i,_,_,ps,u,j,k,hc,hd,h1,hdr,hu,g1,g2,g3,g4,by rw[jR],rfl⟩
theorem x9.Ko{a:gZ}{ka:Z (Z aA)}{cI:Z (Z<|Z aA)}(hg:s8 a){p:aD}{i:Nat}{r:Z aF}{s:Z aA}{ps:Z (Z aA)}{u:Nat->Nat}{j k:Nat}(h:x9 a ka cI p i r s ps u j k):
  p.Set.length<=5000/\(∀b∈p.Set,b.Xs.length<=5000)/\p.eD.length<=5000*5000:=by
 have h1:=(hg.cs r<|gl h.WA).1;have h2:=Du hg.gb (i:Int);rw[h.Rc];exact Ag (A:=5000) h.set.can h.FM (by grind [eP,vl]) (by grind [eP,nQ])
def Kw(a0 a1 b0 b1:Int):Bool:=decide (b0<a1)&&decide (a0<b1)
def Kx(a b:aF):Bool:=Kw a.X0 a.X1 b.X0 b.X1&&Kw a.Y0 a.Y1 b.Y0 b.Y1
theorem F6{a0 a1 b0 b1:Int}(h1: -1000000<=a0/\a0<=1000000)(h2: -1000000<=a1/\a1<=1000000)(h3: -1000000<=b0/\b0<=1000000)(h4: -1000000<=b1/\b1<=1000000):∃n,lD N a0 a1 b0 b1=some n/\0<=n/\(n=0↔Kw a0 a1 b0 b1=true):=by
 unfold lD Kw
 grind [wrap,gF]
theorem R8{a b:aF}(h1:dK a=true)(h2:dK b=true):∃n,mO N a b=some n/\(n=0↔Kx a b=true):=by
 have b1:=jG h1;have b2:=jG h2;obtain⟨n,n1,n2,n3⟩:=F6 (N:=N) (a0:=a.X0) (a1:=a.X1) (b0:=b.X0) (b1:=b.X1) (by omega) (by omega) (by omega) (by omega);obtain⟨m,m1,m2,m3⟩:=F6 (N:=N) (a0:=a.Y0) (a1:=a.Y1) (b0:=b.Y0) (b1:=b.Y1) (by omega) (by omega) (by omega) (by omega);unfold mO Kx;rw[n1,aB,m1,aB]
 grind
def vu(x y:bV):Bool:=(decide (x.cM<=y.To)&&decide (y.cM<=x.To))&&Kx (zu x) (zu y)
def tZ(a:gZ):Prop:=∃(i k:Nat)(x y:bV),k<i/\a.aN[i]? =some x/\a.aN[k]? =some y/\vu x y=true
noncomputable def zz(r:Z aF):aT Int:=if ko r≠0 then some (ko r)else none
noncomputable def IQ(a:gZ):Int:=if 2000<a.cS.length+(a.aL.map List.length).sum then 2 else if j4 a≠0 then j4 a else if nS a≠0 then nS a else if tZ a then 12 else 0
noncomputable def Ny(a:gZ):Int:=match a.aL.findSome? zz with|some e=>e|none=>if ko a.cS≠0 then ko a.cS else IQ a
noncomputable def lr(a:gZ):Int:=if a.aL.length=0 then 9 else if 16<a.aL.length then 2 else Ny a
def Su(ka:Z (Z aA))(cI:Z (Z<|Z aA)):Prop:=(∀s∈ka,(bB s).length<=2000)/\(bN 0 cI).length<=2000
abbrev F7:=Z (Z aF)×Z aF×Z bV×Z dA×Z (Z aA)×Z aD×Z (Z Int)×Z bZ×Z Int×Z Int×Z Int×Z eB
def Rd(a:gZ)(x:aT F7×Int):Prop:=
 (lr a≠0/\x=(none,lr a))\/(lr a=0/\s8 a/\¬tZ a/\∃ka cI,zx a.aL a.aN a.aL.length ka cI/\
  ((¬Su ka cI/\x=(none,2))\/(Su ka cI/\∃r gs ofP ofB fK fG,x8 a.aN a.bO (bN 0 cI) r gs ofP ofB fK fG/\
   x=(some (a.aL,a.cS,a.aN,a.bO,ka,bN 0 cI,cU a.aN (bN 0 cI),gs,ofP,ofB,fK,fG),0))))
structure zA (a:gZ):Prop where
 cs:a.aL.length<=1048576
 each:∀r∈a.aL,r.length<=1048576
 out:a.cS.length<=1048576
 bs:a.aN.length<=1048576
 ls:a.bO.length<=1048576
 nm:F2 a
theorem Ky{a:gZ}(h:bk a<=1048576):zA a:=by
 rw[Ou]at h;have h1:=Bt a.aL;have h2:=Bt a.cS;have h3:=Bt a.aN;have h4:=Bt a.bO;refine⟨by omega,λr hr=>?_,by omega,by omega,by omega,λx hx=>?_⟩
 ·have:=Lw hr
  grind [Bt]
 ·have:=Lw hx
  grind [Mr,R4]
theorem HM{a:gZ}(hs:zA a)(hN:nq N):Ok (jq N a) (Rd a):=by
 unfold jq;have pe:∀e:Int,e≠0->lr a=e->Ok (some ((none:aT F7),e)) (Rd a):=λe he h=>OF<|.inl ⟨by omega,by rw[h]⟩
 have c1:=hs.cs;refine Xj (λh=>?_)<|λh=>?_
 ·grind [lr]
 have h0:¬a.aL.length=0:=by grind
 refine Xj (λh=>?_)<|λh=>?_
 ·grind [lr]
 have h1:¬16<a.aL.length:=by grind
 have pe1:lr a=Ny a:=by grind [lr]
 have hso:=hs.out;have sumle:∀k,k<=a.aL.length->((a.aL.take k).map List.length).sum<=k*1048576:=by
  intro k
  induction k with
  |zero=>intro _;simp
  |succ k ih=>
   intro hk;have:=ih (by omega);have h2:=hs.each _<|cH (show k<a.aL.length by omega)
   rw[dH (by omega),eU,List.sum_append]
   grind
 refine WJ (Y4 (Go:=λs:Int=>s=((a.cS.length+(a.aL.map List.length).sum:Nat):Int)/\∀r∈a.aL,ko r=0) (Rt:=λx:aT F7×Int=>∃e,e≠0/\x=(none,e)/\a.aL.findSome? zz=some e)
  (λ(k:Nat)(s:Int)=>s=((a.cS.length+((a.aL.take k).map List.length).sum:Nat):Int)/\∀r∈a.aL.take k,ko r=0) (by omega) ⟨by simp,λr hr=>by simp at hr⟩ (λk s hk hI=>?_) (λs hI=>by grind)) ?_
 ·obtain⟨e,hI⟩:=hI;subst e;have hkx:a.aL[k]? =some a.aL[k]:=aM hk;have hts:a.aL.take (k+1)=a.aL.take k++[a.aL[k]]:=dH hk;have he:=hs.each _<|cH hk
  refine WR hkx<|IS (zw (by omega) hN) ?_
  refine Xj (λh=>XJ ?_)<|λh=>W4 ?_
  ·have h:ko a.aL[k]≠0:=by simpa using h
   refine⟨_,h,rfl,?_⟩
   grind [List.findSome?_eq_some_iff,zz,xx,List.take_append_drop]
  ·have h:ko a.aL[k]=0:=by simpa using h
   have:=sumle k (by omega);have hk16:k*1048576<=16*1048576:=Nat.mul_le_mul_right _ (by omega);refine⟨?_,λr hr=>?_⟩
   ·rw[wrap_add (by omega),hts,eU,List.sum_append];simp only[eV,List.map_nil,List.sum_cons,List.sum_nil];congr 1;omega
   ·rw[hts]at hr
    rcases dI.1 hr with hr|hr
    ·exact hI r hr
    ·simp at hr;subst hr;exact h
 intro o ho;refine Xa ho ?_ ?_
 rotate_left
 ·rintro x⟨e,he,rfl,hf⟩;exact pe e he (by rw[pe1];unfold Ny;rw[hf])
 rintro s⟨rfl,hreg⟩;have UH:a.aL.findSome? zz=none:=List.findSome?_eq_none_iff.2 λr hr=>by unfold zz;rw[aI (by simpa using hreg r hr)]
 have pe2:lr a=if ko a.cS≠0 then ko a.cS else IQ a:=by rw[pe1];unfold Ny;rw[UH]
 refine IS (zw (by omega) hN) ?_;refine Xj (λh=>?_)<|λh=>?_
 ·have h:ko a.cS≠0:=by simpa using h
  exact pe _ h (by rw[pe2,aH h])
 have hout:ko a.cS=0:=by simpa using h
 have pe3:lr a=IQ a:=by rw[pe2,aI (by simpa using hout)]
 refine Xj (λh=>?_)<|λh=>?_
 ·have h:2000<a.cS.length+(a.aL.map List.length).sum:=by have:=of_decide_eq_true h;omega
  exact pe 2 (by omega) (by rw[pe3];unfold IQ;rw[aH h])
 have hmany:¬2000<a.cS.length+(a.aL.map List.length).sum:=by have:=of_decide_eq_false h;omega
 have hbs:=hs.bs;have hls:=hs.ls;refine IS (G6 (by omega) (by omega) (by omega)) ?_;refine Xj (λh=>?_)<|λh=>?_
 ·have h:j4 a≠0:=by simpa using h
  exact pe _ h (by rw[pe3];unfold IQ;rw[aI hmany,aH h])
 have hbo:j4 a=0:=by simpa using h
 refine IS (G7 (by omega) (by omega) hs.nm (by omega)) ?_;refine Xj (λh=>?_)<|λh=>?_
 ·have h:nS a≠0:=by simpa using h
  exact pe _ h (by rw[pe3];unfold IQ;rw[aI hmany,aI (by simpa using hbo),aH h])
 have hla:nS a=0:=by simpa using h
 have hg:s8 a:=⟨by omega,hreg,hout,by omega,hbo,hla⟩;have pe4:lr a=if tZ a then 12 else 0:=by rw[pe3];unfold IQ;rw[aI hmany,aI (by simpa using hbo),aI (by simpa using hla)]
 refine WJ (Y4 (Go:=λ_:Unit=>¬tZ a) (Rt:=λx:aT F7×Int=>x=(none,12)/\tZ a)
  (λ(k:Nat)(_:Unit)=>∀(i j:Nat)(x y:bV),i<k->j<i->a.aN[i]? =some x->a.aN[j]? =some y->¬vu x y=true) (by omega) (λi j x y h=>by omega) (λk s hk hI=>?_) (λs hI=>?_)) ?_
 ·have hkx:a.aN[k]? =some a.aN[k]:=aM hk;refine WR hkx<|IS (uX _ k (by omega)) ?_
  have hgk:=hg.gb.ok _<|cH hk
  refine WJ (Y4 (Go:=λ_:Unit=>∀(j:Nat)(y:bV),j<k->a.aN[j]? =some y->¬vu a.aN[k] y=true) (Rt:=λx:aT F7×Int=>x=(none,12)/\tZ a)
   (λ(t:Nat)(_:Unit)=>∀(j:Nat)(y:bV),j<t->a.aN[j]? =some y->¬vu a.aN[k] y=true) (by rw[dO];omega) (λj y h=>by omega) (λt s ht hI2=>?_) (λs hI2 j y hj hy=>hI2 j y (by rw[dO];omega) hy)) ?_
  ·have htk:t<k:=by rw[dO]at ht;omega
   have htx:(a.aN.take k)[t]? =some a.aN[t]:=by rw[List.getElem?_take_of_lt htk];exact aM (by omega)
   have hgt:=hg.gb.ok _<|cH (show t<a.aN.length by omega)
   refine WR htx ?_;refine IS (x:=vu a.aN[k] a.aN[t]) ?_ ?_
   ·unfold vu
    cases hc:(decide (a.aN[k].cM<=a.aN[t].To)&&decide (a.aN[t].cM<=a.aN[k].To))with
    |false=>rfl
    |true=>
     obtain⟨n,n1,n2⟩:=R8 (N:=N) hgk.2 hgt.2;rw[aP,pf hgk.1,aB,pf hgt.1,aB,n1,aB,Bool.true_and];congr 1;rw[jQ,beq_iff_eq];exact n2
   ·refine Xj (λh=>XJ ⟨rfl,k,t,_,_,htk,hkx,aM (by omega),h⟩)<|λh=>W4 λj y hj hy=>?_
    by_cases e:j<t
    ·exact hI2 j y e hy
    ·have:j=t:=by omega
     subst this;rw[aM (by omega)]at hy;injection hy with hy
     rw[<-hy,h];simp
  ·intro o ho;refine Xa ho (λs hI2=>W4 λi j x y hi hj hx hy=>?_)<|λx hx=>XJ hx
   by_cases e:i<k
   ·exact hI i j x y e hj hx hy
   ·have:i=k:=by omega
    subst this;rw[hkx]at hx;injection hx with hx
    rw[<-hx];exact hI2 j y hj hy
 ·rintro⟨i,j,x,y,hj,hx,hy,hc⟩;exact hI i j x y (bS.1 hx).1 hj hx hy hc
 intro o ho;refine Xa ho ?_ ?_
 rotate_left
 ·rintro x⟨rfl,hc⟩;exact pe 12 (by omega) (by rw[pe4,aH hc])
 intro _ hncl;have pe5:lr a=0:=by rw[pe4,aI hncl]
 refine WJ (LJ (N:=N) (by omega) hg.cs hg.gb hN) ?_;rintro⟨okk,ka,pcs⟩⟨cI,D,e1,e2⟩;dsimp only at D e1 e2 ⊢;subst e1;refine Xj (λh=>OF<|.inr ⟨pe5,hg,hncl,ka,cI,D, .inl ⟨λhf=>?_,rfl⟩⟩)<|λh=>?_
 ·have:=e2.2 hf;rw[this]at h;cases h
 ·have hf:Su ka cI:=e2.1 (by cases okk <;> simp_all);have hpr:∀p∈bN 0 cI,p.eD.length<=1073741824:=λp hp=>by
   obtain⟨i,r,s,ps,u,j,k,hP⟩:=Kv hg D hp;have:=(hP.Ko hg).2.2;omega
  have hf2:=hf.2;refine IS (OL hg.gb (by omega) hpr) ?_;refine WJ (IP (N:=N) hg.gb (by omega) hpr (by omega) hN) ?_;rintro⟨gs,ofP,ofB,fK,fG⟩⟨r,hC⟩;exact OF<|.inr ⟨pe5,hg,hncl,ka,cI,D, .inr ⟨hf,r,gs,ofP,ofB,fK,fG,hC,rfl⟩⟩
end
section
variable {N:Nat}
theorem MF{w:Nat}{g:Nat->Nat}{a:Nat}:∀{ks:Z Nat},ks.Nodup->a∈ks->(ks.map<|λk=>(if a=k then w else 0)+g k).sum=w+(ks.map g).sum
 | [],_,h=>by cases h
 |k::ks,hn,h=>by
  have hn':=List.nodup_cons.1 hn;simp only[eV,List.sum_cons]
  by_cases e:a=k
  ·subst e;rw[aH rfl];have:ks.map (λk=>(if a=k then w else 0)+g k)=ks.map g:=List.map_congr_left λx hx=>by
    rw[aI<|λe=>hn'.1 (by grind),jR]
   rw[this];omega
  ·rw[aI e,MF hn'.2 (by grind)];omega
theorem Kz{α:Type}{ks:Z Nat}(hn:ks.Nodup)(f w:α->Nat):∀{l:Z α},(∀x∈l,f x∈ks)->(ks.map<|λk=>((l.filter<|λx=>decide<|f x=k).map w).sum).sum=(l.map w).sum
 | [],_=>by
  have:∀ks:Z Nat,(ks.map<|λ_=>0).sum=0:=λks=>by
   induction ks with
   |nil=>rfl
   |cons k ks ih=>simp only[eV,List.sum_cons,ih]
  simpa using this ks
 |x::l,h=>by
  have ih:=Kz hn f w (l:=l) λy hy=>h y<|jP _ hy
  have:ks.map (λk=>(((x::l).filter<|λx=>decide<|f x=k).map w).sum)=ks.map (λk=>(if f x=k then w x else 0)+((l.filter<|λx=>decide<|f x=k).map w).sum):=List.map_congr_left λk _=>by
   rw[List.filter_cons]
   by_cases e:f x=k
   ·rw[aH (by simpa using e),aH e,eV,List.sum_cons]
   ·rw[aI (by simpa using e),aI e,jR]
  rw[this,MF hn<|h x (by simp),ih,eV,List.sum_cons]
def MG(s:Z aA):dW:=match s with|b::_=>⟨b.Xs.headD 0,b.Y0⟩| []=>⟨0,0⟩
theorem x9.ne{a:gZ}{ka:Z (Z aA)}{cI:Z (Z<|Z aA)}{p:aD}{i:Nat}{r:Z aF}{s:Z aA}{ps:Z (Z aA)}{u:Nat->Nat}{j k:Nat}(h:x9 a ka cI p i r s ps u j k):p.Set≠[]:=by
 intro e;have hh:=iP.1<|gl h.head
 have hx:(bB s)[k]? =some (bB s)[k]:=aM hh.1;have hm:(bB s)[k]∈pd (bB s) (bB s).length u k:=mZ.2 ⟨k,hh.1,hh.2,hx⟩;obtain⟨b,hb,q,hq,hr⟩:=sL<|gl hx
 have hbm:cQ b∈s.map cQ:=dN.2 ⟨b,hb,rfl⟩;have hq1:=IF (h.dr.can.each _ hbm).2.2.1 q hq;have hb1:=(h.dr.can.each _ hbm).1;have hc:=h.set.cover q.1 b.Y0;rw[e]at hc;have:vX (pd (bB s) (bB s).length u k) q.1 b.Y0=true:=kW.2 ⟨_,hm,by rw[hr];exact⟨⟨Int.le_refl _,hq1⟩,Int.le_refl _,hb1⟩⟩;rw[this]at hc
 cases hc
structure iF (a:gZ) (ka:Z (Z aA)) (cI:Z (Z (Z aA))) (r:Nat->Nat) (gs:Z bZ) (ofP ofB fK:Z Int) (fG:Z eB):Prop where
 zB:s8 a
 WB:¬tZ a
 dr:zx a.aL a.aN a.aL.length ka cI
 yO:Su ka cI
 AK:x8 a.aN a.bO (bN 0 cI) r gs ofP ofB fK fG
inductive V8 (N:Nat) (a:gZ):Prop
 |err (e:Int) (he:e≠0) (h:jq N a=some (none,e))
 |ok {ka:Z (Z aA)} {cI:Z (Z (Z aA))} {r:Nat->Nat} {gs:Z bZ} {ofP ofB fK:Z Int} {fG:Z eB} (b:iF a ka cI r gs ofP ofB fK fG)
  (h:jq N a=some (some (a.aL,a.cS,a.aN,a.bO,ka,bN 0 cI,cU a.aN<|bN 0 cI,gs,ofP,ofB,fK,fG),0))
end
section
variable {S R:Type}
theorem Xr{body:S->aT (Fl S R)}{N n:Nat}{s:S}(ι:S->Int)(Inv:Nat->S->Prop){Go:S->Prop}{Rt:R->Prop}
  (h1:∀k s,k<n->ι s=((k:Nat):Int)->Inv k s->Ok (body s) (Pn (λs'=>ι s'=((k+1:Nat):Int)/\Inv (k+1) s') Go Rt))
  (h2:∀s,ι s=(n:Int)->Inv n s->Ok (body s) (Pn (λ_=>False) Go Rt))
  {k0:Nat} (hk:k0<=n) (hi:ι s=(k0:Int)) (h0:Inv k0 s) (hn:n<N):Ok (Gk.iI body N s) (Uv Go Rt):=by
 refine XV (λs=>∃k:Nat,k<=n/\ι s=((k:Nat):Int)/\Inv k s) (λs=>n -(ι s).toNat) ?_ ⟨k0,hk,hi,h0⟩ (by omega);rintro s⟨k,hk,e,hI⟩
 by_cases hlt:k<n
 ·refine(h1 k s hlt e hI).mono ?_;rintro(s'|s'|r)hp
  ·have hp1:ι s'=((k+1:Nat):Int):=hp.1;exact⟨⟨k+1,hlt,hp.1,hp.2⟩,by omega⟩
  ·exact hp
  ·exact hp
 grind
theorem iG{k n:Nat}(h:k<n):decide ((k:Int)<(n:Int))=true:=bQ (by omega)
theorem lL(n:Nat):decide ((n:Int)<(n:Int))=false:=bY (by omega)
theorem CM{k n:Nat}(h:n<=k):decide ((k:Int)<(n:Int))=false:=bY (by omega)
end
theorem uy{α:Type}{p:α->Bool}:∀{l:Z α}{k:Nat},(∀(j:Nat)x,j<k->l[j]? =some x->p x=true)->(∀x,l[k]? =some x->p x=false)->l.takeWhile p=l.take k/\l.dropWhile p=l.drop k
 | [],k,_,_=>by simp
 |y::l,0,_,h2=>by
  have:=h2 y rfl;rw[List.takeWhile_cons,List.dropWhile_cons,this];simp
 |y::l,k+1,h1,h2=>by
  have h:=h1 0 y (by omega) rfl;obtain⟨e1,e2⟩:=uy (l:=l) (k:=k) (λj x hj hx=>h1 (j+1) x (by omega) hx)<|λx hx=>h2 x hx
  rw[List.takeWhile_cons,List.dropWhile_cons,h,aH rfl,aH rfl,e1,e2];simp
section
variable {N:Nat}
def uz(l:Z Int)(c:Int):Z Int:=if c∈l then l else l.takeWhile (λx=>decide<|x<c)++c::l.dropWhile (λx=>decide<|x<c)
theorem CN(l:Z Int)(c:Int):(uz l c).length<=l.length+1:=by
 grind [uz,decide,eP,List.takeWhile_append_dropWhile,dX]
theorem F8{l:Z Int}{c x:Int}:x∈uz l c↔x∈l\/x=c:=by
 grind [uz,decide,List.takeWhile_append_dropWhile]
theorem Qa{l:Z Int}(h:kB l)(c:Int):∀x∈l.dropWhile (λx=>decide<|x<c),c<=x:=by
 induction l with
 |nil=>simp
 |cons a l ih=>
  rw[List.dropWhile_cons]
  by_cases ha:a<c
  ·rw[aH (by grind)];exact ih h.tail
  ·rw[aI (by grind)];intro x hx
   rcases fJ.1 hx with rfl|hx
   ·omega
   ·have:=h.head x hx;omega
theorem Qb(l:Z Int)(c:Int):∀x∈l.takeWhile (λx=>decide<|x<c),x<c:=by
 induction l with
 |nil=>simp
 |cons a l ih=>
  rw[List.takeWhile_cons]
  grind
theorem xl{l:Z Int}{c:Int}(h:kB l):kB (uz l c):=by
 unfold uz;split
 ·exact h
 ·rename_i hc;have hs:=h;rw[<-List.takeWhile_append_dropWhile (p:=λx=>decide<|x<c) (l:=l)]at hs;unfold kB at hs ⊢;rw[List.pairwise_append]at hs ⊢;refine⟨hs.1,qD.2 ⟨λx hx=>?_,hs.2.1⟩,λx hx y hy=>?_⟩
  ·have h1:=Qa h c x hx
   grind [List.takeWhile_append_dropWhile,decide,List.mem_append_right]
  ·have h1:=Qb l c x hx
   grind
def mb(l:Z Int):Z Int:=l.foldl uz []
theorem ya:∀(cs l:Z Int),kB l->kB (cs.foldl uz l)/\(∀x,x∈cs.foldl uz l↔x∈l\/x∈cs)/\(cs.foldl uz l).length<=l.length+cs.length
 | [],l,h=>⟨h,λx=>by simp,by simp⟩
 |c::cs,l,h=>by
  obtain⟨h1,h2,h3⟩:=ya cs (uz l c)<|xl h
  refine⟨h1,λx=>?_,?_⟩
  ·rw[List.foldl_cons,h2,F8,fJ,or_assoc]
  ·rw[List.foldl_cons,dX];have:=CN l c;omega
theorem pL(l:Z Int):kB (mb l):=(ya l [] kN).1
theorem HN{l:Z Int}{x:Int}:x∈mb l↔x∈l:=by
 have:=(ya l [] kN).2.1 x
 grind [mb]
theorem xm(l:Z Int):(mb l).length<=l.length:=by
 have:=(ya l [] kN).2.2
 grind [mb]
theorem zC(l:Z Int)(c d:Int):mb (l++[c,d])=uz (uz (mb l) c) d:=by simp[mb,List.foldl_append]
theorem LK{a b:Nat}(h:a+b<=4611686018427387904):wrap .i64 (Int.tdiv (wrap .i64<|(a:Int)+(b:Int)) 2)=(((a+b) / 2:Nat):Int):=by
 grind [wrap_add,Int.tdiv_eq_ediv_of_nonneg,gF]
theorem Ai{l:Z Int}{c:Int}(h:kB l)(hl:l.length<=1099511627776)(hN:nq N):gw N l c=some (uz l c):=by
 refine XC ?_;unfold gw
 refine WJ (XV (Go:=λst:Int×Int=>∃a:Nat,st.1=(a:Int)/\a<=l.length/\(∀(j:Nat)x,j<a->l[j]? =some x->x<c)/\(∀(j:Nat)x,a<=j->l[j]? =some x->c<=x)) (Rt:=λ_=>True)
  (λst=>∃a b:Nat,st=((a:Int),(b:Int))/\a<=b/\b<=l.length/\(∀(j:Nat)x,j<a->l[j]? =some x->x<c)/\(∀(j:Nat)x,b<=j->l[j]? =some x->c<=x))
  (λst=>(st.2 - st.1).toNat) ?_ ⟨0,l.length,rfl,by omega,cJ _,λj x hj=>by omega,λj x hj hx=>by grind⟩ (by omega)) ?_
 ·rintro st⟨a,b,rfl,hab,hb,h1,h2⟩;dsimp only
  by_cases hlt:a<b
  ·have hm:(a+b) / 2<l.length:=by omega
   have hx:l[(a+b) / 2]? =some l[(a+b) / 2]:=aM hm;rw[iG hlt,aP,LK (by omega)];refine WR hx ?_
   by_cases hc:l[(a+b) / 2]<c
   ·rw[bQ hc,aP,aB];refine W4 ⟨⟨(a+b) / 2+1,b,?_,by omega,hb,λj x hj hx'=>?_,h2⟩,?_⟩
    ·rw[bF (by omega)]
    ·by_cases e:j=(a+b) / 2
     ·grind
     ·have:=h.lt (i:=j) (j:=(a+b) / 2) (by omega) hx' hx;omega
    ·rw[bF (by omega)];omega
   ·rw[bY hc,aQ,aB];refine W4 ⟨⟨a,(a+b) / 2,rfl,by omega,by omega,h1,λj x hj hx'=>?_⟩,by simp only;omega⟩
    by_cases e:j=(a+b) / 2
    ·subst e;rw[hx]at hx';injection hx' with hx';omega
    ·have:=h.lt (i:=(a+b) / 2) (j:=j) (by omega) hx hx';omega
  ·rw[CM (by omega),aQ];exact W9 ⟨a,rfl,by omega,h1,λj x hj hx=>h2 j x (by omega) hx⟩
 intro o ho;refine Xa ho ?_<|λr hr=>r.elim
 rintro⟨st1,st2⟩⟨a,ha,hle,h1,h2⟩;dsimp only at ha ⊢;subst ha;have hin:l[a]? =some c->uz l c=l:=λhx=>by unfold uz;rw[aH<|gl hx]
 have hout:l[a]? ≠some c->uz l c=l.take a++c::l.drop a:=λhx=>by
  have hc:c∉l:=λhc=>by
   obtain⟨j,hj⟩:=dZ hc
   by_cases h3:j<a
   ·have:=h1 j c h3 hj;omega
   ·by_cases e:j=a
    ·subst e;exact hx hj
    ·have h5:a<l.length:=by have:=(bS.1 hj).1;omega
     have h6:l[a]? =some l[a]:=aM h5;have h7:=h.lt (i:=a) (j:=j) (by omega) h6 hj;have h8:=h2 a _ (cJ _) h6;omega
  unfold uz;rw[aI hc];obtain⟨e1,e2⟩:=uy (p:=λx=>decide<|x<c) (l:=l) (k:=a) (λj x hj hx'=>bQ<|h1 j x hj hx')<|λx hx'=>bY (by have:=h2 a x (cJ _) hx';omega)
  rw[e1,e2]
 have hrest:l[a]? ≠some c->Ok ((vC l 0 (a:Int)).bind λx49=>(app 8 ([]:Z Int) x49).bind λx51=>(app 8 x51 ([c]:Z Int)).bind λx54=>(vC l (a:Int) (l.length:Int)).bind λx56=>(app 8 x54 x56).bind λx58=>some x58) (λr=>r=uz l c):=λhx=>by
  have htk:(l.take a).length=a:=by rw[dO];omega
  refine IS (uX l a hle)<|Xw (by simp only[List.length_nil];omega)<|Xw (by rw[List.nil_append];simp only[dX,List.length_nil];omega)<|IS (tm l a hle)<|Xw ?_<|OF ?_
  ·rw[List.nil_append,eP,mH];simp only[dX,List.length_nil];omega
  ·rw[hout hx];simp
 by_cases hlt:a<l.length
 ·have hx:l[a]? =some l[a]:=aM hlt;rw[iG hlt,aP,cB hx,aB,aB];refine Xj (λhb=>OF ?_)<|λhb=>hrest ?_
  ·rw[beq_iff_eq]at hb;rw[hin (by rw[hx,hb])]
  ·rw[beq_eq_false_iff_ne]at hb;rw[hx];intro e;injection e with e;exact hb e
 ·rw[CM (by omega),aQ,aB,aQ];exact hrest (by rw[List.getElem?_eq_none (by omega)];intro e;cases e)
theorem KA(l m:Z aF):kA (l++m)=kA l++kA m:=List.flatMap_append
theorem F9{l:Z aF}(hl:l.length<=268435456)(hN:nq N):iY N l=some (mb<|kA l):=by
 refine XC ?_;unfold iY;refine WJ (Xr (n:=l.length) (λs=>s.2) (λk s=>s.1=mb (kA<|l.take k)) (Go:=λs=>s.1=mb (kA l)) (Rt:=λ_=>False) ?_ ?_ (cO _) rfl rfl (by omega)) ?_
 ·rintro k⟨out,i⟩hk e hI;dsimp only at e hI ⊢;subst e;subst hI;rw[iG hk,aP];have hx:l[k]? =some l[k]:=aM hk;have h1:=xm<|kA<|l.take k
  rw[nQ,dO]at h1;have h2:=CN (mb<|kA<|l.take k) l[k].Y0;refine WR hx<|WR hx<|IS (Ai (pL _) (by omega) hN)<|IS (Ai (xl<|pL _) (by omega) hN)<|W4 ⟨bF (by omega),?_⟩
  rw[dH hk,KA];exact(zC _ _ _).symm
 ·rintro⟨out,i⟩e hI;dsimp only at e hI ⊢;subst e;rw[lL,aQ];exact W9 (by rw[dY]at hI;exact hI)
 intro o ho;exact Xa ho (λs hs=>OF hs)<|λr hr=>hr.elim
def sp(s:aG):Int×Int:=(s.from_,s.to)
theorem ON:∀{l m:Z aG},l.map sp=m.map sp->l=m
 | [],[],_=>rfl
 | [],_::_,h=>by cases h
 |_::_,[],h=>by cases h
 |⟨a,b⟩::l,⟨c,d⟩::m,h=>by
  rw[eV,eV]at h;injection h with h1 h2
  unfold sp at h1;injection h1 with h3 h4
  simp only at h3 h4;rw[h3,h4,ON h2]
theorem Aj(a b:Int):(if b<a then b else a)=min a b:=by omega
theorem s9(a b:Int):(if a<b then b else a)=max a b:=by omega
theorem HO{l:Z aG}{s:aG}(hl:l.length<=268435456)(hN:nq N):Ok (ju N l s) (λr=>r.map sp=nB (l.map sp) (sp s)):=by
 unfold ju;have hget:∀(j:Nat)(x:Int×Int),(l.map sp)[j]? =some x->∃y,l[j]? =some y/\x=sp y:=λj x h=>by
  grind
 refine WJ (XV (Go:=λst:Z aG×Int=>∃k:Nat,st=(l.take k,(k:Int))/\k<=l.length/\(∀(j:Nat)x,j<k->l[j]? =some x->x.to<s.from_)/\(∀x,l[k]? =some x->¬x.to<s.from_)) (Rt:=λ_=>False)
  (λst=>∃k:Nat,st=(l.take k,(k:Int))/\k<=l.length/\∀(j:Nat)x,j<k->l[j]? =some x->x.to<s.from_) (λst=>l.length - st.2.toNat) ?_ ⟨0,by simp,by omega,λj x hj=>by omega⟩ (by simp;omega)) ?_
 ·rintro st⟨k,rfl,hk,hI⟩;dsimp only
  by_cases hlt:k<l.length
  ·have hx:l[k]? =some l[k]:=aM hlt;rw[iG hlt,aP,cB hx,aB,aB];refine Xj (λhb=>?_)<|λhb=>?_
   ·have hb:=of_decide_eq_true hb;refine IS rfl<|Xw ?_<|W4 ⟨⟨k+1,?_,hlt,?_⟩,?_⟩
    ·grind
    all_goals grind [bF,dH,cK]
   grind [of_decide_eq_false,W9]
  grind [CM,aB,W9,bS]
 intro o ho;refine Xa ho ?_<|λr hr=>hr.elim
 rintro st⟨k,rfl,hk,hI,hE⟩;dsimp only
 obtain⟨e1,e2⟩:=uy (p:=λa:Int×Int=>decide (a.2<(sp s).1)) (l:=l.map sp) (k:=k) (λj x hj hx=>by
  obtain⟨y,hy,rfl⟩:=hget j x hx
  exact bQ (hI j y hj hy)) (λx hx=>by
  obtain⟨y,hy,rfl⟩:=hget k x hx
  exact bY (hE y hy))
 refine WJ (XV (Go:=λst:aG×Int=>∃i:Nat,st.2=(i:Int)/\i<=l.length/\md (sp s) ((l.drop k).map sp)=(sp st.1,(l.drop i).map sp)) (Rt:=λ_=>False)
  (λst=>∃i:Nat,st.2=(i:Int)/\i<=l.length/\md (sp s) ((l.drop k).map sp)=md (sp st.1) ((l.drop i).map sp)) (λst=>l.length - st.2.toNat) ?_ ⟨k,rfl,hk,rfl⟩ (by omega)) ?_
 ·rintro⟨s',i'⟩⟨i,e,hi,hm⟩;dsimp only at e hm ⊢;subst e
  by_cases hlt:i<l.length
  ·have hx:l[i]? =some l[i]:=aM hlt;have hd:(l.drop i).map sp=sp l[i]::(l.drop<|i+1).map sp:=by rw[xx hlt,eV]
   rw[iG hlt,aP,cB hx,aB,aB];refine Xj (λhb=>?_)<|λhb=>?_
   ·have hb:=of_decide_eq_true hb;refine IS rfl<|IS rfl<|W4 ⟨⟨i+1,bF (by omega),hlt,?_⟩,?_⟩
    ·rw[hm,hd]
     conv=>lhs;unfold md
     rw[aH (show(sp l[i]).1<=(sp s').2 from hb),Aj,s9];rfl
    ·dsimp only;rw[bF (by omega)];simp only[cK];omega
   ·have hb:=of_decide_eq_false hb;refine W9 ⟨i,rfl,hi,?_⟩;rw[hm,hd]
    conv=>lhs;unfold md
    rw[aI (show ¬(sp l[i]).1<=(sp s').2 from hb)]
  ·rw[CM (by omega),aQ,aB,aQ];refine W9 ⟨i,rfl,hi,?_⟩;rw[hm,List.drop_eq_nil_of_le (by omega)];rfl
 intro o ho;refine Xa ho ?_<|λr hr=>hr.elim
 rintro⟨s',i'⟩⟨i,e,hi,hm⟩;dsimp only at e hm ⊢;subst e;refine Xw ?_<|IS (tm l i hi)<|Xw ?_<|OF ?_
 ·rw[dO];simp only[dX,List.length_nil];omega
 ·rw[eP,dO,mH];simp only[dX,List.length_nil];omega
 ·unfold nB;rw[e1,e2,<-List.map_take,<-List.map_drop,hm];simp
theorem Ga:∀(l:Z (Int×Int))(s:Int×Int),(md s l).2.length<=l.length
 | [],s=>cJ _
 |a::l,s=>by
  unfold md;split
  ·have:=Ga l (min s.1 a.1,max s.2 a.2);rw[dX];omega
  ·exact cJ _
theorem D7(l:Z (Int×Int))(s:Int×Int):(nB l s).length<=l.length+1:=by
 grind [nB,Ga,decide,eP,List.takeWhile_append_dropWhile,dX]
def kX(y:Int)(out:Z (Int×Int))(r:aF):Z (Int×Int):=if r.Y0<=y/\y<r.Y1 then nB out (r.X0,r.X1)else out
def nF(l:Z aF)(y:Int):Z (Int×Int):=l.foldl (kX y) []
theorem Nz(l:Z aF)(r:aF)(y:Int):nF (l++[r]) y=kX y (nF l y) r:=by simp[nF,List.foldl_append]
theorem D8(y:Int):∀(l:Z aF)(out:Z (Int×Int)),(l.foldl (kX y) out).length<=out.length+l.length
 | [],out=>by simp
 |r::l,out=>by
  rw[List.foldl_cons,dX];have h1:=D8 y l<|kX y out r
  have h2:(kX y out r).length<=out.length+1:=by
   unfold kX;split
   ·exact D7 _ _
   ·omega
  omega
theorem xn(l:Z aF)(y:Int):(nF l y).length<=l.length:=by
 grind [D8,nF]
theorem CO(y:Int):∀(l:Z aF)(out:Z (Int×Int)),(∀r∈l,r.X0<r.X1)->kB (dU out)->kB (dU<|l.foldl (kX y) out)/\∀x,kz (l.foldl (kX y) out) x=(kz out x||vX l x y)
 | [],out,_,h=>⟨h,λx=>by simp[vX]⟩
 |r::l,out,hr,h=>by
  have h0:=hr r (by simp);rw[List.foldl_cons];have hst:kB (dU<|kX y out r)/\∀x,kz (kX y out r) x=(kz out x||((decide (r.X0<=x)&&decide (x<r.X1))&&(decide (r.Y0<=y)&&decide (y<r.Y1)))):=by
   unfold kX
   by_cases hy:r.Y0<=y/\y<r.Y1
   ·rw[aH hy];obtain⟨j1,j2⟩:=CB (l:=out) (s:=(r.X0,r.X1)) h h0;refine⟨j1,λx=>?_⟩;rw[j2,bQ hy.1,bQ hy.2,Bool.or_comm];simp
   ·rw[aI hy];refine⟨h,λx=>?_⟩;have:(decide (r.Y0<=y)&&decide (y<r.Y1))=false:=by rw[Bool.and_eq_false_iff,decide_eq_false_iff_not,decide_eq_false_iff_not];omega
    rw[this];simp
  obtain⟨m1,m2⟩:=CO y l (kX y out r) (λr' hr'=>hr r'<|jP _ hr') hst.1;refine⟨m1,λx=>?_⟩;rw[m2,hst.2,Bool.or_assoc];rfl
theorem Ak{l:Z aF}(h:∀r∈l,r.X0<r.X1)(y:Int):kB (dU<|nF l y)/\∀x,kz (nF l y) x=vX l x y:=by
 obtain⟨h1,h2⟩:=CO y l [] h kN
 grind [kz,nF]
theorem A3{y y':Int}:∀(l:Z aF)(out:Z (Int×Int)),(∀r∈l,(r.Y0<=y/\y<r.Y1)↔(r.Y0<=y'/\y'<r.Y1))->l.foldl (kX y) out=l.foldl (kX y') out
 | [],out,_=>rfl
 |r::l,out,h=>by
  rw[List.foldl_cons,List.foldl_cons,A3 l _<|λr' hr'=>h r'<|jP _ hr'];congr 1;unfold kX;have:=h r (by simp)
  by_cases h1:r.Y0<=y/\y<r.Y1
  ·rw[aH h1,aH<|this.1 h1]
  ·rw[aI h1,aI<|λh2=>h1<|this.2 h2]
theorem LL{l:Z aF}{y y':Int}(h:∀r∈l,(r.Y0<=y/\y<r.Y1)↔(r.Y0<=y'/\y'<r.Y1)):nF l y=nF l y':=A3 l [] h
theorem OO{l:Z aF}{y:Int}(h:∀r∈l,¬(r.Y0<=y/\y<r.Y1)):nF l y= []:=by
 have:∀(l:Z aF)(out:Z (Int×Int)),(∀r∈l,¬(r.Y0<=y/\y<r.Y1))->l.foldl (kX y) out=out:=by
  intro l
  induction l with
  |nil=>simp
  |cons r l ih=>
   grind [jP,kX]
 exact this l [] h
theorem IU{l:Z aF}{y:Int}(hl:l.length<=134217728)(hN:nq N):Ok (iW N l y) (λr=>r.map sp=nF l y):=by
 unfold iW;refine WJ (Xr (n:=l.length) (λs=>s.2) (λk s=>s.1.map sp=nF (l.take k) y) (Go:=λs=>s.1.map sp=nF l y) (Rt:=λ_=>False) ?_ ?_ (cO _) rfl rfl (by omega)) ?_
 ·rintro k⟨out,i⟩hk e hI;dsimp only at e hI ⊢;subst e;rw[iG hk,aP];have hx:l[k]? =some l[k]:=aM hk;have hlen:out.length<=l.length:=by
   grind [xn,dM,dO]
  rw[cB hx,aB];have hst:nF (l.take<|k+1) y=kX y (nF (l.take k) y) l[k]:=by rw[dH hk,Nz]
  have hno:¬(l[k].Y0<=y/\y<l[k].Y1)->Ok ((some out).bind λs141=>some (Fl.nx (s141,wrap .i64<|((k:Nat):Int)+1):Fl (Z aG×Int) Empty)) (Pn (λs'=>s'.2=((k+1:Nat):Int)/\s'.1.map sp=nF (l.take<|k+1) y) (λs=>s.1.map sp=nF l y)<|λ_=>False):=λhy=>by
   grind [aB,W4,bF,kX]
  by_cases h1:l[k].Y0<=y
  ·rw[bQ h1,aP,aB,aB]
   by_cases h2:y<l[k].Y1
   ·rw[bQ h2,aP];refine WJ (P:=λr:Z aG=>r.map sp=nF (l.take<|k+1) y) (IS rfl<|IS rfl<|WJ (HO (by omega) hN)<|λr hr=>OF ?_)<|λr hr=>W4 ⟨bF (by omega),hr⟩
    rw[hr,hI,hst];unfold kX;rw[aH ⟨h1,h2⟩];rfl
   ·rw[bY h2,aQ];exact hno<|λh=>h2 h.2
  ·rw[bY h1,aQ,aB,aQ];exact hno<|λh=>h1 h.1
 ·rintro⟨out,i⟩e hI;dsimp only at e hI ⊢;subst e;rw[lL,aQ];exact W9 (by rw[dY]at hI;exact hI)
 intro o ho;exact Xa ho (λs hs=>OF hs)<|λr hr=>hr.elim
theorem Dz{l:Z aG}{x:Int}(hl:l.length<=1099511627776)(hN:nq N):iv N l x=some (kz (l.map sp) x):=by
 refine XC ?_;unfold iv;have hm:∀b:Bool,(kz (l.map sp) x=b↔(l.any λs=>decide (s.from_<=x)&&decide (x<s.to))=b):=λb=>by unfold kz;rw[List.any_map];rfl
 refine WJ (Xr (n:=l.length) (λs=>s) (λk s=>∀(j:Nat)y,j<k->l[j]? =some y->¬(y.from_<=x/\x<y.to)) (Go:=λs=>kz (l.map sp) x=false) (Rt:=λr=>r=kz (l.map sp) x) ?_ ?_ (cO _) rfl (λj y hj=>by omega) (by omega)) ?_
 ·rintro k i hk e hI;subst e;rw[iG hk,aP];have hx:l[k]? =some l[k]:=aM hk;rw[cB hx,aB]
  have hno:¬(l[k].from_<=x/\x<l[k].to)->Ok (some (Fl.nx (wrap .i64 (((k:Nat):Int)+1)):Fl Int Bool)) (Pn (λs'=>s'=((k+1:Nat):Int)/\∀(j:Nat)y,j<k+1->l[j]? =some y->¬(y.from_<=x/\x<y.to)) (λs=>kz (l.map sp) x=false) (λr=>r=kz (l.map sp) x)):=λhy=>W4 ⟨bF (by omega),λj y hj hjy=>by
   grind⟩
  by_cases h1:l[k].from_<=x
  ·rw[bQ h1,aP,aB,aB]
   by_cases h2:x<l[k].to
   ·rw[bQ h2,aP];refine XJ ?_;symm;rw[hm,l5]
    grind
   grind
  grind
 ·rintro i e hI;subst e;rw[lL,aQ];refine W9 ?_;rw[hm,List.any_eq_false]
  grind [dZ,bS,Bool.and_eq_false_iff,decide_eq_false_iff_not]
 intro o ho;exact Xa ho (λs hs=>OF hs.symm)<|λr hr=>OF hr
end
section
variable {α:Type}[DecidableEq α]{N:Nat}
def Rf(N:Nat)(p0 p1:Z α):aT Bool:=
 bif(p0.length:Int) != (p1.length:Int)then some false else((iI (λ(s32:Int)=>(bif decide (s32<(p0.length:Int))then((idx p0 s32).bind λx45=>(idx p1 s32).bind λx48=>bif(!(decide<|x45=x48))then some (.rt false)else some (.nx<|wrap .i64<|s32+1))else(some<|.br s32):aT (Fl Int Bool))) N 0).bind λo51=>o51.cs (λ(s32:Int)=>some true)<|λr=>some r)
theorem KB{l m:Z α}(hl:l.length<=1099511627776)(hN:nq N):Rf N l m=some (decide<|l=m):=by
 refine XC ?_;unfold Rf
 by_cases he:l.length=m.length
 ·rw[show((l.length:Int) != (m.length:Int))=false by rw[he];simp,aQ];refine WJ (Xr (n:=l.length) (λs=>s) (λk s=>∀j,j<k->l[j]? =m[j]?) (Go:=λs=>l=m) (Rt:=λr=>r=false/\l≠m) ?_ ?_ (cO _) rfl (λj hj=>by omega) (by omega)) ?_
  ·rintro k i hk e hI;subst e;have hx:l[k]? =some l[k]:=aM hk
   grind [aM,iG,WR,XJ,W4,bF]
  ·rintro i e hI;subst e;rw[lL,aQ];refine W9<|List.ext_getElem? λj=>?_
   grind
  intro o ho;exact Xa ho (λs hs=>OF (bQ hs).symm)<|λr hr=>OF (by grind)
 grind [OF,bY]
end
section
variable {N:Nat}
theorem IV{l m:Z aF}(hl:l.length<=1099511627776)(hN:nq N):kS N l m=some (decide<|l=m):=KB hl hN
theorem IW{l m:Z aG}(hl:l.length<=1099511627776)(hN:nq N):kR N l m=some (decide<|l=m):=KB hl hN
def zD(b:aR):Bd:=⟨b.from_,b.to,dU<|b.kp.map sp⟩
theorem NA{l:Z (Int×Int)}:dU l= []↔l= []:=by
 cases l with
 |nil=>exact⟨λ_=>rfl,λ_=>rfl⟩
 |cons s l=>exact⟨λh=>(by cases h),λh=>(by cases h)⟩
theorem NB{l m:Z aG}:dU (l.map sp)=dU (m.map sp)↔l=m:=by grind [ON,HD]
theorem LM{l:Z aR}{b:aR}(hlt:b.from_<b.to)(hl:l.length<=1073741824)(hs:∀c∈l,c.kp.length<=1099511627776)(hN:nq N):
  Ok (gT N l b) (λr=>r.map zD=kV (l.map zD) (zD b)):=by
 unfold gT kV
 by_cases h0:b.kp= []
 ·rw[show((b.kp.length:Int)==0)=true by rw[h0];rfl,aP,aH<|.inl (by unfold zD;rw[h0];rfl)];exact OF rfl
 ·rw[show((b.kp.length:Int)==0)=false by simp_all,aQ];have hne:¬((zD b).xs= []\/(zD b).y1<=(zD b).y0):=by
   rintro(h|h)
   ·have h:=NA.1 h
    simp_all
   ·have h:b.to<=b.from_:=h;omega
  rw[aI hne]
  rcases List.eq_nil_or_concat l with rfl|⟨A,c,hA⟩
  ·grind [decide,aB,Xw,OF]
  ·rw[List.concat_eq_append]at hA;subst hA;have hlen:(A++[c]).length=A.length+1:=by simp
   have hwp:wrap .i64 ((((A++[c]).length:Nat):Int) - 1)=(A.length:Int):=by grind [FK]
   have hlast:(A++[c])[A.length]? =some c:=by simp
   rw[hwp,bQ (by omega),aP,cB hlast,aB,aB,IW (by grind) hN,aB,aB,cK];have hl2:((A++[c]).map zD).getLast? =some (zD c):=by simp
   have hd2:((A++[c]).map zD).dropLast=A.map zD:=by simp
   rw[hl2,hd2];dsimp only
   by_cases h1:c.to=b.from_/\c.kp=b.kp
   ·grind [zD,bQ,aB,OF,List.set_append_right]
   ·rw[aI (show ¬((zD c).y1=(zD b).y0/\(zD c).xs=(zD b).xs)from λh=>h1 ⟨h.1,NB.1 h.2⟩)];have e2:(bif c.to==b.from_ then some (decide<|c.kp=b.kp)else some false)=some false:=by
     by_cases h2:c.to=b.from_
     ·rw[show(c.to==b.from_)=true by rw[h2];simp,aP,bY<|λh=>h1 ⟨h2,h⟩]
     ·rw[show(c.to==b.from_)=false by simpa using h2,aQ]
    rw[e2,aB,aQ];exact Xw (by rw[hlen];simp;omega)<|OF (by simp)
theorem OP{s:Z Bd}{b c:Bd}(h:c∈kV s b):c.xs=b.xs\/∃d∈s,c.xs=d.xs:=by
 grind [kV,List.dropLast_subset,List.mem_of_getLast?]
theorem uA{f:Int->Z Int}{B:Nat}(hf:∀y,(f y).length<=B):∀(ss:Z (Int×Int))(out:Z Bd),(∀c∈out,c.xs.length<=B)->(∀c∈oj f ss out,c.xs.length<=B)/\(oj f ss out).length<=out.length+ss.length
 | [],out,h=>⟨h,by simp[oj]⟩
 |s::ss,out,h=>by
  obtain⟨h1,h2⟩:=uA hf ss (kV out ⟨s.1,s.2,f s.1⟩) (λc hc=>by
   rcases OP hc with h3|⟨d,hd,h3⟩
   ·grind
   grind)
  refine⟨h1,?_⟩;have:=Nl out ⟨s.1,s.2,f s.1⟩;show(oj f ss<|kV out ⟨s.1,s.2,f s.1⟩).length<=_;rw[dX];omega
theorem qA:∀(ys:Z Int),(me ys).length=ys.length - 1
 | []=>rfl
 | [_]=>rfl
 |a::b::l=>by
  show(me<|b::l).length+1=_;rw[qA<|b::l];simp
theorem Gb:∀(ys:Z Int)(k:Nat)(h:k+1<ys.length),(me ys)[k]? =some (ys[k],ys[k+1])
 | [],k,h=>by simp at h
 | [_],k,h=>by simp at h
 |a::b::l,0,h=>rfl
 |a::b::l,k+1,h=>by
  have:=Gb (b::l) k (by grind);show(me<|b::l)[k]? =_;rw[this];rfl
theorem KC(f:Int->Z Int)(ss:Z (Int×Int))(s:Int×Int)(out:Z Bd):oj f (ss++[s]) out=kV (oj f ss out) ⟨s.1,s.2,f s.1⟩:=by simp[oj,List.foldl_append]
theorem Gc{ys:Z Int}(hy:kB ys){f:Int->Z Int}{B:Nat}(hf:∀y,(f y).length<=B)(hB:B<=1099511627776)(hys:ys.length<=1073741824){out:Z aR}{k:Nat}(h1:1<=k)(hk:k<ys.length)
  (hI:out.map zD=oj f ((me ys).take<|k - 1) []) {r:Z aG} (hr:dU (r.map sp)=f (ys[k - 1]'(by omega))) (hN:nq N):
  Ok (gT N out ⟨ys[k - 1]'(by omega),ys[k],r⟩) (λo=>o.map zD=oj f ((me ys).take k) []):=by
 have hlt:ys[k - 1]'(by omega)<ys[k]:=ox.1 hy (k - 1) k (by omega) hk (by omega);obtain⟨s1,s2⟩:=uA hf ((me ys).take<|k - 1) [] (λc hc=>by cases hc);have hol:out.length<=ys.length:=by
  grind
 refine(LM hlt (by omega) (λc hc=>?_) hN).mono λo ho=>?_
 ·have h3:(zD c).xs.length<=B:=s1 _ (by grind)
  grind [zD,lI,dM]
 ·have hg:=Gb ys (k - 1) (by omega)
  grind [me,qA,dH,aM,KC,zD]
def vv(b:aR):Z aF:=b.kp.map λs=>⟨s.from_,b.from_,s.to,b.to⟩
def pY(l:Z aR):Z aF:=l.flatMap vv
theorem KD:∀(l:Z (Int×Int)),FN (dU l)=l
 | []=>rfl
 |s::l=>by rw[k8];show(s.1,s.2)::FN (dU l)=_;rw[KD l]
theorem DA:∀{l:Z aR}{s:Z aA},l.map zD=s.map cQ->pY l=bB s
 | [],[],_=>rfl
 | [],_::_,h=>by cases h
 |_::_,[],h=>by cases h
 |b::l,c::s,h=>by
  rw[eV,eV]at h;injection h with h1 h2
  have e:=DA h2;show vv b++pY l=o8 c++bB s;rw[e];congr 1;unfold zD cQ at h1;injection h1 with g1 g2 g3
  unfold vv o8;rw[<-g3,KD,g1,g2,List.map_map];rfl
theorem KE(l:Z aR)(b:aR):pY (l++[b])=pY l++vv b:=by simp[pY,List.flatMap_append]
theorem MH{l:Z aR}(hl:l.length<=1099511627776)(hs:∀b∈l,b.kp.length<=1099511627776)(hr:(pY l).length<=1099511627776)(hN:nq N):kj N l=some (pY l):=by
 refine XC ?_;unfold kj;refine WJ (Xr (n:=l.length) (λs=>s.2) (λk s=>s.1=pY (l.take k)) (Go:=λs=>s.1=pY l) (Rt:=λ_=>False) ?_ ?_ (cO _) rfl rfl (by omega)) ?_
 ·rintro k⟨out,i⟩hk e hI;dsimp only at e hI ⊢;subst e;subst hI;rw[iG hk,aP];have hx:l[k]? =some l[k]:=aM hk;have hsl:=hs _<|cH hk
  have hts:pY (l.take<|k+1)=pY (l.take k)++vv l[k]:=by rw[dH hk,KE]
  have hlen:(pY<|l.take k).length+l[k].kp.length<=(pY l).length:=by
   grind [pY,eP,List.take_append_drop,vv,dM]
  refine WJ (Xr (n:=l[k].kp.length) (λs=>s.2) (λj s=>s.1=pY (l.take k)++(vv l[k]).take j) (Go:=λs=>s.1=pY (l.take<|k+1)) (Rt:=λ_=>False) ?_ ?_ (cO _) rfl (by simp) (by omega)) ?_
  ·rintro j⟨o2,i2⟩hj e hI;dsimp only at e hI ⊢;subst e;subst hI;have hy:l[k].kp[j]? =some l[k].kp[j]:=aM hj;have hjr:j<(vv l[k]).length:=by grind [vv,dM]
   refine WR hx ?_;rw[iG hj,aP];refine WR hx<|WR hy<|WR hx<|WR hx<|WR hy<|WR hx<|Xw ?_<|W4 ⟨bF (by omega),?_⟩
   ·grind
   grind [lx,dH,vv]
  ·grind [WR,W9,nc,vv,dM]
  intro o ho;exact Xa ho (λs hs=>W4 ⟨bF (by omega),hs⟩)<|λr hr=>hr.elim
 ·rintro⟨out,i⟩e hI;dsimp only at e hI ⊢;subst e;rw[lL,aQ];exact W9 (by rw[dY]at hI;exact hI)
 intro o ho;exact Xa ho (λs hs=>OF hs)<|λr hr=>hr.elim
theorem HQ{l:Z aF}{ys:Z Int}(hm:∀r∈l,r.Y0∈ys/\r.Y1∈ys){s:Int×Int}{y:Int}(hs:s∈me ys)(hy:kB ys)(h1:s.1<=y)(h2:y<s.2):nF l y=nF l s.1:=LL λr hr=>by
 obtain⟨m1,m2⟩:=hm r hr;obtain⟨_,_,_,h⟩:=uK hy s hs
 rcases h _ m1 with h3|h3 <;> rcases h _ m2 with h4|h4 <;> constructor <;> intro h5 <;> omega
theorem IX{l:Z aF}{ys:Z Int}(hm:∀r∈l,r.Y0∈ys/\r.Y1∈ys){y:Int}(h:(∀c∈ys,y<c)\/(∀c∈ys,c<=y)):nF l y= []:=by grind [OO]
theorem IY{l:Z aF}:∀r∈l,r.Y0∈mb (kA l)/\r.Y1∈mb (kA l):=by grind [HN,o7]
theorem OQ(l:Z aF):(mb<|kA l).length<=2*l.length:=by
 grind [xm,kA,nQ]
theorem yb{l:Z aF}{s:Z aA}(hc:ga (s.map cQ))(hcov:∀x y,yQ (s.map cQ) x y=vX l x y)(hl:l.length<=10000000)(hok:∀r∈l,r.X0<r.X1)(hr:(bB s).length<=1099511627776)(hN:nq N):
  gv N l=some (bB s):=by
 refine XC ?_;unfold gv;refine IS (F9 (by omega) hN) ?_;have hyl:=OQ l;have hyi:=pL<|kA l
 have hf:∀y,kB (dU<|nF l y)/\(dU<|nF l y).length % 2=0:=λy=>⟨(Ak hok y).1,by simp[lI]⟩;have hfl:∀y,(dU<|nF l y).length<=20000000:=λy=>by grind [lI,xn]
 obtain⟨b1,b2⟩:=D3 (f:=λy=>dU<|nF l y) hf hyi (λt ht y h1 h2=>by(try dsimp only);rw[HQ IY ht hyi h1 h2]) (λy h=>by(try dsimp only);rw[IX IY h];rfl);have hsame:oj (λy=>dU<|nF l y) (me<|mb<|kA l) []=s.map cQ:=xV b1 hc λx y=>by
  grind [yQ,xe,Ak]
 have hmy:= @IY l;generalize mb (kA l)=ys at *;refine WJ (Xr (n:=max 1 ys.length) (λs=>s.2) (λk st=>1<=k/\st.1.map zD=oj (λy=>dU<|nF l y) ((me ys).take<|k - 1) []) (Go:=λst=>st.1.map zD=s.map cQ) (Rt:=λ_=>False) ?_ ?_ (k0:=1) (by omega) rfl ⟨cJ _,rfl⟩ (by omega)) ?_
 ·rintro k⟨out,i⟩hk e⟨hk1,hI⟩;dsimp only at e hI ⊢;subst e;have hk2:k<ys.length:=by omega
  rw[iG hk2,aP,jB hk1 (by omega)];refine XH (by omega)<|XH hk2<|XH (by omega)<|WJ (IU (by omega) hN) λr hr=>WJ (Gc hyi (f:=λy=>dU<|nF l y) hfl (by omega) (by omega) hk1 hk2 hI (by grind) hN) λo ho=>W4 ⟨bF (by omega),by omega,?_⟩
  grind
 ·grind [CM,W9,nc,qA]
 intro o ho;refine Xa ho (λst hs=>?_)<|λr hr=>hr.elim
 have e:=DA hs;obtain⟨s1,s2⟩:=uA (f:=λy=>dU<|nF l y) hfl (me ys) [] (λc hc=>by cases hc);refine IS (MH (l:=st.1) ?_ ?_ (by rw[e];exact hr) hN)<|OF e
 ·have:(st.1.map zD).length<=ys.length:=by rw[hs,<-hsame];have:=qA ys;simp only[List.length_nil]at s2;omega
  rw[dM]at this;omega
 ·intro b hb;have h3:=s1 (zD b) (by rw[hsame,<-hs];exact dN.2 ⟨b,hb,rfl⟩);have h4:(zD b).xs.length=2*b.kp.length:=by unfold zD;rw[lI,dM]
  omega
def v9(w:Int)(p q:Bool):Bool:=((((w==1)&&(p||q))||(((w==2)&&p)&&q))||(((w==3)&&p)&&(!q)))
theorem OR(w:Int):v9 w false false=false:=by simp[v9]
theorem D9(iX:Bool->Bool->Bool)(a b ss:Z (Int×Int))(s:Int×Int)(out:Z (Int×Int)):oh iX a b (ss++[s]) out=if iX (kz a s.1) (kz b s.1)=true then nB (oh iX a b ss out) s else oh iX a b ss out:=by simp[oh,List.foldl_append]
theorem BJ(iX:Bool->Bool->Bool)(a b:Z (Int×Int)):∀(ss out:Z (Int×Int)),(oh iX a b ss out).length<=out.length+ss.length
 | [],out=>by simp[oh]
 |s::ss,out=>by
  have h1:=BJ iX a b ss (if iX (kz a s.1) (kz b s.1)=true then nB out s else out);have h2:(if iX (kz a s.1) (kz b s.1)=true then nB out s else out).length<=out.length+1:=by
   split
   ·exact D7 _ _
   ·omega
  show(oh iX a b ss (if iX (kz a s.1) (kz b s.1)=true then nB out s else out)).length<=_;rw[dX];omega
def Ea(a b:Z (Int×Int)):Z Int:=mb<|dU a++dU b
theorem HR(a b:Z (Int×Int)):(Ea a b).length<=2*a.length+2*b.length:=by
 have:=xm<|dU a++dU b
 rw[eP,lI,lI]at this;exact this
theorem OS{a b:Z aG}{w:Int}(ha:a.length<=10000000)(hb:b.length<=10000000)(hN:nq N):
  Ok (lj N a b w) (λr=>r.map sp=oh (v9 w) (a.map sp) (b.map sp) (me<|Ea (a.map sp)<|b.map sp) []):=by
 unfold lj;have hfl:∀(l:Z aG),(mb<|dU<|l.map sp).length<=2*l.length:=λl=>by
  grind [xm,dU,lI,dM]
 refine WJ (Xr (n:=a.length) (λs=>s.2) (λk s=>s.1=mb (dU<|(a.take k).map sp)) (Go:=λs=>s.1=mb (dU<|a.map sp)) (Rt:=λ_=>False) ?_ ?_ (cO _) rfl rfl (by omega)) ?_
 ·rintro k⟨out,i⟩hk e hI;dsimp only at e hI ⊢;subst e;subst hI;rw[iG hk,aP];have hx:a[k]? =some a[k]:=aM hk;have h1:=hfl<|a.take k
  rw[dO]at h1;have h2:=CN (mb<|dU<|(a.take k).map sp) a[k].from_;refine WR hx<|WR hx<|IS (Ai (pL _) (by omega) hN)<|IS (Ai (xl<|pL _) (by omega) hN)<|W4 ⟨bF (by omega),?_⟩
  rw[dH hk,eU,xW];exact(zC _ _ _).symm
 ·simp[lL,aQ,W9,dY]
 intro o ho;refine Xa ho ?_<|λr hr=>hr.elim
 rintro⟨xa,ia⟩hxa;dsimp only at hxa ⊢;subst hxa;refine WJ (Xr (n:=b.length) (λs=>s.2) (λk s=>s.1=mb (dU (a.map sp)++dU ((b.take k).map sp))) (Go:=λs=>s.1=Ea (a.map sp) (b.map sp)) (Rt:=λ_=>False) ?_ ?_ (cO _) rfl (by simp[dU]) (by omega)) ?_
 ·rintro k⟨out,i⟩hk e hI;dsimp only at e hI ⊢;subst e;subst hI;rw[iG hk,aP];have hx:b[k]? =some b[k]:=aM hk;have h1:=xm<|dU (a.map sp)++dU ((b.take k).map sp)
  rw[eP,lI,lI,dM,dM,dO]at h1;have h2:=CN (mb<|dU (a.map sp)++dU ((b.take k).map sp)) b[k].from_;refine WR hx<|WR hx<|IS (Ai (pL _) (by omega) hN)<|IS (Ai (xl<|pL _) (by omega) hN)<|W4 ⟨bF (by omega),?_⟩
  rw[dH hk,eU,xW,<-lx];exact(zC _ _ _).symm
 ·rintro⟨out,i⟩e hI;dsimp only at e hI ⊢;subst e;rw[lL,aQ];exact W9 (by rw[dY]at hI;exact hI)
 intro o ho;refine Xa ho ?_<|λr hr=>hr.elim
 rintro⟨xs,ix⟩hxs;dsimp only at hxs ⊢;have hxl:=HR (a.map sp)<|b.map sp
 rw[<-hxs,dM,dM]at hxl;rw[<-hxs];clear hxs;refine WJ (Xr (n:=max 1 xs.length) (λs=>s.2) (λk st=>1<=k/\st.1.map sp=oh (v9 w) (a.map sp) (b.map sp) ((me xs).take<|k - 1) []) (Go:=λst=>st.1.map sp=oh (v9 w) (a.map sp) (b.map sp) (me xs) []) (Rt:=λ_=>False) ?_ ?_ (k0:=1) (by omega) rfl ⟨cJ _,rfl⟩ (by omega)) ?_
 ·rintro k⟨out,i⟩hk e⟨hk1,hI⟩;dsimp only at e hI ⊢;subst e;have hk2:k<xs.length:=by omega
  rw[iG hk2,aP,jB hk1 (by omega)];have hx:xs[k - 1]? =some (xs[k - 1]'(by omega)):=aM _;have hy:xs[k]? =some xs[k]:=aM hk2;have hg:=Gb xs (k - 1) (by omega);have hts:(me xs).take k=(me xs).take (k - 1)++[(xs[k - 1]'(by omega),xs[k])]:=by
   grind [me,qA,dH,aM]
  have hol:out.length<=xs.length:=by
   have h1:=BJ (v9 w) (a.map sp) (b.map sp) ((me xs).take<|k - 1) [];rw[<-hI,dM,dO,qA]at h1;simp only[List.length_nil]at h1;omega
  refine WR hx<|WR hx<|IS (Dz (by omega) hN)<|IS (Dz (by omega) hN) ?_
  refine WJ (P:=λr:Z aG=>r.map sp=oh (v9 w) (a.map sp) (b.map sp) ((me xs).take k) []) (Xj (λhb=>?_)<|λhb=>?_)<|λr hr=>W4 ⟨bF (by omega),by omega,by rw[Nat.add_sub_cancel];exact hr⟩
  ·refine WR hx<|WR hy<|WJ (HO (by omega) hN)<|λr hr=>OF ?_
   rw[hr,hI,hts,D9,aH (show v9 w _ _=true from hb)];rfl
  ·refine OF ?_;rw[hI,hts,D9,aI (show ¬v9 w _ _=true by rw[ot];exact hb)]
 ·rintro⟨out,i⟩e⟨hk1,hI⟩;dsimp only at e hI ⊢;subst e;rw[CM (by omega),aQ];refine W9 ?_;rw[nc (by rw[qA];omega)]at hI;exact hI
 intro o ho;exact Xa ho (λs hs=>OF hs)<|λr hr=>hr.elim
def qQ(w:Int)(a b:Z aF)(y:Int):Z (Int×Int):=oh (v9 w) (nF a y) (nF b y) (me<|Ea (nF a y)<|nF b y) []
theorem KF(a b:Z (Int×Int)):Ends a (Ea a b)/\Ends b (Ea a b):=by
 constructor <;> intro s hs <;> constructor <;> refine HN.2<|dI.2 ?_
 ·exact .inl<|List.mem_flatMap.2 ⟨s,hs,by simp⟩
 ·exact .inl<|List.mem_flatMap.2 ⟨s,hs,by simp⟩
 ·exact .inr<|List.mem_flatMap.2 ⟨s,hs,by simp⟩
 ·exact .inr<|List.mem_flatMap.2 ⟨s,hs,by simp⟩
theorem Eb{a b:Z aF}(ha:∀r∈a,r.X0<r.X1)(hb:∀r∈b,r.X0<r.X1)(w y:Int):kB (dU<|qQ w a b y)/\∀x,kz (qQ w a b y) x=v9 w (vX a x y) (vX b x y):=by
 obtain⟨h1,h2⟩:=Kc (iX:=v9 w) (OR w) (a:=nF a y) (b:=nF b y) (xs:=Ea (nF a y)<|nF b y) (pL _) (KF _ _).1 (KF _ _).2
 grind [kz,qQ,Ak]
theorem LN(w:Int)(a b:Z aF)(y:Int):(qQ w a b y).length<=2*a.length+2*b.length:=by
 grind [BJ,v9,nF,me,Ea,HR,xn,qA,qQ,List.length_nil]
theorem KG{a b:Z aF}{w:Int}{s:Z aA}(hc:ga (s.map cQ))(hcov:∀x y,yQ (s.map cQ) x y=v9 w (vX a x y) (vX b x y))(hla:a.length<=10000000)(hlb:b.length<=10000000)
  (ha:∀r∈a,r.X0<r.X1) (hb:∀r∈b,r.X0<r.X1) (hr:(bB s).length<=1099511627776) (hN:nq N):iL N a b w=some (bB s):=by
 refine XC ?_;unfold iL;refine Xw (by grind)<|Xw (by grind) ?_
 rw[List.nil_append];refine IS (F9 (by grind) hN) ?_;have hyl:=OQ<|a++b
 rw[eP]at hyl;have hyi:=pL<|kA<|a++b
 have hmy:= @IY<|a++b
 have hma:∀r∈a,r.Y0∈mb (kA<|a++b)/\r.Y1∈mb (kA<|a++b):=λr hr=>hmy r<|List.mem_append_left _ hr
 have hmb:∀r∈b,r.Y0∈mb (kA<|a++b)/\r.Y1∈mb (kA<|a++b):=λr hr=>hmy r<|List.mem_append_right _ hr
 have hf:∀y,kB (dU<|qQ w a b y)/\(dU<|qQ w a b y).length % 2=0:=λy=>⟨(Eb ha hb w y).1,by simp[lI]⟩;have hfl:∀y,(dU<|qQ w a b y).length<=80000000:=λy=>by grind [lI,LN]
 obtain⟨b1,b2⟩:=D3 (f:=λy=>dU (qQ w a b y)) hf hyi (λt ht y h1 h2=>by grind [qQ,HQ]) (λy h=>by
  (try dsimp only);unfold qQ;rw[IX hma h,IX hmb h];rfl)
 have hsame:oj (λy=>dU<|qQ w a b y) (me<|mb<|kA<|a++b) []=s.map cQ:=xV b1 hc λx y=>by
  grind [yQ,xe,Eb]
 clear hmy hma hmb;generalize mb (kA<|a++b)=ys at *;refine WJ (Xr (n:=max 1 ys.length) (λs=>s.2) (λk st=>1<=k/\st.1.map zD=oj (λy=>dU<|qQ w a b y) ((me ys).take<|k - 1) []) (Go:=λst=>st.1.map zD=s.map cQ) (Rt:=λ_=>False) ?_ ?_ (k0:=1) (by omega) rfl ⟨cJ _,rfl⟩ (by omega)) ?_
 ·rintro k⟨out,i⟩hk e⟨hk1,hI⟩;dsimp only at e hI ⊢;subst e;have hk2:k<ys.length:=by omega
  rw[iG hk2,aP,jB hk1 (by omega)];refine XH (by omega)<|XH hk2<|XH (by omega)<|XH (by omega)<|WJ (IU (by omega) hN) λr1 hr1=>WJ (IU (by omega) hN) λr2 hr2=>?_
  have l1:r1.length<=10000000:=by grind [xn,dM]
  have l2:r2.length<=10000000:=by grind [xn,dM]
  refine WJ (OS l1 l2 hN) λr hr=>WJ (Gc hyi (f:=λy=>dU<|qQ w a b y) hfl (by omega) (by omega) hk1 hk2 hI (by(try dsimp only);rw[hr,hr1,hr2];rfl) hN) λo ho=>W4 ⟨bF (by omega),by omega,?_⟩;rw[Nat.add_sub_cancel];exact ho
 ·rintro⟨out,i⟩e⟨hk1,hI⟩;dsimp only at e hI ⊢;subst e;rw[CM (by omega),aQ];refine W9 ?_;rw[nc (by rw[qA];omega),hsame]at hI;exact hI
 intro o ho;refine Xa ho (λst hs=>?_)<|λr hr=>hr.elim
 have e:=DA hs;obtain⟨s1,s2⟩:=uA (f:=λy=>dU<|qQ w a b y) hfl (me ys) [] (λc hc=>by cases hc);refine IS (MH (l:=st.1) ?_ ?_ (by rw[e];exact hr) hN)<|OF e
 ·have:(st.1.map zD).length<=ys.length:=by rw[hs,<-hsame];have:=qA ys;simp only[List.length_nil]at s2;omega
  rw[dM]at this;omega
 ·intro b hb;have h3:=s1 (zD b) (by rw[hsame,<-hs];exact dN.2 ⟨b,hb,rfl⟩);have h4:(zD b).xs.length=2*b.kp.length:=by unfold zD;rw[lI,dM]
  omega
theorem IZ(n:Int):dF N n=some (su n):=rfl
theorem Gd{l:Z aF}(hl:l.length<=1099511627776)(hN:nq N):i7 N l=some (nR l):=by
 refine XC ?_;unfold i7 nR
 by_cases h:2000<l.length
 ·grind [bQ,OF]
 ·rw[bY (by omega),aQ,aI h];refine WJ (Xr (n:=l.length) (λs=>s) (λk s=>∀(j:Nat)x,j<k->l[j]? =some x->nC x=none) (Go:=λs=>l.findSome? nC=none) (Rt:=λr=>l.findSome? nC=some r) ?_ ?_ (cO _) rfl (λj x hj=>by omega) (by omega)) ?_
  ·rintro k i hk e hI;subst e;rw[iG hk,aP];have hx:l[k]? =some l[k]:=aM hk;have hrt:∀c,nC l[k]=some c->l.findSome? nC=some c:=λc hc=>by
    rw[List.findSome?_eq_some_iff];refine⟨l.take k,l[k],l.drop<|k+1,?_,hc,λx hx'=>?_⟩
    ·rw[List.getElem_cons_drop,List.take_append_drop]
    grind [dZ,bS,dO,List.getElem?_take_of_lt]
   refine WR hx ?_;have hb:((dF N l[k].X0).bind λx110=>bif(!x110)then some true else((dF N l[k].Y0).bind λx112=>bif(!x112)then some true else((dF N l[k].X1).bind λx114=>bif(!x114)then some true else((dF N l[k].Y1).bind λx116=>some<|!x116))))=some (!dK l[k]):=by
    rw[IZ,IZ,IZ,IZ];unfold dK
    grind
   refine IS hb<|Xj (λh1=>XJ<|hrt 1 ?_)<|λh1=>Xj (λh2=>XJ<|hrt 13 ?_)<|λh2=>W4 ⟨bF (by omega),λj x hj hjx=>?_⟩
   all_goals grind [nC]
  ·grind [W9,List.findSome?_eq_none_iff,dZ,bS]
  intro o ho;exact Xa ho (λs hs=>OF (by rw[hs];rfl))<|λr hr=>OF (by rw[hr];rfl)
theorem LO{l:Z aF}{s:Z aA}(hs:vm l s):IK l↔bB s=l:=⟨λ⟨t,h1,h2⟩=>by rw[hs.unique h1];exact h2,λh=>⟨s,hs,h⟩⟩
theorem yt{l:Z aF}(hl:l.length<=1073741824)(hN:nq N):gA N l=some (ko l):=by
 refine XC ?_;unfold gA;refine IS (Gd (by omega) hN) ?_;unfold ko;refine Xj (λh=>OF ?_)<|λh=>?_
 ·grind
 ·have h0:nR l=0:=by simpa using h
  rw[aI (by omega)];obtain⟨hlen,hok⟩:=F1 h0;have hbf:∀a b:aF,((decide (a.Y0<b.Y0)||((a.Y0==b.Y0)&&decide (a.X0<b.X0)))=true)↔¬(b.Y0<a.Y0\/(b.Y0=a.Y0/\b.X0<=a.X0)):=λa b=>by
   grind
  refine WJ (XV (Go:=λ_=>St l) (Rt:=λr=>r=8/\¬St l) (λs=>∃k:Nat,s=(k:Int)/\1<=k/\∀(j:Nat)a b,j+1<k->l[j]? =some a->l[j+1]? =some b->¬(b.Y0<a.Y0\/(b.Y0=a.Y0/\b.X0<=a.X0))) (λs=>l.length - s.toNat) ?_ ⟨1,rfl,cJ _,λj a b hj=>by omega⟩ (by simp;omega)) ?_
  ·rintro s⟨k,rfl,hk,hI⟩;refine Xj (λh=>?_)<|λh=>W9 λj a b ha hb=>hI j a b ?_ ha hb
   ·have hk2:k<l.length:=by grind
    rw[jB hk (by omega)];have hx:l[k - 1]? =some (l[k - 1]'(by omega)):=aM _;have hy:l[k]? =some l[k]:=aM hk2;refine WR hx<|WR hy ?_
    unfold jt;rw[aB];refine Xj (λhb=>XJ ⟨rfl,λhu=>?_⟩)<|λhb=>W4 ⟨⟨k+1,by grind [bF],by omega,λj a b hj ha hb'=>?_⟩,by grind [bF,cK]⟩
    ·have:=(hbf _ _).2<|hu (k - 1) _ _ hx (by rw[show k - 1+1=k by omega];exact hy)
     grind
    grind
   grind
  ·rintro o ho;refine Xa ho (λs hu=>?_)<|λr hr=>OF (by grind)
   rw[aH hu];obtain⟨s,_,hs⟩:=sJ (N:=N) (l:=l) (by omega) hok (by omega);obtain⟨z1,z2,z3⟩:=hs.Ko;have z4:2*l.length*(2*l.length)<=4000*4000:=Nat.mul_le_mul (by omega) (by omega);refine IS (yb hs.can hs.cover (by omega) (λr hr=>(hok r hr).x) (by omega) hN)<|IS (IV (by omega) hN) ?_
   grind [LO,OF,bB]
end
theorem Ge(n:Nat)(g:Nat->Nat):((List.range<|n+1).map g).sum=((List.range n).map g).sum+g n:=by
 simp[List.range_succ,eU,List.sum_append]
theorem CP:∀{xs:Z Int},kB xs->(FN xs).Pairwise (λp q=>p.2<q.1)
 | [],_=>kN
 | [a],_=>kN
 |a::b::l,h=>by
  unfold FN;rw[qD];exact⟨λq hq=>h.tail.head q.1 (IE q hq).1,CP h.tail.tail⟩
def zF(a b:aF):Prop:=a.Y1<=b.Y0\/(a.Y0=b.Y0/\a.Y1=b.Y1/\a.X1<b.X0)
theorem uB:∀{s:Z aA},ga (s.map cQ)->(bB s).Pairwise zF
 | [],_=>kN
 |b::s,h=>by
  rw[o9,List.pairwise_append];refine⟨?_,uB h.tail,λx hx y hy=>?_⟩
  ·unfold o8;rw[List.pairwise_map];exact List.Pairwise.imp (λhpq=> .inr ⟨rfl,rfl,hpq⟩)<|CP (h.each (cQ b) (by simp)).2.2.1
  ·unfold o8 at hx;obtain⟨p,_,rfl⟩:=dN.1 hx;obtain⟨c,hc,q,_,rfl⟩:=sL hy;exact .inl<|h.FG (cQ c)<|dN.2 ⟨c,hc,rfl⟩
theorem xo{s:Z aA}(h:ga (s.map cQ)):∀r∈bB s,r.X0<r.X1/\r.Y0<r.Y1:=λr hr=>by
 obtain⟨b,hb,p,hp,rfl⟩:=sL hr;have hc:=h.each (cQ b)<|dN.2 ⟨b,hb,rfl⟩
 exact⟨IF hc.2.2.1 p hp,hc.1⟩
theorem KH{s:Z aA}(h:ga (s.map cQ)):(bB s).Nodup:=by
 have h1:=uB h;have h2:=xo h;refine List.Pairwise.imp_of_mem (λ{a b}ha hb hab e=>?_) h1;subst e;have:=h2 a ha
 rcases hab with h|h <;> omega
def xp(s:Z Bd):Nat:=(s.map<|λb=>b.xs.length / 2).sum
theorem KI(s t:Z Bd):xp (s++t)=xp s+xp t:=by simp[xp,eU,List.sum_append]
theorem NC(s:Z Bd)(b:Bd):xp (kV s b)<=xp s+b.xs.length / 2:=by
 unfold kV
 grind [vk,xp,KI]
structure Wk (t:Z Bd):Prop where
 each:∀b∈t,b.y0<b.y1/\kB b.xs/\b.xs.length % 2=0
 ord:t.Pairwise (λb c=>b.y1<=c.y0)
theorem fold_push:∀(t out:Z Bd),Wk t->ga out->(∀c∈out,∀b∈t,c.y1<=b.y0)->ga (t.foldl kV out)/\xp (t.foldl kV out)<=xp out+xp t/\
  ∀y,rowAt (t.foldl kV out) y=if(∃b∈t,b.y0<=y/\y<b.y1)then rowAt t y else rowAt out y
 | [],out,_,hc,_=>⟨hc,by simp[xp],λy=>by simp⟩
 |b::t,out,hl,hc,ho=>by
  have hb:=hl.each b (by simp);have hord:=qD.1 hl.ord;have ho1:∀c∈out,c.y1<=b.y0:=λc h=>ho c h b (by simp);have h1:=z9 hc ho1 hb.2.1 hb.2.2;have htop:=Aa ho1 (show b.y0<=b.y1 by omega);obtain⟨f1,f2,f3⟩:=fold_push t (kV out b) ⟨λc hcm=>hl.each c<|jP _ hcm,hord.2⟩ h1 (λc hcm d hd=>by grind);refine⟨f1,?_,λy=>?_⟩
  ·have:=NC out b;have e:xp (b::t)=b.xs.length / 2+xp t:=by simp[xp]
   rw[List.foldl_cons,e];omega
  ·rw[List.foldl_cons,f3 y,z8 ho1 (λc hcm=>(hc.each c hcm).1)<|λh=>absurd h (by omega),o5]
   by_cases hy:b.y0<=y/\y<b.y1
   ·have hn:¬∃c∈t,c.y0<=y/\y<c.y1:=λ⟨c,hcm,h⟩=>by have:=hord.1 c hcm;omega
    rw[aI hn,aH hy,aH ⟨b,by simp,hy⟩,aH hy]
   ·rw[aI hy]
    by_cases h:∃c∈t,c.y0<=y/\y<c.y1
    ·obtain⟨c,hcm,h⟩:=h;rw[aH ⟨c,hcm,h⟩,aH ⟨c,jP _ hcm,h⟩,aI hy]
    ·rw[aI h,aI hy,aI (show ¬∃c∈b::t,c.y0<=y/\y<c.y1 from λ⟨c,hcm,h2⟩=>by
      grind)]
noncomputable def t7(C:Z aF)(b:aA):Bd:=⟨b.Y0,b.Y1,dU<|(FN b.Xs).filter<|λp=>decide<|(⟨p.1,b.Y0,p.2,b.Y1⟩:aF)∈C⟩
theorem ND{l m:Z (Int×Int)}(h:l.Sublist m):(dU l).Sublist (dU m):=by
 induction h with
 |slnil=>exact List.Sublist.refl _
 |cons a _ ih=>grind [k8]
 |cons_cons a _ ih=>grind [k8]
theorem Gf(l:Z (Int×Int)):(dU l).length % 2=0/\(dU l).length / 2=l.length:=by simp[lI]
theorem HS{s p:Z aA}{C:Z aF}(hs:ga (s.map cQ))(hp:ga (p.map cQ))(hC:∀r∈C,r∈bB s)(hcov:∀x y,yQ (p.map cQ) x y=vX C x y):(bB p).length<=C.length:=by
 have hinc:∀b∈s,kB (t7 C b).xs:=λb hb=>by
  have h1:=MC hs b hb;have h2:=ND<|List.filter_sublist (l:=FN b.Xs) (p:=λp=>decide<|(⟨p.1,b.Y0,p.2,b.Y1⟩:aF)∈C)
  rw[FO<|xk hs b hb]at h2;exact List.Pairwise.sublist h2 h1
 have hlow:Wk (s.map<|t7 C):=by
  refine⟨λb hb=>?_,?_⟩
  ·obtain⟨c,hc,rfl⟩:=dN.1 hb;exact⟨(hs.each (cQ c)<|dN.2 ⟨c,hc,rfl⟩).1,hinc c hc,(Gf _).1⟩
  ·have:=hs.ord;rw[List.pairwise_map]at this ⊢;exact List.Pairwise.imp (λh=>h.1) this
 obtain⟨f1,f2,f3⟩:=fold_push (s.map<|t7 C) [] hlow ga.nil (λc hc=>by cases hc);have hrow:∀{t:Z aA},(∀b∈t,b∈s)->∀x y,r6 (rowAt (t.map<|t7 C) y) x=true->vX C x y=true:=by
  intro t ht x y h
  induction t with
  |nil=>cases h
  |cons b t ih=>
   rw[eV,o5]at h;split at h
   ·rename_i hy;have hbm:=ht b (by simp);have h1:=hinc b hbm;have h:r6 (dU<|(FN b.Xs).filter<|λp=>decide<|(⟨p.1,b.Y0,p.2,b.Y1⟩:aF)∈C) x=true:=h;rw[xe h1,xd]at h;obtain⟨q,hq,h2⟩:=h;have hq:=lu.1 hq;exact kW.2 ⟨_,of_decide_eq_true hq.2,h2,hy⟩
   grind
 have hrow2:∀x y,vX C x y=true->r6 (rowAt (s.map<|t7 C) y) x=true:=by
  intro x y h;obtain⟨r,hr,h1,h2⟩:=kW.1 h;obtain⟨b,hb,q,hq,rfl⟩:=sL<|hC r hr
  dsimp only at h1 h2;have key:∀{t:Z aA},(∀c∈t,c∈s)->ga (t.map cQ)->b∈t->rowAt (t.map<|t7 C) y=(t7 C b).xs:=by
   intro t ht hc hbt
   induction t with
   |nil=>cases hbt
   |cons c t ih=>
    rw[eV,o5]
    by_cases hy:c.Y0<=y/\y<c.Y1
    ·rw[aH (show(t7 C c).y0<=y/\y<(t7 C c).y1 from hy)]
     rcases fJ.1 hbt with rfl|hbt
     ·rfl
     ·have:=hc.FG (cQ b)<|dN.2 ⟨b,hbt,rfl⟩
      grind [cQ]
    ·rw[aI (show ¬((t7 C c).y0<=y/\y<(t7 C c).y1)from hy)]
     rcases fJ.1 hbt with rfl|hbt
     ·exact absurd h2 hy
     ·exact ih (λd hd=>ht d<|jP _ hd) hc.tail hbt
  rw[key (λc hc=>hc) hs hb];have h1':=hinc b hb;show r6 (dU<|(FN b.Xs).filter<|λp=>decide<|(⟨p.1,b.Y0,p.2,b.Y1⟩:aF)∈C) x=true;rw[xe h1',xd];exact⟨q,lu.2 ⟨hq,bQ hr⟩,h1⟩
 have hsame:p.map cQ=(s.map<|t7 C).foldl kV []:=xV hp f1 λx y=>by
  rw[hcov,jQ];have e:rowAt ((s.map<|t7 C).foldl kV []) y=rowAt (s.map<|t7 C) y:=by
   rw[f3]
   by_cases h:∃b∈s.map (t7 C),b.y0<=y/\y<b.y1
   ·rw[aH h]
   ·rw[aI h]
    exact(nA λb hb=>by
     have:¬(b.y0<=y/\y<b.y1):=λh2=>h ⟨b,hb,h2⟩
     omega).symm
  unfold yQ;rw[e];exact⟨hrow2 x y,hrow (λb hb=>hb) x y⟩
 have hc1:(bB p).length=xp (p.map cQ):=by
  have:∀p:Z aA,(bB p).length=xp (p.map cQ):=λp=>by
   induction p with
   |nil=>rfl
   |cons b p ih=>rw[o9,eP,sK,ih];unfold xp;rw[eV,eV,List.sum_cons];rfl
  exact this p
 have hc2:∀s:Z aA,xp (s.map<|t7 C)=((bB s).filter<|λr=>decide<|r∈C).length:=λs=>by
  induction s with
  |nil=>rfl
  |cons b s ih=>
   rw[o9,sR,eP,<-ih];unfold xp;rw[eV,eV,List.sum_cons];congr 1;show(dU _).length / 2=_;rw[(Gf _).2];unfold o8;rw[List.filter_map,dM];rfl
 have hc3:((bB s).filter<|λr=>decide<|r∈C).length<=C.length:=gM (List.Nodup.sublist List.filter_sublist<|KH hs) λr hr=>of_decide_eq_true (lu.1 hr).2;rw[hc1,hsame];have e0:xp ([]:Z Bd)=0:=rfl;have:=hc2 s;omega
section
variable {N:Nat}
theorem A4{all:Z aF}(w:aF->Nat):∀(c:Z Nat),((c.filterMap<|λi=>all[i]?).map w).sum=(c.map<|λi=>(all[i]?).elim 0 w).sum
 | []=>rfl
 |i::c=>by
  rw[eV,List.sum_cons,<-A4 w c]
  cases h:all[i]? with
  |none=>rw[List.filterMap_cons_none (f:=λi=>all[i]?) h];simp
  |some x=>rw[List.filterMap_cons_some (f:=λi=>all[i]?) h,eV,List.sum_cons];rfl
theorem Qc{all:Z aF}{u:Nat->Nat}(h:∀i,i<all.length->u i∈bW all.length u)(w:aF->Nat):((bW all.length u).map<|λk=>((pd all all.length u k).map w).sum).sum=(all.map w).sum:=by
 have e:(λk=>((pd all all.length u k).map w).sum)=λk=>(((List.range all.length).filter<|λx=>decide<|u x=k).map<|λi=>(all[i]?).elim 0 w).sum:=by
  funext k;unfold pd;rw[A4];rfl
 rw[e,Kz (na _ _) u _<|λx hx=>h x<|nb.1 hx];have:∀m,m<=all.length->((List.range m).map<|λi=>(all[i]?).elim 0 w).sum=((all.take m).map w).sum:=by
  intro m
  induction m with
  |zero=>intro _;rfl
  |succ m ih=>
   grind [Ge,dH,aM]
 grind
theorem Gg:∀{l m:Z Nat},l.length=m.length->(∀(j x y:Nat),l[j]? =some x->m[j]? =some y->x<=y)->l.sum<=m.sum
 | [],[],_,_=>cJ _
 | [],_::_,h,_=>by simp at h
 |_::_,[],h,_=>by simp at h
 |a::l,b::m,h,hle=>by
  have h1:=hle 0 a b rfl rfl;have h2:=Gg (l:=l) (m:=m) (by simpa using h) λj x y hx hy=>hle (j+1) x y (by grind) (by grind);rw[List.sum_cons,List.sum_cons];omega
theorem MI{r hs:Z aF}{s:Z aA}(h1:∀x∈r,dK x=true)(h2:∀x∈hs,dK x=true)(hc:ga (s.map cQ))(hl:BQ (xf r++xf hs) (kA r++kA hs) (s.map cQ)):∀q∈bB s,dK q=true/\q.X0<q.X1/\q.Y0<q.Y1:=by
 intro q hq;have hp:=xo hc q hq;obtain⟨b,hb,p,hpm,rfl⟩:=sL hq;have hll:=hl (cQ b)<|dN.2 ⟨b,hb,rfl⟩
 have hm:=IE p hpm;have bx:∀c∈xf r++xf hs,-1000000<=c/\c<=1000000:=λc hcm=>by
  rcases dI.1 hcm with h|h
  ·obtain⟨x,hx,h⟩:=xg.1 h;have:=jG<|h1 x hx
   omega
  ·obtain⟨x,hx,h⟩:=xg.1 h;have:=jG<|h2 x hx
   omega
 have by':∀c∈kA r++kA hs,-1000000<=c/\c<=1000000:=λc hcm=>by
  rcases dI.1 hcm with h|h
  ·obtain⟨x,hx,h⟩:=o7.1 h;have:=jG<|h1 x hx
   omega
  ·obtain⟨x,hx,h⟩:=o7.1 h;have:=jG<|h2 x hx
   omega
 have g1:=bx _<|hll.2.2 p.1 hm.1
 have g2:=bx _<|hll.2.2 p.2 hm.2
 have g3:=by' _ hll.1
 have g4:=by' _ hll.2.1
 exact⟨F0 ⟨g1,g3,g2,g4⟩,hp⟩
structure tS (r hs:Z aF) (s:Z aA) (u:Nat->Nat) (ps:Z (Z aA)):Prop where
 r1:∀x∈r,dK x=true
 r2:∀x∈hs,dK x=true
 k1:∀x∈r,GL x
 k2:∀x∈hs,GL x
 dr:xY r hs s
 pt:vY s u ps
 yO:(bB s).length<=2000
theorem tS.part{r hs:Z aF}{s:Z aA}{u:Nat->Nat}{ps:Z (Z aA)}(h:tS r hs s u ps){p:Z aA}(hp:p∈ps):ga (p.map cQ)/\(bB p).length<=2000/\∀q∈bB p,dK q=true/\q.X0<q.X1/\q.Y0<q.Y1:=by
 obtain⟨sx,sy⟩:=h.dr.small h.k1 h.k2;obtain⟨j,k,g1,g2,g3,g4⟩:=F4 h.pt h.dr.can h.dr.FM sx sy hp
 have:=HS h.dr.can g3.can (λx hx=>by
  grind [mZ,gl]) g3.cover
 have h2:=FX (bB s) (bB s).length u k;have:=h.yO;exact⟨g3.can,by omega,MI h.r1 h.r2 g3.can g4⟩
theorem tS.bW{r hs:Z aF}{s:Z aA}{u:Nat->Nat}{ps:Z (Z aA)}(h:tS r hs s u ps):∀i,i<(bB s).length->u i∈Gk.bW (bB s).length u:=λi hi=>iP.2 ⟨by have:=h.pt.join.le i hi;omega,h.pt.join.rr i hi⟩
theorem tS.total{r hs:Z aF}{s:Z aA}{u:Nat->Nat}{ps:Z (Z aA)}(h:tS r hs s u ps):(ps.map<|λp=>(bB p).length).sum<=(bB s).length:=by
 have h1:=Qc h.bW<|λ_=>1
 have one:∀l:Z aF,(l.map<|λ_=>1).sum=l.length:=λl=>by
  induction l with
  |nil=>rfl
  |cons x l ih=>grind
 simp only[one]at h1;rw[<-h1];refine Gg (by simp[h.pt.len]) λj x y hx hy=>?_;rw[gE,sQ]at hx hy;obtain⟨p,hp,rfl⟩:=hx;obtain⟨k,hk,rfl⟩:=hy;have hs:=h.pt.each j k p hk hp
 exact HS h.dr.can hs.can (λx hx=>by
  grind [mZ,gl]) hs.cover
theorem Ec{ps:Z (Z aA)}{x y:Int}:vX (ps.flatMap bB) x y=true↔∃p∈ps,vX (bB p) x y=true:=by
 grind [kW]
theorem tS.cover{r hs:Z aF}{s:Z aA}{u:Nat->Nat}{ps:Z (Z aA)}(h:tS r hs s u ps)(x y:Int):vX (ps.flatMap bB) x y=yQ (s.map cQ) x y:=by
 rw[<-rn h.dr.can,jQ,Ec];constructor
 ·rintro⟨p,hp,hc⟩;obtain⟨j,hj⟩:=dZ hp;have hjl:=(bS.1 hj).1;have hk:(Gk.bW (bB s).length u)[j]? =some ((Gk.bW (bB s).length u)[j]'(by rw[<-h.pt.len];exact hjl)):=aM _;have hs:=h.pt.each j _ _ hk hj;rw[rn hs.can,hs.cover]at hc
  grind [kW,mZ,gl]
 ·intro hc;obtain⟨q,hq,h2⟩:=kW.1 hc;obtain⟨i,hi⟩:=dZ hq;have hil:=(bS.1 hi).1;obtain⟨j,hj⟩:=dZ<|h.bW i hil
  have hjl:j<ps.length:=by rw[h.pt.len];grind
  have hs:=h.pt.each j _ _ hj<|aM hjl
  refine⟨_,cH hjl,?_⟩;rw[rn hs.can,hs.cover]
  grind [kW,mZ]
section
variable {a:gZ}{ka:Z (Z aA)}{cI:Z (Z (Z aA))}{r:Nat->Nat}{gs:Z bZ}{ofP ofB fK:Z Int}{fG:Z eB}
theorem Ed(b:iF a ka cI r gs ofP ofB fK fG){i:Nat}(hi:i<a.aL.length):∃s ps u,ka[i]? =some s/\cI[i]? =some ps/\tS a.aL[i] (lW a.aN (i:Int)) s u ps:=by
 have hd:ka[i]? =some (ka[i]'(by rw[b.dr.len];exact hi)):=aM _;have hp:cI[i]? =some (cI[i]'(by rw[b.dr.Dv];exact hi)):=aM _;have hdr:=b.dr.dr i _ _ hi (aM hi) hd;obtain⟨u,hu⟩:=b.dr.pt i _ _ hi hd hp;have hreg:=tC.1<|b.zB.V7 _<|cH hi
 exact⟨_,_,u,hd,hp,λx hx=>((wA.1 hreg.1).2 x hx).1,λx hx=>(vq b.zB.gb _ x hx).2,(F1 hreg.1).2,λx hx=>(vq b.zB.gb _ x hx).1,hdr,hu,b.yO.1 _<|gl hd⟩
end
end
def Gh(a b:aF):Prop:=(0<min a.X1 b.X1 - max a.X0 b.X0/\0<=min a.Y1 b.Y1 - max a.Y0 b.Y0)\/(0<=min a.X1 b.X1 - max a.X0 b.X0/\0<min a.Y1 b.Y1 - max a.Y0 b.Y0)
theorem NF{all:Z aF}(hB:all.Pairwise zF)(hp:∀r∈all,r.X0<r.X1/\r.Y0<r.Y1){i j:Nat}{a c:aF}(ha:all[i]? =some a)(hc:all[j]? =some c):Gh a c↔i=j\/CW all i j\/CW all j i:=by
 have h1:CW all i j↔II a c:=⟨λ⟨a',c',e1,e2,h⟩=>by grind,λh=>⟨a,c,ha,hc,h⟩⟩;have h2:CW all j i↔II c a:=⟨λ⟨a',c',e1,e2,h⟩=>by grind,λh=>⟨c,a,hc,ha,h⟩⟩
 grind [gl,bS,Gh,II,Nat.lt_trichotomy,ox,zF]
theorem DB{α:Type}{q q':Z α}(h:q <+:q'){t:Nat}{x:α}(hx:q[t]? =some x):q'[t]? =some x:=by
 obtain⟨r,rfl⟩:=h
 grind
def yc(f:Int->Int->Bool)(x y:Int):Prop:=f x y=true/\∀x' y',f x' y'=true->y<y'\/(y=y'/\x<=x')
theorem yc.unique{f:Int->Int->Bool}{x y x' y':Int}(h:yc f x y)(h':yc f x' y'):x=x'/\y=y':=by
 have h1:=h.2 _ _ h'.1;have h2:=h'.2 _ _ h.1;omega
theorem LP{a:aF}{l:Z aF}(hp:∀r∈a::l,r.X0<r.X1/\r.Y0<r.Y1)(hB:∀r∈l,zF a r):yc (vX<|a::l) a.X0 a.Y0:=by
 have pa:=hp a (by simp);refine⟨kW.2 ⟨a,by simp,by omega,by omega⟩,λx' y' h=>?_⟩
 grind [kW,zF]
theorem LQ{s:Z aA}(hc:ga (s.map cQ))(hne:s≠[]):∃r t,bB s=r::t/\yc (λx y=>yQ (s.map cQ) x y) r.X0 r.Y0/\MG s= ⟨r.X0,r.Y0⟩:=by
 cases s with
 |nil=>grind
 |cons b s=>
  have hx:=hc.each (cQ b) (by simp);have hxs:b.Xs≠[]:=hx.2.1;have he:b.Xs.length % 2=0:=hx.2.2.2;obtain⟨x0,x1,xs,e⟩:∃x0 x1 xs,b.Xs=x0::x1::xs:=by
   match hb:b.Xs with
   | []=>grind
   | [x0]=>grind
   |x0::x1::xs=>simp
  have hr:bB (b::s)= ⟨x0,b.Y0,x1,b.Y1⟩::((FN xs).map (λp=>(⟨p.1,b.Y0,p.2,b.Y1⟩:aF))++bB s):=by
   rw[o9];unfold o8;rw[e];rfl
  have hB:=uB hc;have hpos:=xo hc;rw[hr]at hB hpos;refine⟨_,_,hr,?_,by grind [MG]⟩;have:=LP hpos (qD.1 hB).1;rw[<-hr]at this;refine⟨?_,λx' y' h=>this.2 x' y' ?_⟩
  ·show yQ _ _ _=true;rw[<-rn hc];exact this.1
  grind [rn]
theorem HT{all:Z aF}{u:Nat->Nat}(hB:all.Pairwise zF)(hp:∀r∈all,r.X0<r.X1/\r.Y0<r.Y1)(hJ:Joined all u){h:Nat}{a:aF}(ha:all[h]? =some a)(hu:u h=h):yc (vX<|pd all all.length u h) a.X0 a.Y0:=by
 obtain⟨hl,e⟩:=bS.1 ha;have pa:=hp a<|gl ha
 refine⟨kW.2 ⟨a,mZ.2 ⟨h,hl,hu,ha⟩,by omega,by omega⟩,λx' y' hc=>?_⟩;obtain⟨r,hr,hx,hy⟩:=kW.1 hc;obtain⟨k,hk,huk,hrk⟩:=mZ.1 hr;have hle:=hJ.le k hk
 grind [bS,ox,zF]
theorem yd{u:Nat->Nat}:∀(d i:Nat),∃t,bW (i+d) u=bW i u++t
 | 0,i=>⟨[],by simp⟩
 |d+1,i=>by
  obtain⟨t,ht⟩:=yd (u:=u) d i;rw[<-Nat.add_assoc,iE,ht];split
  ·exact⟨t++[i+d],by simp⟩
  ·exact⟨t,rfl⟩
theorem OT{u:Nat->Nat}{i n:Nat}(hi:i<n)(hu:u i=i):(bW n u)[(bW i u).length]? =some i:=by
 obtain⟨t,ht⟩:=yd (u:=u) (n -(i+1))<|i+1
 rw[show i+1+(n -(i+1))=n by omega]at ht
 grind [iE]
section
variable {N:Nat}
theorem NG{a b:aF}(ha:GL a)(hb:GL b):j5 N a b=some (decide<|Gh a b):=by
 have a1:=ha.s1;have a2:=ha.s2;have a3:=ha.s3;have a4:=ha.s4;have b1:=hb.s1;have b2:=hb.s2;have b3:=hb.s3;have b4:=hb.s4;unfold small at a1 a2 a3 a4 b1 b2 b3 b4;unfold j5;rw[Aj,Aj,s9,s9,gF (x:=min a.X1 b.X1 - max a.X0 b.X0) (by omega) (by omega),gF (x:=min a.Y1 b.Y1 - max a.Y0 b.Y0) (by omega) (by omega)]
 grind [Gh,gt_iff_lt,ge_iff_le]
theorem insert_eq{l:Z (Z aF)}{r0:aF}{t:Z aF}(hl:l.length<=1000000)(hN:nq N)(h:∀x,l[l.length - 1]? =some x->∃x0 t',x=x0::t'/\¬(r0.Y0<x0.Y0\/(r0.Y0=x0.Y0/\r0.X0<x0.X0))):kG N l (r0::t)=some (l++[r0::t]):=by
 refine XC ?_;unfold kG;refine WJ (XV (Go:=λs=>s=(l.length:Int)) (Rt:=λ_=>False) (λs=>s=(l.length:Int)) (λs=>0) ?_ rfl (by omega)) ?_
 ·rintro s rfl
  by_cases h0:l.length=0
  ·grind [bY,aB,W9]
  ·rw[bQ (by omega),aP,jB (by omega) (by omega)];have hx:l[l.length - 1]? =some (l[l.length - 1]'(by omega)):=aM _;obtain⟨x0,t',e,hn⟩:=h _ hx;have i1:idx (r0::t) 0=some r0:=rfl;have i2:idx (l[l.length - 1]'(by omega)) 0=some x0:=by rw[e];rfl
   rw[i1,aB,cB hx,aB,i2,aB]
   grind [jt,aB,decide,W9]
 intro o ho;refine Xa ho ?_<|λr hr=>hr.elim
 rintro s rfl;refine IS (uX l l.length<|cJ _)<|Xw ?_<|Xw ?_<|IS (tm l l.length<|cJ _)<|Xw ?_<|OF ?_
 all_goals grind
structure BI (all:Z aF) (u:Nat->Nat) (i:Nat) (q:Z Nat) (done:Z Bool) (own:Z aF):Prop where
 len:done.length=all.length
 nd:q.Nodup
 lt:∀k∈q,k<all.length/\u k=i
 hd:i∈q
 dn:∀k,k<all.length->done[k]? =some (decide<|u k<i\/k∈q)
 ow:own.map some=q.map (λk=>all[k]?)
theorem BI.UD{all:Z aF}{u:Nat->Nat}{i:Nat}{q:Z Nat}{done:Z Bool}{own:Z aF}(h:BI all u i q done own):own.length=q.length:=by
 have:=congrArg List.length h.ow
 grind
theorem BI.yO{all:Z aF}{u:Nat->Nat}{i:Nat}{q:Z Nat}{done:Z Bool}{own:Z aF}(h:BI all u i q done own):q.length<=all.length:=by
 have:=gM h.nd (m:=List.range all.length) (λk hk=>by rw[nb];exact(h.lt k hk).1)
 grind
theorem BI.at_{all:Z aF}{u:Nat->Nat}{i:Nat}{q:Z Nat}{done:Z Bool}{own:Z aF}(h:BI all u i q done own){p k:Nat}(hk:q[p]? =some k):own[p]? =all[k]? :=by
 have e:=congrArg (λl=>l[p]?) h.ow
 grind
theorem BI.mem{all:Z aF}{u:Nat->Nat}{i:Nat}{q:Z Nat}{done:Z Bool}{own:Z aF}(h:BI all u i q done own){r:aF}:r∈own↔∃k∈q,all[k]? =some r:=by
 have:r∈own↔some r∈own.map some:=by simp
 rw[this,h.ow,dN]
theorem KJ{s:Z aA}{u:Nat->Nat}{ps:Z (Z aA)}(hc:ga (s.map cQ))(hP:vY s u ps)(hn:(bB s).length<=2000)(hok:∀r∈bB s,GL r)(hps:∀p∈ps,(bB p).length<=2000)(hN:nq N):
  gH N (bB s)=some (ps.map bB):=by
 refine XC ?_;have hB:=uB hc;have hpos:=xo hc;have hJ:=hP.join;have hlen:=hP.len;have heach:=hP.each;clear hP hc;generalize bB s=all at *;unfold gH;refine IS (pI false (by omega)) ?_;have hadj:∀a b,(CW all a b\/CW all b a)->u a=u b:=λa b h=>h.elim (λh=>hJ.co a b h)<|λh=>(hJ.co b a h).symm
 refine WJ (Xr (n:=all.length) (λst=>st.2.2) (λi st=>st.1.length=all.length/\(∀k,k<all.length->st.1[k]? =some (decide (u k<i)))/\st.2.1=(ps.take (bW i u).length).map bB) (Go:=λst=>st.2.1=ps.map bB) (Rt:=λ_=>False) ?_ ?_ (cO _) rfl
  ⟨by simp,λk hk=>by simp[hk],by simp[bW]⟩ (by omega)) ?_
 ·rintro i⟨done,out,ii⟩hi e⟨hdl,hdn,hout⟩;dsimp only at e hdl hdn hout ⊢;subst e;rw[iG hi,aP];refine WR (hdn i hi)<|Xj (λhb=>?_)<|λhb=>?_
  ·have hlt:u i<i:=of_decide_eq_true hb;refine W4 ⟨bF (by omega),hdl,λk hk=>?_,?_⟩
   ·rw[hdn k hk];congr 1;rw[decide_eq_decide];have hne:u k≠i:=λe=>by have:=hJ.rr k hk;grind
    omega
   grind [iE]
  ·have hge:¬u i<i:=of_decide_eq_false hb;have hui:u i=i:=by have:=hJ.le i hi;omega
   have hx:all[i]? =some all[i]:=aM hi;refine WR (hdn i hi)<|WR hx ?_
   refine WJ (XV (Go:=λst=>st.1.length=all.length/\(∀k,k<all.length->st.1[k]? =some (decide (u k<i+1)))/\(∀r,r∈st.2.1↔r∈pd all all.length u i)/\st.2.1.length<=all.length) (Rt:=λ_=>False)
    (λst=>∃(q:Z Nat)(t:Nat),st.2.2=((t:Nat):Int)/\t<=q.length/\BI all u i q st.1 st.2.1/\∀(p k j:Nat),p<t->q[p]? =some k->j<all.length->(CW all k j\/CW all j k)->j∈q)
    (λst=>all.length+1 - st.2.2.toNat) ?_ ⟨[i],0,rfl,by simp,?_,λp k j hp=>by omega⟩ (by simp;omega)) ?_
   ·rintro⟨d1,o1,t'⟩⟨q,t,e,ht,hI,hcl⟩;dsimp only at e hI ⊢;subst e;have hql:=hI.yO;have hol:=hI.UD
    by_cases hlt:t<q.length
    ·rw[iG (by omega:t<o1.length),aP];have hqt:q[t]? =some q[t]:=aM hlt;have hkt:=hI.lt _<|cH hlt
     have hya:all[q[t]]? =some all[q[t]]:=aM hkt.1
     refine WJ (Xr (n:=all.length) (λst=>st.2.2) (λj st=>∃q',q <+:q'/\BI all u i q' st.1 st.2.1/\∀j',j'<j->(CW all q[t] j'\/CW all j' q[t])->j'∈q')
      (Go:=λst=>∃q',q <+:q'/\BI all u i q' st.1 st.2.1/\∀j',j'<all.length->(CW all q[t] j'\/CW all j' q[t])->j'∈q') (Rt:=λ_=>False) ?_ ?_ (cO _) rfl ⟨q,List.prefix_refl _,hI,λj' hj=>by omega⟩ (by omega)) ?_
     ·rintro j⟨d2,o2,jj⟩hj e⟨q',hpre,hI',hc'⟩;dsimp only at e hI' ⊢;subst e;rw[iG hj,aP];have hq't:q'[t]? =some q[t]:=by rw[DB hpre hqt]
      have hy2:o2[t]? =some all[q[t]]:=by rw[hI'.at_ hq't];exact hya
      have hz:all[j]? =some all[j]:=aM hj;have htc:=NF hB hpos hya hz;have hcond:((idx d2 ((j:Nat):Int)).bind λx1054=>bif(!x1054)then((idx o2 ((t:Nat):Int)).bind λx1056=>(idx all ((j:Nat):Int)).bind λx1058=>(j5 N x1056 x1058).bind λx1061=>some x1061)else some false)=some (!decide (u j<i\/j∈q')&&decide (Gh all[q[t]] all[j])):=by
       rw[cB<|hI'.dn j hj,aB]
       cases decide (u j<i\/j∈q')with
       |true=>rfl
       |false=>rw[jH,aP,cB hy2,aB,cB hz,aB,NG (hok _ (cH hkt.1)) (hok _ (cH hj)),aB,Bool.true_and]
      refine IS hcond ?_;refine WJ (P:=λst:Z Bool×Z aF=>∃q',q <+:q'/\BI all u i q' st.1 st.2/\∀j',j'<j+1->(CW all q[t] j'\/CW all j' q[t])->j'∈q') (Xj (λhb=>?_)<|λhb=>?_)<|λst hst=>W4 ⟨bF (by omega),hst⟩
      ·rw[dD,Bool.not_eq_true',decide_eq_false_iff_not,dR]at hb;have hju:u j=i:=by
        rcases htc.1 hb.2 with h|h
        ·rw[<-h];exact hkt.2
        ·rw[<-hadj _ _ h];exact hkt.2
       have hjq:j∉q':=λh=>hb.1<|.inr h
       have hol2:=hI'.UD;have hql2:=hI'.yO;refine WR (hI'.dn j hj)<|WR hz<|Xw (by simp only[dX,List.length_nil];omega)<|OF ⟨q'++[j],hpre.trans<|List.prefix_append _ _,⟨?_,?_,?_,?_,?_,?_⟩,?_⟩
       ·rw[iU];exact hI'.len
       ·rw[List.nodup_append];exact⟨hI'.nd,by simp,λa ha b hb=>by simp at hb;subst hb;exact λe=>hjq<|e▸ha⟩
       ·intro k hk
        rcases dI.1 hk with hk|hk
        ·exact hI'.lt k hk
        ·simp at hk;subst hk;exact⟨hj,hju⟩
       ·exact List.mem_append_left _ hI'.hd
       ·intro k hk;rw[cK,lZ]
        by_cases e:j=k
        ·subst e;rw[aH rfl,aH (by rw[hI'.len];exact hj)];congr 1;exact(bQ<|.inr (by simp)).symm
        ·rw[aI e,hI'.dn k hk];congr 1;rw[decide_eq_decide,dI];simp only[lY];constructor
         ·exact λh=>h.elim .inl<|λh=> .inr<|.inl h
         ·exact λh=>h.elim .inl<|λh=>h.elim .inr<|λh=>absurd h.symm e
       ·rw[eU,eU,hI'.ow];simp[hz]
       ·intro j' hj' ha
        by_cases e:j'=j
        ·subst e;simp
        ·exact List.mem_append_left _<|hc' j' (by omega) ha
      ·refine OF ⟨q',hpre,hI',λj' hj' ha=>?_⟩
       by_cases e:j'=j
       ·subst e;have hj2:u j'=i:=by rw[<-hadj _ _ ha];exact hkt.2
        rw[bQ<|htc.2<|.inr ha,Bool.and_true,Bool.not_eq_false',dR]at hb
        rcases hb with hb|hb
        ·omega
        ·exact hb
       ·exact hc' j' (by omega) ha
     ·rintro⟨d2,o2,jj⟩e hI2;dsimp only at e hI2 ⊢;subst e;rw[lL,aQ];exact W9 hI2
     intro o ho;refine Xa ho ?_<|λr hr=>hr.elim
     rintro⟨d2,o2,jj⟩⟨q',hpre,hI',hc'⟩;dsimp only at hI' ⊢;refine W4 ⟨⟨q',t+1,bF (by omega),?_,hI',λp k j hp hk hj ha=>?_⟩,?_⟩
     ·have:=hpre.length_le;omega
     ·by_cases e:p=t
      ·subst e;rw[DB hpre hqt]at hk;injection hk with hk;subst hk
       exact hc' j hj ha
      ·have hpq:q[p]? =some (q[p]'(by omega)):=aM _;rw[DB hpre hpq]at hk;injection hk with hk;subst hk
       exact hpre.subset<|hcl p _ j (by omega) hpq hj ha
     ·rw[bF (by omega)];simp only[cK];omega
    ·rw[CM (by omega:o1.length<=t),aQ];have htq:t=q.length:=by omega
     have hcls:∀k,k<all.length->(k∈q↔u k=i):=λk hk=>⟨λh=>(hI.lt k h).2,λh=>by
      have hstep:∀a b,CW all a b->(a∈q↔b∈q):=λa b hab=>by
       have hab':=hab;obtain⟨ra,rb,e1,e2,_⟩:=hab';have hla:=(bS.1 e1).1;have hlb:=(bS.1 e2).1;constructor
       ·intro h';obtain⟨p,hp⟩:=dZ h';exact hcl p a b (by rw[htq];exact(bS.1 hp).1) hp hlb<|.inl hab
       ·intro h';obtain⟨p,hp⟩:=dZ h';exact hcl p b a (by rw[htq];exact(bS.1 hp).1) hp hla<|.inr hab
      exact hJ.fi (λk=>k∈q) hstep i k hi hk (by rw[hui,h]) hI.hd⟩
     refine W9 ⟨hI.len,λk hk=>?_,λr=>?_,by rw[hol];exact hql⟩
     ·rw[hI.dn k hk];congr 1;rw[decide_eq_decide,hcls k hk];omega
     ·rw[hI.mem,mZ];constructor
      ·rintro⟨k,hk,h⟩;exact⟨k,(hI.lt k hk).1,(hI.lt k hk).2,h⟩
      ·rintro⟨k,hk,h1,h2⟩;exact⟨k,(hcls k hk).2 h1,h2⟩
   ·refine⟨by rw[iU];exact hdl,by simp,λk hk=>by simp at hk;subst hk;exact⟨hi,hui⟩,by simp,λk hk=>?_,by simp[hx]⟩;rw[cK,lZ]
    by_cases e:i=k
    ·subst e;rw[aH rfl,aH (by rw[hdl];exact hi)];congr 1;exact(bQ<|.inr (by simp)).symm
    ·rw[aI e,hdn k hk];congr 1;rw[decide_eq_decide];simp only[lY];omega
   intro o ho;refine Xa ho ?_<|λr hr=>hr.elim
   rintro⟨d1,o1,t'⟩⟨g1,g2,g3,g4⟩;dsimp only at g1 g2 g3 g4 ⊢;have hh:=OT hi hui;have hml:(bW i u).length<ps.length:=by rw[hlen];exact(bS.1 hh).1
   have hpp:ps[(bW i u).length]? =some ps[(bW i u).length]:=aM hml;have ph:=heach _ _ _ hh hpp;have hcov:∀x y,yQ (ps[(bW i u).length].map cQ) x y=vX o1 x y:=λx y=>by rw[ph.cover];exact(P5 g3 x y).symm
   have hpl:=hps _<|cH hml
   refine IS (yb ph.can hcov (by omega) (λr hr=>?_) (by omega) hN) ?_
   ·obtain⟨k,_,_,hk⟩:=mZ.1<|(g3 r).1 hr
    exact(hpos r<|gl hk).1
   have hfirst:∀(j h:Nat)p,(bW all.length u)[j]? =some h->ps[j]? =some p->∃r t a,bB p=r::t/\all[h]? =some a/\r.X0=a.X0/\r.Y0=a.Y0:=λj h p hj hp=>by
    have hs:=heach j h p hj hp;obtain⟨hhl,hhu⟩:=iP.1<|gl hj
    have ha:all[h]? =some all[h]:=aM hhl;have hne:p≠[]:=λe=>by
     have hL:=(HT hB hpos hJ ha hhu).1;rw[<-hs.cover,e]at hL
     cases hL
    obtain⟨r,t,e1,e2,_⟩:=LQ hs.can hne;have e2':yc (vX<|pd all all.length u h) r.X0 r.Y0:=⟨by rw[<-hs.cover];exact e2.1,λx' y' hxy=>e2.2 x' y' (by simp only;rw[hs.cover];exact hxy)⟩;obtain⟨e3,e4⟩:=e2'.unique<|HT hB hpos hJ ha hhu
    exact⟨r,t,all[h],e1,ha,e3,e4⟩
   obtain⟨r,t,a,e1,e2,e3,e4⟩:=hfirst _ _ _ hh hpp;have hheads:(bW i u).length<=i:=mj i u;rw[e1];refine IS (insert_eq (by rw[hout,dM,dO];omega) hN<|λx hxl=>?_)<|W4 ⟨bF (by omega),g1,g2,?_⟩
   ·have hol:out.length=(bW i u).length:=by rw[hout,dM,dO];omega
    have hpos2:0<(bW i u).length:=by
     have:=(bS.1 hxl).1;omega
    rw[hout,gE,dM,dO,show min (bW i u).length ps.length=(bW i u).length by omega,List.getElem?_take_of_lt (by omega)]at hxl;have hp2:ps[(bW i u).length - 1]? =some (ps[(bW i u).length - 1]'(by omega)):=aM _;rw[hp2]at hxl;injection hxl with hxl
    have hh2:(bW i u)[(bW i u).length - 1]? =some ((bW i u)[(bW i u).length - 1]'(by omega)):=aM _;have hm2:=iP.1<|gl hh2
    obtain⟨tl,htl⟩:=yd (u:=u) (all.length - i) i;rw[show i+(all.length - i)=all.length by omega]at htl;have hh3:(bW all.length u)[(bW i u).length - 1]? =some ((bW i u)[(bW i u).length - 1]'(by omega)):=by rw[htl,kM (by omega)];exact hh2
    obtain⟨r',t',a',f1,f2,f3,f4⟩:=hfirst _ _ _ hh3 hp2;refine⟨r',t',by rw[<-hxl];exact f1,?_⟩;obtain⟨l1,q1⟩:=bS.1 f2;obtain⟨l2,q2⟩:=bS.1 e2;have hbh:=ox.1 hB _ _ l1 l2 hm2.1;rw[q1,q2]at hbh;have p1:=hpos a'<|gl f2
    unfold zF at hbh;rw[e3,e4,f3,f4];omega
   ·dsimp only;rw[iE,aH hui,eP,hout];simp only[dX,List.length_nil];rw[dH hml,eU,eV,List.map_nil,e1]
 ·rintro⟨done,out,ii⟩e⟨_,_,hout⟩;dsimp only at e hout ⊢;subst e;rw[lL,aQ];refine W9 ?_;dsimp only;rw[hout,nc (by rw[hlen];omega)]
 intro o ho;exact Xa ho (λs hs=>OF hs)<|λr hr=>hr.elim
end
section
variable {α β:Type}
theorem OU{N:Nat}{l:Z α}{s:β}{φ:α->β->aT Int}(c:α->Int)(hφ:∀x,φ x s=some (c x))(hs:∀(i j:Nat)(x y:α),i<j->l[i]? =some x->l[j]? =some y->0<=c x->0<c y)
  (hl:l.length<=1048576) (hN:4194304<=N):∃r,Oo N l s φ=some r/\r.2=l.any (λx=>c x==0)/\(r.2=true->r.1=Nd l (λx=>c x==0)):=by
 show Ok (Oo N l s φ) (λr=>r.2=l.any (λx=>c x==0)/\(r.2=true->r.1=Nd l (λx=>c x==0)));unfold Oo
 refine WJ (XV (Go:=λst:Int×Int=>∃a:Nat,st.1=(a:Int)/\a<=l.length/\(∀j x,j<a->l[j]? =some x->c x<0)/\(∀j x,a<=j->l[j]? =some x->0<=c x)) (Rt:=λ_=>True)
  (λst=>∃a b:Nat,st=((a:Int),(b:Int))/\a<=b/\b<=l.length/\(∀j x,j<a->l[j]? =some x->c x<0)/\(∀j x,b<=j->l[j]? =some x->0<=c x))
  (λst=>(st.2 - st.1).toNat) ?_ ⟨0,l.length,rfl,by omega,cJ _,λj x hj=>by omega,λj x hj hx=>by grind⟩ (by omega)) ?_
 ·rintro st⟨a,b,rfl,hab,hb,h1,h2⟩;dsimp only
  by_cases hlt:a<b
  ·have hm:(a+b) / 2<l.length:=by omega
   have hx:l[(a+b) / 2]? =some l[(a+b) / 2]:=aM hm;rw[show decide ((a:Int)<(b:Int))=true by grind,aP,Nf hlt (by omega)];refine WR hx<|IS (hφ _) ?_
   by_cases hc:c l[(a+b) / 2]<0
   ·rw[bQ hc,aP,aB];refine W4 ⟨⟨(a+b) / 2+1,b,?_,by omega,hb,λj x hj hx'=>?_,h2⟩,?_⟩
    ·rw[bF (by omega)]
    ·by_cases e:j=(a+b) / 2
     ·subst e;rw[hx]at hx';injection hx' with hx';rw[<-hx'];exact hc
     ·by_cases h0:c x<0
      ·exact h0
      ·have:=hs j _ x _ (by omega) hx' hx (by omega);omega
    ·rw[bF (by omega)];simp only;omega
   ·rw[bY hc,aQ,aB];refine W4 ⟨⟨a,(a+b) / 2,rfl,by omega,by omega,h1,λj x hj hx'=>?_⟩,by simp only;omega⟩
    by_cases e:j=(a+b) / 2
    ·subst e;rw[hx]at hx';injection hx' with hx';rw[<-hx'];omega
    ·have:=hs _ j _ x (by omega) hx hx' (by omega);omega
  ·rw[show decide ((a:Int)<(b:Int))=false by rw[decide_eq_false_iff_not];omega,aQ];exact W9 ⟨a,rfl,by omega,h1,λj x hj hx=>h2 j x (by omega) hx⟩
 intro o ho;refine Xa ho ?_<|λr hr=>r.elim
 rintro⟨st1,st2⟩⟨a,ha,hle,h1,h2⟩;dsimp only at ha ⊢;subst ha
 by_cases hlt:a<l.length
 ·have hx:l[a]? =some l[a]:=aM hlt;rw[show decide ((a:Int)<(l.length:Int))=true by rw[dR];omega,aP,cB hx,aB,hφ,aB,aB];refine OF ?_
  by_cases he:c l[a]=0
  ·have hb:(c l[a]==0)=true:=by rw[beq_iff_eq];exact he
   rw[hb];refine⟨(l5.2 ⟨_,cH hlt,hb⟩).symm,λ_=>?_⟩;rw[J8 hx hb (λj y hj hy=>by have:=h1 j y hj hy;rw[beq_eq_false_iff_ne];omega)]
  ·have hb:(c l[a]==0)=false:=by rw[beq_eq_false_iff_ne];exact he
   rw[hb];refine⟨?_,λh=>by cases h⟩;symm;rw[List.any_eq_false];intro x hx';obtain⟨j,hj⟩:=dZ hx';rw[ot,beq_eq_false_iff_ne]
   by_cases hja:j<a
   ·have:=h1 j x hja hj;omega
   ·by_cases e:j=a
    ·subst e;rw[hx]at hj;injection hj with hj;rw[<-hj];exact he
    ·have h3:=h2 a _ (cJ _) hx;have:=hs a j _ x (by omega) hx hj h3;omega
 ·rw[show decide ((a:Int)<(l.length:Int))=false by rw[decide_eq_false_iff_not];omega,aQ,aB];refine OF ⟨?_,λh=>by cases h⟩;symm;rw[List.any_eq_false];intro x hx';obtain⟨j,hj⟩:=dZ hx';have:=(bS.1 hj).1;have:=h1 j x (by omega) hj;rw[ot,beq_eq_false_iff_ne];omega
end
def zG(p q:eK):Prop:=eJ.lt p.Part q.Part\/(p.Part=q.Part/\eJ.lt p.eK q.eK)
theorem MJ{p q:eK}(h1:p.Part=q.Part)(h2:p.eK=q.eK):p=q:=by cases p;simp_all
theorem zG.irrefl(p:eK):¬zG p p:=λh=>by
 rcases h with h|⟨_,h⟩
 ·exact eJ.lt_irrefl _ h
 ·exact eJ.lt_irrefl _ h
theorem zG.trans{p q r:eK}(h1:zG p q)(h2:zG q r):zG p r:=by
 rcases h1 with h1|⟨e1,h1⟩ <;> rcases h2 with h2|⟨e2,h2⟩
 ·exact .inl<|eJ.lt_trans h1 h2
 ·exact .inl (by grind)
 ·exact .inl (by grind)
 ·exact .inr ⟨e1.trans e2,eJ.lt_trans h1 h2⟩
theorem zG.total(p q:eK):zG p q\/p=q\/zG q p:=by
 rcases eJ.J6 p.Part q.Part with h|h|h
 ·exact .inl<|.inl h
 ·rcases eJ.J6 p.eK q.eK with h'|h'|h'
  ·exact .inl<|.inr ⟨h,h'⟩
  ·grind [MJ]
  ·exact .inr<|.inr<|.inr ⟨h.symm,h'⟩
 ·exact .inr<|.inr<|.inl h
theorem zG.asymm{p q:eK}(h:zG p q):¬zG q p:=λh'=>zG.irrefl p<|h.trans h'
theorem zG.ne{p q:eK}(h:zG p q):p≠q:=by grind [zG.irrefl]
theorem DC{a b:eJ}:Lib.compareBytes a.dV b.dV=0↔a=b:=by grind [eJ.ext',Fu]
theorem nG{p q:eK}:iq p q=0↔p=q:=by
 grind [iq,Lib.compareBytes,DC,MJ]
theorem BK{p q:eK}:iq p q<0↔zG p q:=by
 unfold iq zG
 by_cases h:Lib.compareBytes p.Part.dV q.Part.dV=0
 ·rw[aI (by simpa using h),Bs];have e:=DC.1 h;constructor
  ·exact λh'=> .inr ⟨e,h'⟩
  ·rintro(h'|⟨_,h'⟩)
   ·grind [eJ.lt_irrefl]
   ·exact h'
 ·rw[aH h,Bs];constructor
  ·exact λh'=> .inl h'
  ·rintro(h'|⟨e,_⟩)
   ·exact h'
   grind [DC]
theorem qR{p q:eK}:0<iq p q↔zG q p:=by
 constructor
 ·intro h
  rcases zG.total p q with h'|h'|h'
  ·have:=BK.2 h';omega
  all_goals grind [nG]
 ·intro h
  by_cases h1:iq p q<0
  ·exact absurd (BK.1 h1) h.asymm
  ·by_cases h2:iq p q=0
   ·exact absurd (nG.1 h2).symm h.ne
   ·omega
section
variable {N:Nat}
structure LR (a:gZ) (x:dA):Prop where
 name:pX x.Part=true/\isWord x.eK=true
 UC:0<=x.cN/\x.cN<(a.aL.length:Int)
 at_:vo x.At=true
structure xq (a:gZ):Prop where
 yO:a.bO.length<=1000
 each:∀x∈a.bO,LR a x
 up:a.bO.Pairwise (λx y=>zG (lq x)<|lq y)
theorem I0{a:gZ}{k:Nat}{x:dA}(hx:a.bO[k]? =some x)(h:l9 a k=none):LR a x/\∀y,0<k->a.bO[k - 1]? =some y->zG (lq y) (lq x):=by
 unfold l9 at h;rw[hx,Option.bind_some]at h;split at h
 ·rename_i h1;split at h
  ·rename_i h2;split at h
   ·cases h
   ·rename_i h3;rw[dD]at h1 h2;unfold il at h2;rw[dD,dR,dR]at h2;refine⟨⟨h1,⟨by omega,by omega⟩,h2.2⟩,λy hk hy=>?_⟩
    grind [iq,qR]
  ·cases h
 ·cases h
theorem Gi{a:gZ}{k:Nat}{e:Int}(h:l9 a k=some e):e≠0:=by
 unfold l9 at h
 cases hx:a.bO[k]? with
 |none=>grind
 |some x=>
  rw[hx,Option.bind_some]at h
  repeat' split at h
  all_goals grind
theorem NH{a:gZ}(h:nS a=0):xq a:=by
 unfold nS at h;split at h
 ·omega
 rename_i hl;have hn:rQ a.bO.length (l9 a)=none:=by
  cases hf:rQ a.bO.length (l9 a)with
  |none=>rfl
  |some e=>
   grind [km,Gi]
 rw[j7]at hn;have hg:∀(k:Nat)x,a.bO[k]? =some x->LR a x/\∀y,0<k->a.bO[k - 1]? =some y->zG (lq y) (lq x):=λk x hx=>I0 hx<|hn k (bS.1 hx).1
 refine⟨by omega,λx hx=>?_,?_⟩
 ·grind [dZ]
 ·have hstep:∀(n i:Nat)x y,a.bO[i]? =some x->a.bO[i+n+1]? =some y->zG (lq x) (lq y):=by
   intro n
   induction n with
   |zero=>grind
   |succ n ih=>
    intro i x y hx hy;have hz:i+n+1<a.bO.length:=by grind
    have h1:=ih i x _ hx<|aM hz
    exact h1.trans<|(hg (i+(n+1)+1) y hy).2 _ (by omega) (by grind)
  rw[ox];intro i j hi hj hij;exact hstep (j - i - 1) i _ _ (aM hi) (by rw[show i+(j - i - 1)+1=j by omega];exact aM hj)
theorem xq.inj{a:gZ}(h:xq a){i j:Nat}{x y:dA}(hx:a.bO[i]? =some x)(hy:a.bO[j]? =some y)(e:lq x=lq y):i=j:=by
 obtain⟨h1,rfl⟩:=bS.1 hx;obtain⟨h2,rfl⟩:=bS.1 hy;have hp:=ox.1 h.up
 rcases Nat.lt_trichotomy i j with h3|h3|h3
 ·exact absurd e (hp i j h1 h2 h3).ne
 ·exact h3
 ·exact absurd e.symm (hp j i h2 h1 h3).ne
theorem KK{l:Z dA}{p:eK}(hu:l.Pairwise (λx y=>zG (lq x)<|lq y))(hl:l.length<=1048576)(hN:4194304<=N){φ:dA->eK->aT Int}(hφ:∀x,φ x p=some (iq (lq x) p)):
  ∃r,Oo N l p φ=some r/\(bif(!r.2)then some (-1)else some r.1)=some (Nd l<|λx=>decide<|lq x=p):=by
 obtain⟨r,h1,h2,h3⟩:=OU (N:=N) (l:=l) (s:=p) (φ:=φ) (λx=>iq (lq x) p) hφ (λi j x y hij hx hy hc=>by
  obtain⟨g1,rfl⟩:=bS.1 hx;obtain⟨g2,rfl⟩:=bS.1 hy;have hlt:=ox.1 hu i j g1 g2 hij;refine qR.2 ?_
  by_cases h0:iq (lq l[i]) p=0
  ·rw[<-nG.1 h0];exact hlt
  ·exact(qR.1 (by omega)).trans hlt) hl hN
 have e:(λx=>iq (lq x) p==0)=(λx=>decide<|lq x=p):=by
  funext x;rw[jQ,beq_iff_eq,dR,nG]
 rw[e]at h2 h3;refine⟨r,h1,?_⟩
 cases hr:r.2 with
 |true=>simp only[ku,aQ];rw[h3 hr]
 |false=>
  simp only[jH,aP];rw[hr]at h2;rw[J7 h2.symm]
def kY(a:gZ)(p:eK):Int:=Nd a.bO<|λx=>decide<|lq x=p
theorem KL(a:gZ)(p:eK):(kY a p = -1/\∀x∈a.bO,lq x≠p)\/∃(k:Nat)(x:dA),kY a p=(k:Int)/\a.bO[k]? =some x/\lq x=p:=by
 rcases z6 a.bO (λx=>decide<|lq x=p)with⟨h1,h2⟩|⟨k,x,h1,h2,h3,_⟩
 ·exact .inl ⟨h1,λx hx=>of_decide_eq_false<|h2 x hx⟩
 ·exact .inr ⟨k,x,h1,h2,of_decide_eq_true h3⟩
end
theorem zH{α β:Type}{l:Z α}{f:α->aT β}{k:Nat}{x:α}{c:β}(hx:l[k]? =some x)(hn:∀(j:Nat)y,j<k->l[j]? =some y->f y=none)(hc:f x=some c):l.findSome? f=some c:=by
 obtain⟨hk,rfl⟩:=bS.1 hx;rw[List.findSome?_eq_some_iff];refine⟨l.take k,l[k],l.drop<|k+1,?_,hc,λy hy=>?_⟩
 ·rw[List.getElem_cons_drop,List.take_append_drop]
 grind [dZ,bS,dO,List.getElem?_take_of_lt]
theorem Ee{α β:Type}{l:Z α}{f:α->aT β}(h:∀(j:Nat)y,j<l.length->l[j]? =some y->f y=none):l.findSome? f=none:=by
 grind [List.findSome?_eq_none_iff,dZ,bS]
section
variable {N:Nat}
theorem UE(c:UInt8):(bif(!(((decide ((c.toNat:Int)>=97)&&decide ((c.toNat:Int)<=122))||(decide ((c.toNat:Int)>=65)&&decide ((c.toNat:Int)<=90)))||(decide ((c.toNat:Int)>=48)&&decide ((c.toNat:Int)<=57))))then((iV N (⟨[95,43,45,35]⟩) (c.toNat:Int)).bind λx50=>some<|decide<|x50<0)else some false)=some (Kk c):=by
 rw[xX,aB];unfold Kk;generalize decide (Lib.indexByte (⟨[95,43,45,35]⟩:eJ).dV c<0)=p;have e:(!(((decide ((c.toNat:Int)>=97)&&decide ((c.toNat:Int)<=122))||(decide ((c.toNat:Int)>=65)&&decide ((c.toNat:Int)<=90)))||(decide ((c.toNat:Int)>=48)&&decide ((c.toNat:Int)<=57))))=(((decide ((c.toNat:Int)<65)||decide ((c.toNat:Int)>90))&&(decide ((c.toNat:Int)<97)||decide ((c.toNat:Int)>122)))&&(decide ((c.toNat:Int)<48)||decide ((c.toNat:Int)>57))):=by
  grind
 grind
theorem Ef{s:eJ}(h:s.dV.length<=2097152)(hN:4194304<=N):iu N s=some (isWord s):=by
 refine XC ?_;unfold iu isWord;refine WJ (Xr (n:=s.dV.length) (λs=>s) (λk _=>∀(j:Nat)x,j<k->s.dV[j]? =some x->Kk x=false) (Go:=λ_=>s.dV.any Kk=false) (Rt:=λr=>r=false/\s.dV.any Kk=true) ?_ ?_ (cO _) rfl (λj x hj=>by omega) (by omega)) ?_
 ·rintro k i hk e hI;subst e;rw[iG hk,aP];refine IS (J5 s k hk)<|IS (UE _)<|Xj (λhb=>XJ ⟨rfl,l5.2 ⟨_,cH hk,hb⟩⟩)<|λhb=>W4 ⟨bF (by omega),λj x hj hx=>?_⟩
  grind
 ·grind [W9,List.any_eq_false,dZ,bS]
 intro o ho;refine Xa ho (λs' hs'=>?_)<|λr hr=>OF (by grind)
 rw[hs'];show Ok ((some _).bind _) _
 grind [OF,jH]
theorem KM{s:eJ}(h:s.dV.length<=2097152)(hN:4194304<=N):kF N s=some (pX s):=by
 refine XC ?_;unfold kF pX;refine IS (Km 47 h hN) ?_;have hsn:=HI s 47;refine WJ (Xr (n:=(qP s 47).length) (λs=>s) (λk _=>∀(j:Nat)x,j<k->(qP s 47)[j]? =some x->isWord x=true) (Go:=λ_=>(qP s 47).all isWord=true) (Rt:=λr=>r=false/\(qP s 47).all isWord=false) ?_ ?_ (cO _) rfl (λj x hj=>by omega) (by omega)) ?_
 ·rintro k i hk e hI;subst e;rw[iG hk,aP];have hx:(qP s 47)[k]? =some (qP s 47)[k]:=aM hk;have hl:=HH<|cH hk
  refine WR hx<|IS (Ef (by omega) hN)<|Xj (λhb=>XJ ⟨rfl,?_⟩)<|λhb=>W4 ⟨bF (by omega),λj x hj hx'=>?_⟩
  ·grind
  grind
 ·grind [W9,mI,dZ,bS]
 intro o ho;refine Xa ho (λs' hs'=>OF ?_)<|λr hr=>OF (by grind)
 grind
theorem wc(n lo hi:Int):eW N n lo hi=some (il n lo hi):=rfl
theorem qB{b:bV}(h:tY b=true):cV N b=some (zu b):=pf (N:=N) h
theorem DD{b:bV}:iQ N b=some (oF b).2:=by
 have e1:(bif(!(il b.eN 1 10000))then some true else some (!(vo b.At)))=some (!tY b):=by unfold tY;cases il b.eN 1 10000 <;> rfl
 have e2:∀n,dF N n=some (su n):=λ_=>rfl;unfold iQ oF;rw[wc,aB,D5,aB,e1,aB]
 cases hf:tY b with
 |false=>rfl
 |true=>
  rw[ku,aQ,qB hf,aB];simp only[e2,aB];unfold dK
  cases su (zu b).X0 <;> cases su (zu b).Y0 <;> cases su (zu b).X1 <;> cases su (zu b).Y1 <;> rfl
theorem R9{x y:dA}:(x.Part.wg y.Part||(x.Part.wD y.Part&&(x.eK.wg y.eK||x.eK.wD y.eK)))=decide (iq (lq x) (lq y)<=0):=by
 have hle:iq (lq x) (lq y)<=0↔zG (lq x) (lq y)\/lq x=lq y:=by
  rw[<-BK,<-nG];omega
 rw[jQ,dR,hle,jd,dD,jd,Cl,Cl];unfold zG lq;simp only[eK.mk.injEq];constructor
 ·rintro(h|⟨h1,h2|h2⟩)
  ·exact .inl<|.inl h
  ·exact .inl<|.inr ⟨h1,h2⟩
  grind
 ·rintro((h|⟨h1,h2⟩)|⟨h1,h2⟩)
  ·exact .inl h
  ·exact .inr ⟨h1, .inl h2⟩
  grind
theorem Gj{a:gZ}(hc:a.aL.length<=1073741824)(hl:a.bO.length<=1073741824){k:Nat}{x:dA}(hx:a.bO[k]? =some x)(hn:x.Part.dV.length<=2097152/\x.eK.dV.length<=2097152)(hN:4194304<=N):jv N a (k:Int)=some ((l9 a k).getD 0):=by
 have hk:=(bS.1 hx).1;have hw:wrap .i64 ((a.aL.length:Int) - 1)=(a.aL.length:Int) - 1:=gF (by omega) (by omega);unfold jv l9;rw[cB hx,aB,KM hn.1 hN,aB,hx,Option.bind_some];have e1:(bif(!(pX x.Part))then some true else((iu N x.eK).bind λx44=>some<|!x44))=some (!(pX x.Part&&isWord x.eK)):=by
  grind [Ef,aB,pX]
 rw[e1,aB]
 cases h1:(pX x.Part&&isWord x.eK)with
 |false=>rfl
 |true=>
  rw[ku,aQ,aH rfl,hw,wc,aB];have e2:(bif(!(il x.cN 0<|(a.aL.length:Int) - 1))then some true else((gU N x.At).bind λx57=>some<|!x57))=some (!(il x.cN 0 ((a.aL.length:Int) - 1)&&vo x.At)):=by
   grind [D5,aB]
  rw[e2,aB]
  cases h2:(il x.cN 0 ((a.aL.length:Int) - 1)&&vo x.At)with
  |false=>rfl
  |true=>
   rw[ku,aQ,aH rfl]
   by_cases h0:0<k
   ·have hy:a.bO[k - 1]? =some (a.bO[k - 1]'(by omega)):=aM _;rw[bQ (by omega),aP,jB h0 (by omega),cB hy,aB,R9]
    by_cases h3:iq (lq x) (lq<|a.bO[k - 1]'(by omega))<=0
    ·rw[bQ h3,aP,aH ⟨h0,_,hy,h3⟩];rfl
    grind
   grind
noncomputable def nT(a:gZ):Int:=if a.aL.length=0 then 9 else if 16<a.aL.length then 2 else match a.aL.findSome? zz with
 |some e=>e
 |none=>if ko a.cS≠0 then ko a.cS else if 2000<a.cS.length+(a.aL.map List.length).sum then 2 else if j4 a≠0 then j4 a else nS a
theorem KN(a:gZ):lr a=if nT a≠0 then nT a else if tZ a then 12 else 0:=by
 unfold lr nT Ny IQ
 by_cases h0:a.aL.length=0
 ·rw[aH h0,aH h0,aH (by decide)]
 rw[aI h0,aI h0]
 by_cases h1:16<a.aL.length
 ·rw[aH h1,aH h1,aH (by decide)]
 rw[aI h1,aI h1]
 cases hf:a.aL.findSome? zz with
 |some e=>
  have he:e≠0:=by
   obtain⟨_,x,_,_,hx,_⟩:=List.findSome?_eq_some_iff.1 hf;unfold zz at hx;split at hx
   ·rename_i h;injection hx with hx;rw[<-hx];exact h
   ·cases hx
  dsimp only;rw[aH he]
 |none=>
  dsimp only
  by_cases h2:ko a.cS≠0
  ·rw[aH h2,aH h2,aH h2]
  rw[aI h2,aI h2]
  by_cases h3:2000<a.cS.length+(a.aL.map List.length).sum
  ·rw[aH h3,aH h3,aH (by decide)]
  rw[aI h3,aI h3]
  by_cases h4:j4 a≠0
  ·rw[aH h4,aH h4,aH h4]
  rw[aI h4,aI h4]
theorem Gl{a:gZ}(h:nT a=0):j4 a=0:=by
 unfold nT at h
 grind [zz,List.findSome?_eq_some_iff,ko,List.length,j4]
theorem EF{a:gZ}(hs:zA a)(hN:nq N):i9 N a=some (nT a):=by
 refine XC ?_;have c1:=hs.cs;have c2:=hs.out;have c3:=hs.bs;have c4:=hs.ls;unfold i9 nT;refine Xj (λh=>OF ?_)<|λh=>?_
 ·grind
 have h0:¬a.aL.length=0:=by grind
 rw[aI h0];refine Xj (λh=>OF ?_)<|λh=>?_
 ·grind
 have h1:¬16<a.aL.length:=by grind
 rw[aI h1];have sumle:∀k,k<=a.aL.length->((a.aL.take k).map List.length).sum<=k*1048576:=by
  intro k
  induction k with
  |zero=>intro _;simp
  |succ k ih=>
   intro hk;have:=ih (by omega);have h2:=hs.each _<|cH (show k<a.aL.length by omega)
   rw[dH (by omega),eU,List.sum_append]
   grind
 refine WJ (Xr (n:=a.aL.length) (λs=>s.2) (λk s=>s.1=((a.cS.length+((a.aL.take k).map List.length).sum:Nat):Int)/\∀(j:Nat)r,j<k->a.aL[j]? =some r->zz r=none)
  (Go:=λs=>s.1=((a.cS.length+(a.aL.map List.length).sum:Nat):Int)/\a.aL.findSome? zz=none) (Rt:=λr=>a.aL.findSome? zz=some r) ?_ ?_ (cO _) rfl ⟨by simp,λj r hj=>by omega⟩ (by omega)) ?_
 ·rintro k⟨m,i⟩hk e⟨hm,hI⟩;dsimp only at e hm ⊢;subst e;subst hm;have hx:a.aL[k]? =some a.aL[k]:=aM hk;have he:=hs.each _<|cH hk
  have hsl:=sumle k (by omega);rw[iG hk,aP];refine WR hx<|IS (yt (by omega) hN)<|Xj (λhb=>XJ ?_)<|λhb=>WR hx<|W4 ⟨bF (by omega),?_,λj r hj hr=>?_⟩
  ·grind [zH,zz]
  ·dsimp only;rw[wrap_add (by omega),dH hk,eU,List.sum_append]
   grind
  grind [zz]
 ·rintro⟨m,i⟩e⟨hm,hI⟩;dsimp only at e hm ⊢;subst e;rw[lL,aQ];rw[dY]at hm;exact W9 ⟨hm,Ee hI⟩
 intro o ho;refine Xa ho ?_<|λr hr=>OF (by rw[hr])
 rintro⟨m,i⟩⟨hm,hf⟩;dsimp only at hm ⊢;subst hm;rw[hf];dsimp only;refine IS (yt (by omega) hN)<|Xj (λh=>OF ?_)<|λh=>?_
 ·rw[aH (by simpa using h)]
 rw[aI (by simpa using h)];have hmr:Ok (bif decide (((a.cS.length+(a.aL.map List.length).sum:Nat):Int)>2000)then some true else some (decide<|(a.aN.length:Int)>500)) (λb=>b=decide (2000<a.cS.length+(a.aL.map List.length).sum\/500<a.aN.length)):=by
  by_cases h2:2000<a.cS.length+(a.aL.map List.length).sum
  ·rw[bQ (by omega),aP];exact OF (bQ<|.inl h2).symm
  ·rw[bY (by omega),aQ];refine OF ?_;rw[decide_eq_decide];omega
 refine WJ hmr λb hb=>?_;subst hb;refine Xj (λh=>OF ?_)<|λh=>?_
 ·have h:=of_decide_eq_true h
  by_cases h2:2000<a.cS.length+(a.aL.map List.length).sum
  ·rw[aH h2]
  ·rw[aI h2];have hb:j4 a=2:=by unfold j4;rw[aH (by omega)]
   rw[hb,aH (by decide)]
 have h:=of_decide_eq_false h;rw[aI (by omega)];have hbe:j4 a=(a.aN.findSome?<|nD a.aL.length).getD 0:=by unfold j4;rw[aI (by omega)]
 have hw:wrap .i64 ((a.aL.length:Int) - 1)=(a.aL.length:Int) - 1:=gF (by omega) (by omega);refine WJ (Xr (n:=a.aN.length) (λs=>s) (λk _=>∀(j:Nat)b,j<k->a.aN[j]? =some b->nD a.aL.length b=none) (Go:=λ_=>a.aN.findSome? (nD a.aL.length)=none) (Rt:=λr=>a.aN.findSome? (nD a.aL.length)=some r/\r≠0) ?_ ?_ (cO _) rfl (λj b hj=>by omega) (by omega)) ?_
 ·rintro k i hk e hI;subst e;rw[iG hk,aP];have hx:a.aN[k]? =some a.aN[k]:=aM hk;refine WR hx<|IS DD<|Xj (λhb=>XJ ?_)<|λhb=>?_
  ·have hb:(oF a.aN[k]).2≠0:=by simpa using hb
   exact⟨zH hx hI (by unfold nD;rw[aH hb]),hb⟩
  ·have hb:¬(oF a.aN[k]).2≠0:=by simpa using hb
   rw[hw];have e2:((eW N a.aN[k].cM 0<|(a.aL.length:Int) - 1).bind λx135=>bif(!x135)then some true else((eW N a.aN[k].To a.aN[k].cM<|(a.aL.length:Int) - 1).bind λxC=>some<|!xC))=some (!(il a.aN[k].cM 0 ((a.aL.length:Int) - 1)&&il a.aN[k].To a.aN[k].cM ((a.aL.length:Int) - 1))):=by
    rw[wc,aB,wc,aB]
    cases il a.aN[k].cM 0 ((a.aL.length:Int) - 1) <;> rfl
   refine IS e2<|Xj (λh3=>XJ ⟨zH hx hI ?_,by decide⟩)<|λh3=>W4 ⟨bF (by omega),λj b hj hb'=>?_⟩
   ·unfold nD;rw[aI hb,aI (by rintro⟨g1,g2⟩;rw[g1,g2]at h3;cases h3)]
   ·by_cases e:j=k
    ·subst e;rw[hx]at hb';injection hb' with hb';rw[<-hb']
     rw[Bool.not_eq_false',dD]at h3;unfold nD;rw[aI hb,aH h3]
    ·exact hI j b (by omega) hb'
 ·rintro i e hI;subst e;rw[lL,aQ];exact W9<|Ee hI
 intro o ho;refine Xa ho ?_<|λr hr=>OF ?_
 rotate_left
 ·rw[hbe,hr.1,Option.getD_some,aH hr.2]
 intro _ hbn;rw[hbe,hbn,Option.getD_none,aI (by decide)];unfold nS;refine Xj (λh=>OF ?_)<|λh=>?_
 ·rw[aH (by have:=of_decide_eq_true h;omega)]
 have h5:¬1000<a.bO.length:=by have:=of_decide_eq_false h;omega
 rw[aI h5];refine WJ (Xr (n:=a.bO.length) (λs=>s) (λk _=>∀j,j<k->l9 a j=none) (Go:=λ_=>rQ a.bO.length (l9 a)=none) (Rt:=λr=>rQ a.bO.length (l9 a)=some r) ?_ ?_ (cO _) rfl (λj hj=>by omega) (by omega)) ?_
 ·rintro k i hk e hI;subst e;rw[iG hk,aP];have hx:a.bO[k]? =some a.bO[k]:=aM hk;refine IS (Gj (by omega) (by omega) hx (hs.nm _<|cH hk) (by omega))<|Xj (λhb=>XJ ?_)<|λhb=>W4 ⟨bF (by omega),λj hj=>?_⟩
  ·cases hl:l9 a k with
   |none=>rw[hl]at hb;cases hb
   |some e=>exact km.2 ⟨k,hk,hl,hI⟩
  ·by_cases e:j=k
   ·subst e
    cases hl:l9 a j with
    |none=>rfl
    |some e=>rw[hl]at hb;exact absurd (by simpa using hb) (Gi hl)
   ·exact hI j (by omega)
 ·rintro i e hI;subst e;rw[lL,aQ];exact W9<|j7.2 hI
 intro o ho;exact Xa ho (λ_ h=>OF (by rw[h];rfl))<|λr hr=>OF (by rw[hr];rfl)
theorem ye(b:bV)(k:Int):gq N b k=some (m0 b k):=rfl
theorem zI{a:gZ}{i:Nat}{r:Z aF}{s:Z aA}(hb:lK a.aN)(hr:a.aL[i]? =some r)(hrl:r.length<=2000)(hro:∀x∈r,GL x)(hd:xY r (lW a.aN (i:Int)) s)(hN:nq N):ij N a (i:Int)=some (bB s):=by
 refine XC ?_;have hbl:=hb.len;have hhl:=Du hb (i:Int);have hho:=vq hb (i:Int);unfold ij;refine WJ (Xr (n:=a.aN.length) (λs=>s.2) (λk st=>st.1=lW (a.aN.take k) (i:Int)) (Go:=λst=>st.1=lW a.aN (i:Int)) (Rt:=λ_=>False) ?_ ?_ (cO _) rfl rfl (by omega)) ?_
 ·rintro k⟨out,ii⟩hk e hI;dsimp only at e hI ⊢;subst e;subst hI;have hx:a.aN[k]? =some a.aN[k]:=aM hk;have hts:lW (a.aN.take<|k+1) (i:Int)=if m0 a.aN[k] (i:Int)=true then lW (a.aN.take k) (i:Int)++[zu a.aN[k]]else lW (a.aN.take k) (i:Int):=by
   grind [lW,dH]
  have hlen:(lW (a.aN.take k) (i:Int)).length<=k:=by
   unfold lW
   grind
  rw[iG hk,aP];refine WR hx<|IS (ye _ _)<|WJ (P:=λst:Z aF=>st=lW (a.aN.take<|k+1) (i:Int)) (Xj (λh=>?_)<|λh=>OF ?_)<|λst hst=>W4 ⟨bF (by omega),hst⟩
  ·refine WR hx<|IS (qB (hb.ok _<|cH hk).1)<|Xw (by grind)<|OF ?_
   rw[hts,aH h]
  grind
 ·simp[lL,aQ,W9,dY]
 intro o ho;refine Xa ho ?_<|λr hr=>hr.elim
 rintro⟨hs,ii⟩hI;dsimp only at hI ⊢;subst hI;obtain⟨t,_,ht⟩:=sJ (N:=N) (l:=lW a.aN (i:Int)) (by omega) (λx hx=>(hho x hx).1) (by omega);obtain⟨z1,z2,z3⟩:=ht.Ko;have z4:2*(lW a.aN (i:Int)).length*(2*(lW a.aN (i:Int)).length)<=1000*1000:=Nat.mul_le_mul (by omega) (by omega);refine WR hr<|IS (yb ht.can ht.cover (by omega) (λx hx=>(hho x hx).1.x) (by omega) hN) ?_
 unfold l7;have hsz:=(Ag (A:=5000) hd.can hd.FM (by grind [eP,vl]) (by grind [eP,nQ])).2.2
 have hc:iL N r (bB t) 3=some (bB s):=KG hd.can (λx y=>by
  rw[hd.cover,rn ht.can,ht.cover];rfl) (by omega) (by omega) (λx hx=>(hro x hx).x) (λx hx=>(xo ht.can x hx).1) (by omega) hN
 grind [aB,OF]
theorem DE:∀(cI:Z (Z<|Z aA))(k:Nat),(bN k cI).length=(cI.map List.length).sum
 | [],k=>rfl
 |ps::cI,k=>by
  show(ps.map _++bN (k+1) cI).length=_;rw[eP,dM,DE cI<|k+1,eV,List.sum_cons]
theorem NI{a:gZ}{ka:Z (Z aA)}{cI:Z (Z<|Z aA)}(hg:s8 a)(hD:zx a.aL a.aN a.aL.length ka cI){i:Nat}{s:Z aA}(hi:i<a.aL.length)(hd:ka[i]? =some s)(hf:(bB s).length<=2000):∃ps u,cI[i]? =some ps/\tS a.aL[i] (lW a.aN (i:Int)) s u ps:=by
 have hp:cI[i]? =some (cI[i]'(by rw[hD.Dv];exact hi)):=aM _;have hdr:=hD.dr i _ _ hi (aM hi) hd;obtain⟨u,hu⟩:=hD.pt i _ _ hi hd hp;have hreg:=tC.1<|hg.V7 _<|cH hi
 exact⟨_,u,hp,λx hx=>((wA.1 hreg.1).2 x hx).1,λx hx=>(vq hg.gb _ x hx).2,(F1 hreg.1).2,λx hx=>(vq hg.gb _ x hx).1,hdr,hu,hf⟩
theorem tS.pieces{r hs:Z aF}{s:Z aA}{u:Nat->Nat}{ps:Z (Z aA)}(h:tS r hs s u ps)(hN:nq N):gH N (bB s)=some (ps.map bB):=by
 refine KJ h.dr.can h.pt h.yO (λq hq=>?_) (λp hp=>(h.part hp).2.1) hN;obtain⟨h1,h2,h3⟩:=MI h.r1 h.r2 h.dr.can h.dr.FM q hq
 grind [IJ]
theorem LS{a b:aF}(ha:a.X0<a.X1/\a.Y0<a.Y1)(hb:b.X0<b.X1/\b.Y0<b.Y1):gV N a b=some (Kx a b):=by
 unfold gV
 grind [Aj,s9,decide,Min.min,Max.max,Kw,Kx]
theorem sq_pos{b:bV}(h:tY b=true):(zu b).X0<(zu b).X1/\(zu b).Y0<(zu b).Y1:=by
 obtain⟨h1,_,_⟩:=vZ h;simp only[zu];omega
inductive Checked (N:Nat) (a:gZ):Prop
 |err (e:Int) (he:e≠0) (h1:jq N a=some (none,e)) (h2:eM N a=some e)
 |ok {ka:Z (Z aA)} {cI:Z (Z (Z aA))} {r:Nat->Nat} {gs:Z bZ} {ofP ofB fK:Z Int} {fG:Z eB} (b:iF a ka cI r gs ofP ofB fK fG)
  (h1:jq N a=some (some (a.aL,a.cS,a.aN,a.bO,ka,bN 0 cI,cU a.aN<|bN 0 cI,gs,ofP,ofB,fK,fG),0)) (h2:eM N a=some 0)
theorem MK{a:gZ}(hb:lK a.aN)(hN:nq N){f:Int->aT Int}{Q:Int->Prop}(hc:tZ a->Q 12)(hn:¬tZ a->∀s,Ok (f s) Q):
  Ok ((iI (λ(s35:Int)=>(bif decide (s35<(a.aN.length:Int))then((iI (λ(s622:Int)=>(bif s622<s35 then(((idx a.aN s35).bind λx869=>(idx a.aN s622).bind λx873=>(jw N x869 x873).bind λx876=>bif x876 then((idx a.aN s35).bind λx879=>(cV N x879).bind λx882=>(idx a.aN s622).bind λx885=>(cV N x885).bind λx888=>(gV N x882 x888).bind λx890=>some x890)else some false).bind λs867=>bif s867 then some (.rt 12)else some (.nx<|wrap .i64<|s622+1))else(some<|.br s622):aT (Fl Int Int))) N 0).bind λo911=>o911.cs (λ(s622:Int)=>some<|.nx<|wrap .i64<|s35+1)<|λr=>some<|.rt r)else(some<|.br s35):aT (Fl Int Int))) N 0).bind λo933=>o933.cs f<|λr=>some r) Q:=by
 have hbl:=hb.len;refine WJ (Xr (n:=a.aN.length) (λs=>s) (λk _=>∀(i j:Nat)(x y:bV),i<k->j<i->a.aN[i]? =some x->a.aN[j]? =some y->¬vu x y=true) (Go:=λ_=>¬tZ a) (Rt:=λr=>r=12/\tZ a) ?_ ?_ (cO _) rfl (λi j x y hi=>by omega) (by omega)) ?_
 ·rintro k s hk e hI;subst e;rw[iG hk,aP];have hx:a.aN[k]? =some a.aN[k]:=aM hk;have fx:=(hb.ok _<|cH hk).1;refine WJ (Xr (n:=k) (λs=>s) (λt _=>∀(j:Nat)(y:bV),j<t->a.aN[j]? =some y->¬vu a.aN[k] y=true) (Go:=λ_=>∀(j:Nat)(y:bV),j<k->a.aN[j]? =some y->¬vu a.aN[k] y=true) (Rt:=λr=>r=12/\tZ a) ?_ ?_ (cO _) rfl (λj y hj=>by omega) (by omega)) ?_
  ·rintro t s ht e hI2;subst e;rw[iG ht,aP];have hy:a.aN[t]? =some (a.aN[t]'(by omega)):=aM _;have fy:=(hb.ok _<|cH (show t<a.aN.length by omega)).1;have hcond:((idx a.aN ((k:Nat):Int)).bind λx869=>(idx a.aN ((t:Nat):Int)).bind λx873=>(jw N x869 x873).bind λx876=>bif x876 then((idx a.aN ((k:Nat):Int)).bind λx879=>(cV N x879).bind λx882=>(idx a.aN ((t:Nat):Int)).bind λx885=>(cV N x885).bind λx888=>(gV N x882 x888).bind λx890=>some x890)else some false)=some (vu a.aN[k]<|a.aN[t]'(by omega)):=by
    rw[cB hx,aB,cB hy,aB];unfold jw vu;rw[aB]
    cases(decide (a.aN[k].cM<=(a.aN[t]'(by omega)).To)&&decide ((a.aN[t]'(by omega)).cM<=a.aN[k].To))with
    |false=>rfl
    |true=>grind [aB,qB,LS,sq_pos]
   refine IS hcond<|Xj (λh=>XJ ⟨rfl,k,t,_,_,ht,hx,hy,h⟩)<|λh=>W4 ⟨bF (by omega),λj y hj hjy=>?_⟩
   grind
  ·grind [W9]
  intro o ho;refine Xa ho (λs hs=>W4 ⟨bF (by omega),λi j x y hi hj hix hjy=>?_⟩)<|λr hr=>XJ hr
  grind
 ·rintro s e hI;subst e;rw[lL,aQ];refine W9 ?_;rintro⟨i,j,x,y,hij,hx,hy,hc⟩;exact hI i j x y (bS.1 hx).1 hij hx hy hc
 intro o ho;exact Xa ho (λs hs=>hn hs s)<|λr hr=>OF (by rw[hr.1];exact hc hr.2)
theorem checked{a:gZ}(hs:zA a)(hN:nq N):Checked N a:=by
 obtain⟨x,hx,hI⟩:=HM (N:=N) hs hN;have hbe:=KN a;have hcp:=EF (N:=N) hs hN
 rcases hI with⟨he,rfl⟩|⟨h0,hg,hcl,ka,cI,D,hI⟩
 ·refine .err _ he hx<|XC ?_
  unfold eM;refine IS hcp ?_
  by_cases h:nT a≠0
  ·rw[aH h]at hbe;rw[show(nT a != 0)=true by simpa using h,aP,hbe];exact OF rfl
  ·rw[aI h]at hbe;have hp0:nT a=0:=by simpa using h
   have hc:tZ a:=by
    by_cases hc:tZ a
    ·exact hc
    ·rw[aI hc]at hbe;exact absurd hbe he
   rw[aH hc]at hbe;rw[hp0,show((0:Int) != 0)=false by rfl,aQ];have hbo:=Gl hp0;refine MK ⟨(n8 hbo).1,λb hb=>⟨((n8 hbo).2 b hb).1,((n8 hbo).2 b hb).2.1⟩⟩ hN (λ_=>hbe.symm)<|λh=>absurd hc h
 ·have hp0:nT a=0:=by
   by_cases h:nT a≠0
   ·rw[aH h]at hbe;rw[hbe]at h0;exact h0
   ·simpa using h
  have key:eM N a=some (if Su ka cI then 0 else 2):=by
   refine XC ?_;unfold eM;refine IS hcp ?_;rw[hp0,show((0:Int) != 0)=false by rfl,aQ];refine MK hg.gb hN (λh=>absurd h hcl)<|λ_ _=>?_
   have hc16:=hg.yO.2
   refine WJ (Xr (n:=a.aL.length) (λs=>s.2) (λk st=>st.1=((((cI.take k).map List.length).sum:Nat):Int)/\((cI.take k).map List.length).sum<=k*2000/\∀(j:Nat)s,j<k->ka[j]? =some s->(bB s).length<=2000)
    (Go:=λst=>st.1=(((cI.map List.length).sum:Nat):Int)/\∀s∈ka,(bB s).length<=2000) (Rt:=λr=>r=2/\¬Su ka cI) ?_ ?_ (cO _) rfl ⟨by simp,by simp,λj s hj=>by omega⟩ (by omega)) ?_
   ·rintro k⟨m,i⟩hk e⟨hm,hml,hI2⟩;dsimp only at e hm ⊢;subst e;subst hm;rw[iG hk,aP];have hcx:a.aL[k]? =some a.aL[k]:=aM hk;have hd:ka[k]? =some (ka[k]'(by rw[D.len];exact hk)):=aM _;have hcs:=hg.cs _<|cH hk
    refine IS (zI hg.gb hcx hcs.1 hcs.2 (D.dr k _ _ hk hcx hd) hN)<|Xj (λh=>XJ ⟨rfl,λhf=>?_⟩)<|λh=>?_
    ·have:=hf.1 _<|gl hd
     have:=of_decide_eq_true h;omega
    ·have hf:(bB<|ka[k]'(by rw[D.len];exact hk)).length<=2000:=by have:=of_decide_eq_false h;omega
     obtain⟨ps,u,hp,L⟩:=NI hg D hk hd hf;have hpl:=L.pt.yO;have hkp:k<cI.length:=by rw[D.Dv];exact hk
     have hpe:cI[k]=ps:=by rw[aM hkp]at hp;injection hp
     refine IS (L.pieces hN)<|W4 ⟨bF (by omega),?_,?_,λj s hj hjs=>?_⟩
     ·dsimp only;rw[dM,wrap_add (by omega),dH hkp,eU,List.sum_append,hpe];simp
     ·rw[dH hkp,eU,List.sum_append,hpe];simp only[eV,List.map_nil,List.sum_cons,List.sum_nil];rw[Nat.add_mul];omega
     ·by_cases e:j=k
      ·subst e;rw[hd]at hjs;injection hjs with hjs;rw[<-hjs];exact hf
      ·exact hI2 j s (by omega) hjs
   ·rintro⟨m,i⟩e⟨hm,hml,hI2⟩;dsimp only at e hm ⊢;subst e;rw[lL,aQ];rw[nc (by rw[D.Dv];exact cJ _)]at hm;refine W9 ⟨hm,λs hs'=>?_⟩;obtain⟨j,hj⟩:=dZ hs';exact hI2 j s (by have:=(bS.1 hj).1;rw[D.len]at this;exact this) hj
   intro o ho;refine Xa ho ?_<|λr hr=>OF (by rw[hr.1,aI hr.2])
   rintro⟨m,i⟩⟨hm,hf⟩;dsimp only at hm ⊢;subst hm;have hpl:=DE cI 0;refine Xj (λh=>OF ?_)<|λh=>OF ?_
   ·rw[aI];rintro⟨_,h2⟩;have:=of_decide_eq_true h;omega
   ·rw[aH];exact⟨hf,by have:=of_decide_eq_false h;omega⟩
  rcases hI with⟨hf,rfl⟩|⟨hf,r,gs,ofP,ofB,fK,fG,hC,rfl⟩
  ·rw[aI hf]at key;exact .err 2 (by decide) hx key
  ·rw[aH hf]at key;exact .ok ⟨hg,hcl,D,hf,hC⟩ hx key
end
theorem ES:∀{l m:Z Int},kB l->kB m->(∀x,x∈l↔x∈m)->l=m
 | [],[],_,_,_=>rfl
 | [],b::m,_,_,h=>absurd ((h b).2 (by simp)) (by simp)
 |a::l,[],_,_,h=>absurd ((h a).1 (by simp)) (by simp)
 |a::l,b::m,hl,hm,h=>by
  have h1:a=b:=by
   have ha:=(h a).1 (by simp);have hb:=(h b).2 (by simp)
   rcases fJ.1 ha with e|ha
   ·exact e
   ·rcases fJ.1 hb with e|hb
    ·exact e.symm
    ·have:=hl.head b hb;have:=hm.head a ha;omega
  subst h1;rw[ES hl.tail hm.tail λx=>?_];have hx:=h x;rw[fJ,fJ]at hx;constructor
  ·intro hxl
   rcases hx.1 (.inr hxl)with e|h'
   ·have:=hl.head x hxl;omega
   ·exact h'
  ·intro hxm
   rcases hx.2 (.inr hxm)with e|h'
   ·have:=hm.head x hxm;omega
   ·exact h'
theorem KO{l:Z Nat}(h:l.Pairwise (· < ·)):kB (ints l):=by
 unfold kB ints
 grind
section
variable {N:Nat}
theorem Gm{l:Z Int}{c:Int}(h:kB l)(hl:l.length<=1000000000)(hN:nq N):jz N l c=some (uz l c):=by
 refine XC ?_;unfold jz
 refine WJ (XV (Go:=λs=>∃a:Nat,s=(a:Int)/\a<=l.length/\(∀(j:Nat)x,a<=j->l[j]? =some x->c<x)/\(∀x,0<a->l[a - 1]? =some x->¬c<x)) (Rt:=λ_=>False)
  (λs=>∃a:Nat,s=(a:Int)/\a<=l.length/\∀(j:Nat)x,a<=j->l[j]? =some x->c<x) (λs=>s.toNat) ?_ ⟨l.length,rfl,cJ _,λj x hj hx=>by grind⟩ (by omega)) ?_
 ·rintro s⟨a,rfl,ha,hI⟩
  by_cases h0:0<a
  ·have hx:l[a - 1]? =some (l[a - 1]'(by omega)):=aM _;rw[bQ (by omega),aP,jB h0 (by omega),cB hx,aB,aB]
   grind [W4,cK,of_decide_eq_false,W9]
  grind [bY,aB,W9]
 intro o ho;refine Xa ho ?_<|λr hr=>hr.elim
 rintro s⟨a,rfl,ha,hI,hE⟩;have hlow:∀(j:Nat)x,j<a->l[j]? =some x->x<=c:=λj x hj hx=>by
  have hy:l[a - 1]? =some (l[a - 1]'(by omega)):=aM _;have h1:=hE _ (by omega) hy
  by_cases e:j=a - 1
  ·grind
  ·have:=h.lt (i:=j) (j:=a - 1) (by omega) hx hy;omega
 have hout:c∉l->uz l c=l.take a++c::l.drop a:=λhc=>by
  grind [uz,uy,decide,bQ,gl,bY]
 have hrest:c∉l->Ok ((vC l 0 (a:Int)).bind λx61=>(app 8 ([]:Z Int) x61).bind λx63=>(app 8 x63 ([c]:Z Int)).bind λx66=>(vC l (a:Int) (l.length:Int)).bind λx68=>(app 8 x66 x68).bind λx70=>some x70) (λr=>r=uz l c):=λhc=>by
  have htk:(l.take a).length=a:=by rw[dO];omega
  refine IS (uX l a ha)<|Xw (by simp only[List.length_nil];omega)<|Xw (by rw[List.nil_append];simp only[dX,List.length_nil];omega)<|IS (tm l a ha)<|Xw ?_<|OF ?_
  ·rw[List.nil_append,eP,mH];simp only[dX,List.length_nil];omega
  ·rw[hout hc];simp
 by_cases h0:0<a
 ·have hx:l[a - 1]? =some (l[a - 1]'(by omega)):=aM _;rw[bQ (by omega),aP,jB h0 (by omega),cB hx,aB,aB];refine Xj (λhb=>OF ?_)<|λhb=>hrest ?_
  ·rw[beq_iff_eq]at hb;unfold uz;rw[aH (by rw[<-hb];exact gl hx)]
  ·rw[beq_eq_false_iff_ne]at hb;intro hc;obtain⟨j,hj⟩:=dZ hc
   by_cases h1:a<=j
   ·have:=hI j c h1 hj;omega
   ·by_cases e:j=a - 1
    ·subst e;rw[hx]at hj;injection hj with hj;exact hb hj
    ·have:=h.lt (i:=j) (j:=a - 1) (by omega) hj hx;have:=hlow (a - 1) _ (by omega) hx;omega
 ·rw[bY (by omega),aQ,aB,aQ];refine hrest λhc=>?_;obtain⟨j,hj⟩:=dZ hc;have:=hI j c (by omega) hj;omega
theorem yf{l:Z Int}{c:Int}(hl:l.length<=1099511627776)(hN:nq N):cT N l c=some (decide<|c∈l):=by
 refine XC ?_;unfold cT;refine WJ (Xr (n:=l.length) (λs=>s) (λk _=>∀(j:Nat)x,j<k->l[j]? =some x->x≠c) (Go:=λ_=>c∉l) (Rt:=λr=>r=true/\c∈l) ?_ ?_ (cO _) rfl (λj x hj=>by omega) (by omega)) ?_
 ·rintro k s hk e hI;subst e;rw[iG hk,aP];have hx:l[k]? =some l[k]:=aM hk
  grind [WR,XJ,W4,bF,cH]
 ·grind [W9,dZ,bS]
 intro o ho;exact Xa ho (λs hs=>OF (bY hs).symm)<|λr hr=>OF (by grind)
theorem OV{p q:aF}(hp:p.X0<p.X1/\p.Y0<p.Y1)(hq:q.X0<q.X1/\q.Y0<q.Y1):ux p q=decide ((0<min p.X1 q.X1 - max p.X0 q.X0/\min p.Y1 q.Y1 - max p.Y0 q.Y0=0)\/(min p.X1 q.X1 - max p.X0 q.X0=0/\0<min p.Y1 q.Y1 - max p.Y0 q.Y0)):=by
 unfold ux
 grind
theorem Qd{l:Z aF}{q:aF}(hl:l.length<=1000000000)(ho:∀r∈l,GL r)(hq:GL q)(hN:nq N):kl N l q=some (l.any<|λr=>ux r q):=by
 refine XC ?_;unfold kl;refine WJ (Xr (n:=l.length) (λs=>s) (λk _=>∀(j:Nat)x,j<k->l[j]? =some x->ux x q=false) (Go:=λ_=>l.any (λr=>ux r q)=false) (Rt:=λr=>r=true/\l.any (λr=>ux r q)=true) ?_ ?_ (cO _) rfl (λj x hj=>by omega) (by omega)) ?_
 ·rintro k s hk e hI;subst e;rw[iG hk,aP];have hx:l[k]? =some l[k]:=aM hk;have hr:=ho _<|cH hk
  have hb:=OV (p:=l[k]) (q:=q) ⟨hr.x,hr.y⟩ ⟨hq.x,hq.y⟩;have a1:=hr.s1;have a2:=hr.s2;have a3:=hr.s3;have a4:=hr.s4;have b1:=hq.s1;have b2:=hq.s2;have b3:=hq.s3;have b4:=hq.s4;unfold small at a1 a2 a3 a4 b1 b2 b3 b4;refine WR hx<|WR hx<|WR hx<|WR hx ?_
  rw[Aj,Aj,s9,s9,gF (x:=min l[k].X1 q.X1 - max l[k].X0 q.X0) (by omega) (by omega),gF (x:=min l[k].Y1 q.Y1 - max l[k].Y0 q.Y0) (by omega) (by omega)];have e:((decide (min l[k].X1 q.X1 - max l[k].X0 q.X0>0)&&(min l[k].Y1 q.Y1 - max l[k].Y0 q.Y0==0))||((min l[k].X1 q.X1 - max l[k].X0 q.X0==0)&&decide (min l[k].Y1 q.Y1 - max l[k].Y0 q.Y0>0)))=ux l[k] q:=by
   grind
  grind [XJ,l5,cH,W4,bF]
 ·grind [W9,List.any_eq_false,dZ,bS]
 intro o ho;exact Xa ho (λs hs=>OF hs.symm)<|λr hr=>OF (by grind)
theorem DF(r:Z aF)(p:dW):D6 r p=vX r p.X p.Y:=by
 grind [D6,vX,ge_iff_le]
theorem Eg{r:Z aF}{p:dW}(hl:r.length<=134217728)(hr:∀x∈r,x.X0<x.X1)(hN:nq N):fQ N r p=some (D6 r p):=by
 refine XC ?_;unfold fQ
 grind [WJ,IU,xn,dM,IS,Dz,OF,Ak,DF]
def OW(bs:Z bV)(pcs:Z aD)(l:dA):aT eB:=match pcs.findIdx? (mA l)with
 |some k=>some ⟨false,((k:Nat):Int)⟩
 |none=>(bs.findIdx? (nE l)).map λk=>⟨true,((k:Nat):Int)⟩
theorem ML{bs:Z bV}{pcs:Z aD}{l:dA}(hd:∀b∈bs,∀p∈pcs,nE l b=true->mA l p=true->False):OW bs pcs l=rB bs pcs l:=by
 unfold OW rB
 grind
theorem Gn{α:Type}{l:Z α}{p:α->Bool}{k:Nat}{x:α}(hx:l[k]? =some x)(hp:p x=true)(hn:∀(j:Nat)y,j<k->l[j]? =some y->p y=false):l.findIdx? p=some k:=by
 grind [bS,List.findIdx?_eq_some_iff_getElem,aM]
theorem Gp{α:Type}{l:Z α}{p:α->Bool}(hn:∀(j:Nat)y,j<l.length->l[j]? =some y->p y=false):l.findIdx? p=none:=by
 grind [List.findIdx?_eq_none_iff,dZ,bS]
theorem HU{bs:Z bV}{pcs:Z aD}(hb:lK bs)(hp:pcs.length<=1000000)(hr:∀p∈pcs,p.eD.length<=1000000/\∀x∈p.eD,x.X0<x.X1)(l:dA)(hN:nq N):
  gC N bs (pcs.map aD.cN) (pcs.map aD.eD) l=some ((OW bs pcs l).getD ⟨false,0⟩,(OW bs pcs l).isSome):=by
 refine XC ?_;have hbl:=hb.len;unfold gC OW;rw[dM];refine WJ (Xr (n:=pcs.length) (λs=>s) (λk _=>∀(j:Nat)x,j<k->pcs[j]? =some x->mA l x=false) (Go:=λ_=>pcs.findIdx? (mA l)=none) (Rt:=λr=>∃k:Nat,pcs.findIdx? (mA l)=some k/\r=(⟨false,((k:Nat):Int)⟩,true)) ?_ ?_ (cO _) rfl (λj x hj=>by omega) (by omega)) ?_
 ·rintro k s hk e hI;subst e;rw[iG hk,aP];have hx:pcs[k]? =some pcs[k]:=aM hk;have hlx:(pcs.map aD.cN)[k]? =some pcs[k].cN:=by grind
  have hrx:(pcs.map aD.eD)[k]? =some pcs[k].eD:=by grind
  have hrl:=hr _<|cH hk
  have hcond:((idx (pcs.map aD.cN) ((k:Nat):Int)).bind λx88=>bif x88==l.cN then((idx (pcs.map aD.eD) ((k:Nat):Int)).bind λx91=>(fQ N x91 l.At).bind λx95=>some x95)else some false)=some (mA l pcs[k]):=by
   grind [cB,aB,Eg,mA]
  grind [IS,XJ,Gn,W4,bF]
 ·grind [W9,Gp]
 intro o ho;refine Xa ho ?_ (λr hr=>by grind [OF]);intro _ hno;rw[hno];dsimp only;refine WJ (Xr (n:=bs.length) (λs=>s) (λk _=>∀(j:Nat)x,j<k->bs[j]? =some x->nE l x=false) (Go:=λ_=>bs.findIdx? (nE l)=none) (Rt:=λr=>∃k:Nat,bs.findIdx? (nE l)=some k/\r=(⟨true,((k:Nat):Int)⟩,true)) ?_ ?_ (cO _) rfl (λj x hj=>by omega) (by omega)) ?_
 ·rintro k s hk e hI;subst e;rw[iG hk,aP];have hx:bs[k]? =some bs[k]:=aM hk;have hg:=hb.ok _<|cH hk
  have hcond:((idx bs ((k:Nat):Int)).bind λx301=>bif x301.fM then((idx bs ((k:Nat):Int)).bind λx305=>(gq N x305 l.cN).bind λx308=>bif x308 then((idx bs ((k:Nat):Int)).bind λx310=>(cV N x310).bind λx313=>(fQ N ([x313]:Z aF) l.At).bind λx317=>some x317)else some false)else some false)=some (nE l bs[k]):=by
   rw[cB hx,aB,aB,ye,aB,aB,qB hg.1,aB,Eg (by simp) (λx hx=>by simp_all[sq_pos]) hN,aB]
   grind [nE]
  grind [IS,XJ,Gn,W4,bF]
 ·grind [W9,Gp]
 intro o ho;exact Xa ho (λ_ h=>OF (by rw[h];rfl)) (λr hr=>by grind [OF])
end
section
variable {N:Nat}{a:gZ}{ka:Z (Z aA)}{cI:Z (Z (Z aA))}{r:Nat->Nat}{gs:Z bZ}{ofP ofB fK:Z Int}{fG:Z eB}
theorem tE(b:iF a ka cI r gs ofP ofB fK fG){p:aD}(hp:p∈bN 0 cI):p.eD.length<=2000/\(∀q∈p.eD,dK q=true/\q.X0<q.X1/\q.Y0<q.Y1)/\∃i:Nat,p.cN=(i:Int)/\∀x y,vX p.eD x y=true->vX (lW a.aN (i:Int)) x y=false:=by
 obtain⟨i,ps,q,h1,h2,rfl⟩:=Dy hp;have hil:i<a.aL.length:=by have:=(bS.1 h1).1;rw[b.dr.Dv]at this;exact this
 obtain⟨s,ps',u,g1,g2,L⟩:=Ed b hil;rw[h1]at g2;injection g2 with g2;subst g2
 obtain⟨k1,k2,k3⟩:=L.part h2;refine⟨k2,k3,i,by simp,λx y h=>?_⟩;have h3:vX (ps.flatMap bB) x y=true:=Ec.2 ⟨q,h2,h⟩;rw[L.cover,L.dr.cover,dD,Bool.not_eq_true']at h3;exact h3.2
theorem MM(b:iF a ka cI r gs ofP ofB fK fG)(l:dA):∀x∈a.aN,∀p∈bN 0 cI,nE l x=true->mA l p=true->False:=λx hx p hp h1 h2=>by
 obtain⟨_,_,i,e,hc⟩:=tE b hp;unfold nE at h1;unfold mA at h2;rw[dD,dD,DF]at h1;rw[dD,DF,beq_iff_eq]at h2;have h3:=hc _ _ h2.2;rw[<-e,h2.1]at h3;obtain⟨q,hq,hxy⟩:=kW.1 h1.2.2;simp at hq;subst hq;have h4:vX (lW a.aN l.cN) l.At.X l.At.Y=true:=kW.2 ⟨zu x,dN.2 ⟨x,lu.2 ⟨hx,h1.2.1⟩,rfl⟩,hxy⟩;rw[h3]at h4;cases h4
end
structure PS (n:Nat) (r:Nat->Nat) (h:Nat) (q:Z Nat) (seen:Z Bool) (pieces todo:Z Int):Prop where
 sl:seen.length=n
 sn:∀p,p<n->seen[p]? =some (decide<|r p<h\/p∈q)
 qn:q.Nodup
 qi:∀p∈q,p<n/\r p=h
 q0:h∈q
 td:todo=ints q
 pi:kB pieces
 pm:∀x,x∈pieces↔∃p∈q,x=((p:Nat):Int)
structure QS (n m:Nat) (tch:Z (Z Int)) (r:Nat->Nat) (h:Nat) (q qb:Z Nat) (CL:Z Int) (used:Z Bool):Prop where
 ul:used.length=m
 un:∀k,k<m->used[k]? =some (decide<|k∈qb)
 bi:kB CL
 bm:∀x,x∈CL↔∃k∈qb,x=((k:Nat):Int)
 bk:∀k∈qb,k<m/\r (n+k)=h/\∀l,tch[k]? =some l->∀p:Nat,(p:Int)∈l->p∈q
theorem PS.yO{n:Nat}{r:Nat->Nat}{h:Nat}{q:Z Nat}{seen:Z Bool}{pieces todo:Z Int}(H:PS n r h q seen pieces todo):q.length<=n/\pieces.length<=n:=by
 have h1:=gM H.qn (m:=List.range n) (λk hk=>by rw[nb];exact(H.qi k hk).1);rw[List.length_range]at h1;have h2:=gM H.pi.nodup (m:=ints q)<|λx hx=>qz.2<|(H.pm x).1 hx
 grind [mz]
theorem QS.yO{n m:Nat}{tch:Z (Z Int)}{r:Nat->Nat}{h:Nat}{q qb:Z Nat}{CL:Z Int}{used:Z Bool}(H:QS n m tch r h q qb CL used):CL.length<=m:=by
 have h2:=gM H.bi.nodup (m:=ints (List.range m)) (λx hx=>by
  obtain⟨k,hk,e⟩:=(H.bm x).1 hx
  exact qz.2 ⟨k,nb.2 (H.bk k hk).1,e⟩)
 grind [mz,List.length_range]
theorem Sa(n t:Nat)(r:Nat->Nat)(h:Nat):kB (ints<|gP n<|cls t r h):=KO<|List.Pairwise.sublist (List.filter_sublist.trans List.filter_sublist)<|List.pairwise_lt_range (n:=t)
theorem OX(bs:Z bV)(n t:Nat)(r:Nat->Nat)(h:Nat):kB (ints<|gB bs n<|cls t r h):=by
 refine KO ?_;unfold gB;rw[List.pairwise_map];have hp:(List.filter (λi=> !decide (i<n)&&sM bs (i - n))<|cls t r h).Pairwise (· < ·):=List.Pairwise.sublist (List.filter_sublist.trans List.filter_sublist)<|List.pairwise_lt_range (n:=t)
 grind
theorem DG{n t:Nat}{r:Nat->Nat}{h p:Nat}:p∈gP n (cls t r h)↔p<n/\p<t/\r p=h:=by
 unfold gP
 grind [sZ]
theorem DH{bs:Z bV}{n t:Nat}{r:Nat->Nat}{h k:Nat}:k∈gB bs n (cls t r h)↔n+k<t/\r (n+k)=h/\sM bs k=true:=by
 unfold gB;rw[dN];constructor
 ·grind [sZ,Bool.not_eq_true',decide_eq_false_iff_not]
 ·rintro⟨h1,h2,h3⟩;refine⟨n+k,?_,by omega⟩
  grind [sZ,Bool.not_eq_true',decide_eq_false_iff_not,Nat.add_sub_cancel_left]
section
variable {N:Nat}
theorem KP{bs:Z bV}{n m:Nat}{tch:Z (Z Int)}{r:Nat->Nat}(hC:EE n m tch r)(hm:tch.length=m)(ht:∀l∈tch,l.length<=1073741824/\∀x∈l,∃i:Nat,i<n/\x=((i:Nat):Int))(hn:n<=1000000)(hm2:m<=1000000)
  (hpl:∀(k:Nat)l,tch[k]? =some l->l≠[]->sM bs k=true) {h:Nat} (hh:h<n) (hr:r h=h) {seen:Z Bool} (hsl:seen.length=n) (hsn:∀p,p<n->seen[p]? =some (decide<|r p<h)) (hN:nq N):
  Ok (iw N tch ((h:Nat):Int) seen) (λx=>x.1.1=ints (gP n<|cls (n+m) r h)/\x.1.2.1=ints (gB bs n<|cls (n+m) r h)/\x.1.2.2= []/\x.2.length=n/\∀p,p<n->x.2[p]? =some (decide<|r p<h+1)):=by
 unfold iw;refine WR (hsn h hh)<|IS (pI false (by omega)) ?_
 refine WJ (XV (Go:=λst=>st.2.1=ints (gP n (cls (n+m) r h))/\st.2.2.1=ints (gB bs n (cls (n+m) r h))/\st.1.length=n/\∀p,p<n->st.1[p]? =some (decide (r p<h+1))) (Rt:=λ_=>False)
  (λst=>∃(q qb:Z Nat)(t:Nat),st.2.2.2.2.2=(t:Int)/\t<=q.length/\PS n r h q st.1 st.2.1 st.2.2.2.2.1/\QS n m tch r h q qb st.2.2.1 st.2.2.2.1/\∀(j p k:Nat)l,j<t->q[j]? =some p->tch[k]? =some l->((p:Nat):Int)∈l->k∈qb)
  (λst=>n+1 - st.2.2.2.2.2.toNat) ?_ ⟨[h],[],0,rfl,by simp,?_,?_,λj p k l hj=>by omega⟩ (by simp;omega)) ?_
 ·rintro⟨sn,pi,bo,us,td,t'⟩⟨q,qb,t,e,htq,hP,hQ,hcl⟩;dsimp only at e hP hQ ⊢;subst e;have htl:td.length=q.length:=by rw[hP.td,mz]
  have hqf:=hP.yO
  by_cases hlt:t<q.length
  ·rw[iG (by omega),aP];have hqt:q[t]? =some q[t]:=aM hlt;have hqi:=hP.qi _<|cH hlt
   refine WJ (Xr (n:=tch.length) (λst=>st.2.2.2.2.2) (λi st=>∃q' qb',q <+:q'/\(∀k∈qb,k∈qb')/\PS n r h q' st.1 st.2.1 st.2.2.2.2.1/\QS n m tch r h q' qb' st.2.2.1 st.2.2.2.1/\∀k l,k<i->tch[k]? =some l->((q[t]:Nat):Int)∈l->k∈qb')
    (Go:=λst=>∃q' qb',q <+:q'/\(∀k∈qb,k∈qb')/\PS n r h q' st.1 st.2.1 st.2.2.2.2.1/\QS n m tch r h q' qb' st.2.2.1 st.2.2.2.1/\∀k l,tch[k]? =some l->((q[t]:Nat):Int)∈l->k∈qb') (Rt:=λ_=>False) ?_ ?_ (cO _) rfl
    ⟨q,qb,List.prefix_refl _,λk hk=>hk,hP,hQ,λk l hk=>by omega⟩ (by omega)) ?_
   ·rintro k⟨sn1,pi1,bo1,us1,td1,i'⟩hk e⟨q1,qb1,hpre,hsub,hP1,hQ1,hc1⟩;dsimp only at e hP1 hQ1 ⊢;subst e;rw[iG hk,aP];have hkm:k<m:=by omega
    have htk:tch[k]? =some tch[k]:=aM hk;have htk2:=ht _<|cH hk
    have hq1t:td1[t]? =some ((q[t]:Nat):Int):=by
     rw[hP1.td];unfold ints;rw[gE,DB hpre hqt];rfl
    have hcond:((idx us1 ((k:Nat):Int)).bind λx948=>bif x948 then some true else((idx tch ((k:Nat):Int)).bind λx950=>(idx td1 (t:Int)).bind λx953=>(cT N x950 x953).bind λx954=>some<|!x954))=some (decide (k∈qb1)|| !decide (((q[t]:Nat):Int)∈tch[k])):=by
     rw[cB<|hQ1.un k hkm,aB,cB htk,aB,cB hq1t,aB,yf (l:=tch[k]) (c:=((q[t]:Nat):Int)) (by have:=htk2.1;omega) hN,aB]
     cases decide (k∈qb1) <;> rfl
    refine IS hcond<|Xj (λhb=>W4 ⟨bF (by omega),q1,qb1,hpre,hsub,hP1,hQ1,λk' l hk' hl hm'=>?_⟩)<|λhb=>?_
    ·by_cases e:k'=k
     ·subst e;rw[htk]at hl;injection hl with hl
      rw[hl,bQ hm',ku,Bool.or_false,dR]at hb;exact hb
     ·exact hc1 k' l (by omega) hl hm'
    ·rw[Bool.or_eq_false_iff,decide_eq_false_iff_not,Bool.not_eq_false',dR]at hb;obtain⟨hkn,hqm⟩:=hb;have hrk:r (n+k)=h:=by rw[<-hC.co q[t] (n+k) ⟨k,_,htk,hqm,rfl⟩];exact hqi.2
     have hbf:=hQ1.yO;refine WR (hQ1.un k hkm)<|IS (Gm hQ1.bi (by omega) hN) ?_
     refine WJ (Xr (n:=tch[k].length) (λst=>st.2.2.2) (λi st=>∃q2,q1 <+:q2/\PS n r h q2 st.1 st.2.1 st.2.2.1/\∀(j p:Nat),j<i->tch[k][j]? =some ((p:Nat):Int)->p∈q2)
      (Go:=λst=>∃q2,q1 <+:q2/\PS n r h q2 st.1 st.2.1 st.2.2.1/\∀(p:Nat),((p:Nat):Int)∈tch[k]->p∈q2) (Rt:=λ_=>False) ?_ ?_ (cO _) rfl ⟨q1,List.prefix_refl _,hP1,λj p hj=>by omega⟩ (by omega)) ?_
     ·rintro j⟨sn2,pi2,td2,jj⟩hj e⟨q2,hpre2,hP2,hc2⟩;dsimp only at e hP2 ⊢;subst e;have hlj:tch[k][j]? =some tch[k][j]:=aM hj;obtain⟨p,hpn,hpe⟩:=htk2.2 _<|cH hj
      rw[hpe]at hlj;have hpf:=hP2.yO;have hrp:r p=h:=by rw[hC.co p (n+k) ⟨k,_,htk,gl hlj,rfl⟩];exact hrk
      refine WR htk ?_;rw[iG hj,aP];refine WR htk<|WR hlj<|WR (hP2.sn p hpn) ?_
      refine WJ (P:=λst:Z Bool×Z Int×Z Int=>∃q2,q1 <+:q2/\PS n r h q2 st.1 st.2.1 st.2.2/\∀(j' p:Nat),j'<j+1->tch[k][j']? =some ((p:Nat):Int)->p∈q2) (Xj (λhb=>?_)<|λhb=>OF ⟨q2,hpre2,hP2,λj' p' hj' hp'=>?_⟩)<|λst hst=>W4 ⟨bF (by omega),hst⟩
      ·have hpq:p∉q2:=by
        rw[Bool.not_eq_true',decide_eq_false_iff_not]at hb;exact λh=>hb<|.inr h
       refine WR (hP2.sn p hpn)<|IS (Gm hP2.pi (by omega) hN)<|Xw (by rw[hP2.td,mz];simp only[dX,List.length_nil];omega)<|OF ⟨q2++[p],hpre2.trans<|List.prefix_append _ _,⟨?_,?_,?_,?_,?_,?_,?_,?_⟩,?_⟩
       ·rw[iU];exact hP2.sl
       ·intro p' hp';rw[cK,lZ]
        by_cases e:p=p'
        ·subst e;rw[aH rfl,aH (by rw[hP2.sl];exact hpn)];congr 1;exact(bQ<|.inr (by simp)).symm
        ·rw[aI e,hP2.sn p' hp'];congr 1;rw[decide_eq_decide,dI];simp only[lY];constructor
         ·exact λh=>h.elim .inl<|λh=> .inr<|.inl h
         ·exact λh=>h.elim .inl<|λh=>h.elim .inr<|λh=>absurd h.symm e
       ·rw[List.nodup_append];exact⟨hP2.qn,by simp,λa ha b hb=>by simp at hb;subst hb;exact λe=>hpq<|e▸ha⟩
       ·intro p' hp'
        rcases dI.1 hp' with hp'|hp'
        ·exact hP2.qi p' hp'
        ·simp at hp';subst hp';exact⟨hpn,hrp⟩
       ·exact List.mem_append_left _ hP2.q0
       ·dsimp only;rw[hP2.td,tD];rfl
       ·exact xl hP2.pi
       ·intro x;rw[F8,hP2.pm];constructor
        ·rintro(⟨p',h1,h2⟩|h1)
         ·exact⟨p',List.mem_append_left _ h1,h2⟩
         ·exact⟨p,by simp,h1⟩
        ·rintro⟨p',h1,h2⟩
         rcases dI.1 h1 with h1|h1
         ·exact .inl ⟨p',h1,h2⟩
         ·simp at h1;subst h1;exact .inr h2
       ·intro j' p' hj' hp'
        by_cases e:j'=j
        ·subst e;rw[hlj]at hp';injection hp' with hp'
         have:p'=p:=by omega
         subst this;simp
        ·exact List.mem_append_left _<|hc2 j' p' (by omega) hp'
      ·by_cases e:j'=j
       ·subst e;rw[hlj]at hp';injection hp' with hp'
        have:p'=p:=by omega
        subst this;rw[Bool.not_eq_false',dR]at hb
        rcases hb with hb|hb
        ·omega
        ·exact hb
       ·exact hc2 j' p' (by omega) hp'
     ·rintro⟨sn2,pi2,td2,jj⟩e⟨q2,hpre2,hP2,hc2⟩;dsimp only at e hP2 ⊢;subst e;refine WR htk ?_;rw[lL,aQ];refine W9 ⟨q2,hpre2,hP2,λp hp=>?_⟩;obtain⟨j,hj⟩:=dZ hp;exact hc2 j p (bS.1 hj).1 hj
     intro o ho;refine Xa ho ?_<|λr hr=>hr.elim
     rintro⟨sn2,pi2,td2,jj⟩⟨q2,hpre2,hP2,hc2⟩;dsimp only at hP2 ⊢;refine W4 ⟨bF (by omega),q2,qb1++[k],hpre.trans hpre2,λk' hk'=>List.mem_append_left _<|hsub k' hk',hP2,⟨?_,?_,?_,?_,?_⟩,λk' l hk' hl hm'=>?_⟩
     ·rw[iU];exact hQ1.ul
     ·intro k' hk';rw[cK,lZ]
      by_cases e:k=k'
      ·subst e;rw[aH rfl,aH (by rw[hQ1.ul];exact hkm)];congr 1;exact(bQ (by simp)).symm
      ·rw[aI e,hQ1.un k' hk'];congr 1;rw[decide_eq_decide,dI];simp only[lY];exact⟨.inl,λh=>h.elim id<|λh=>absurd h.symm e⟩
     ·exact xl hQ1.bi
     ·intro x;rw[F8,hQ1.bm];constructor
      ·rintro(⟨p',h1,h2⟩|h1)
       ·exact⟨p',List.mem_append_left _ h1,h2⟩
       ·exact⟨k,by simp,h1⟩
      ·rintro⟨p',h1,h2⟩
       rcases dI.1 h1 with h1|h1
       ·exact .inl ⟨p',h1,h2⟩
       ·simp at h1;subst h1;exact .inr h2
     ·intro k' hk'
      rcases dI.1 hk' with hk'|hk'
      ·obtain⟨h1,h2,h3⟩:=hQ1.bk k' hk';exact⟨h1,h2,λl hl p hp=>hpre2.subset<|h3 l hl p hp⟩
      ·simp at hk';subst hk';refine⟨hkm,hrk,λl hl p hp=>?_⟩;rw[htk]at hl;injection hl with hl
       exact hc2 p (by rw[hl];exact hp)
     ·by_cases e:k'=k
      ·subst e;simp
      ·exact List.mem_append_left _<|hc1 k' l (by omega) hl hm'
   ·rintro⟨sn1,pi1,bo1,us1,td1,i'⟩e⟨q1,qb1,hpre,hsub,hP1,hQ1,hc1⟩;dsimp only at e hP1 hQ1 ⊢;subst e;rw[lL,aQ];exact W9 ⟨q1,qb1,hpre,hsub,hP1,hQ1,λk l hl=>hc1 k l (bS.1 hl).1 hl⟩
   intro o ho;refine Xa ho ?_<|λr hr=>hr.elim
   rintro⟨sn1,pi1,bo1,us1,td1,i'⟩⟨q1,qb1,hpre,hsub,hP1,hQ1,hc1⟩;dsimp only at hP1 hQ1 ⊢;refine W4 ⟨⟨q1,qb1,t+1,bF (by omega),by have:=hpre.length_le;omega,hP1,hQ1,λj p k l hj hjp hl hm'=>?_⟩,?_⟩
   ·by_cases e:j=t
    ·subst e;rw[DB hpre hqt]at hjp;injection hjp with hjp;subst hjp
     exact hc1 k l hl hm'
    ·have hjq:q[j]? =some (q[j]'(by omega)):=aM _;rw[DB hpre hjq]at hjp;injection hjp with hjp;subst hjp
     exact hsub k<|hcl j _ k l (by omega) hjq hl hm'
   ·rw[bF (by omega)];simp only[cK];omega
  ·rw[CM (by omega:td.length<=t),aQ];have htq':t=q.length:=by omega
   have hclosed:∀i j,Lk n tch i j->(((i<n/\i∈q)\/∃k,k∈qb/\i=n+k)↔((j<n/\j∈q)\/∃k,k∈qb/\j=n+k)):=by
    rintro i j⟨k,l,hl,hil,rfl⟩;obtain⟨i',hi',ei⟩:=(ht l<|gl hl).2 _ hil;have:i'=i:=by omega
    subst this;constructor
    ·rintro(⟨_,h1⟩|⟨k',_,h1⟩)
     ·obtain⟨p,hp⟩:=dZ h1;exact .inr ⟨k,hcl p i' k l (by rw[htq'];exact(bS.1 hp).1) hp hl hil,rfl⟩
     ·omega
    ·rintro(⟨h1,_⟩|⟨k',h1,h2⟩)
     ·omega
     ·have:k'=k:=by omega
      subst this;exact .inl ⟨hi',(hQ.bk k' h1).2.2 l hl i' hil⟩
   have hall:∀x,x<n+m->r x=h->(x<n/\x∈q)\/∃k,k∈qb/\x=n+k:=λx hx hrx=>hC.fi _ hclosed h x (by omega) hx (by rw[hr,hrx])<|.inl ⟨hh,hP.q0⟩
   refine W9 ⟨?_,?_,hP.sl,λp hp=>?_⟩
   ·refine ES hP.pi (Sa _ _ _ _) λx=>?_;rw[hP.pm,qz];constructor
    ·rintro⟨p,h1,h2⟩;exact⟨p,DG.2 ⟨(hP.qi p h1).1,by have:=(hP.qi p h1).1;omega,(hP.qi p h1).2⟩,h2⟩
    ·rintro⟨p,h1,h2⟩;obtain⟨g1,g2,g3⟩:=DG.1 h1
     rcases hall p g2 g3 with⟨_,g4⟩|⟨k,_,g4⟩
     ·exact⟨p,g4,h2⟩
     ·omega
   ·refine ES hQ.bi (OX _ _ _ _ _) λx=>?_;rw[hQ.bm,qz];constructor
    ·rintro⟨k,h1,h2⟩;obtain⟨g1,g2,g3⟩:=hQ.bk k h1;refine⟨k,DH.2 ⟨by omega,g2,?_⟩,h2⟩;have hk:tch[k]? =some (tch[k]'(by omega)):=aM _;refine hpl k _ hk λhemp=>?_;have rD:∀i j,Lk n tch i j->((i=n+k)↔(j=n+k)):=by
      rintro i j⟨k',l,hl,hil,rfl⟩;obtain⟨i',hi',ei⟩:=(ht l<|gl hl).2 _ hil;constructor
      ·intro;omega
      ·intro e;have:k'=k:=by omega
       subst this;rw[hk]at hl;injection hl with hl
       rw[<-hl,hemp]at hil;cases hil
     have:=hC.fi (λx=>x=n+k) rD (n+k) h (by omega) (by omega) (by rw[g2,hr]) rfl;omega
    ·rintro⟨k,h1,h2⟩;obtain⟨g1,g2,_⟩:=DH.1 h1
     rcases hall (n+k) g1 g2 with⟨g4,_⟩|⟨k',g3,g4⟩
     ·omega
     ·have:k'=k:=by omega
      subst this;exact⟨k',g3,h2⟩
   ·rw[hP.sn p hp];congr 1;rw[decide_eq_decide];constructor
    ·rintro(h1|h1)
     ·omega
     ·have:=(hP.qi p h1).2;omega
    ·intro h1
     by_cases e:r p=h
     ·rcases hall p (by omega) e with⟨_,g4⟩|⟨k,_,g4⟩
      ·exact .inr g4
      ·omega
     ·exact .inl (by omega)
 ·refine⟨by rw[iU];exact hsl,λp hp=>?_,by simp,λp hp=>by simp at hp;subst hp;exact⟨hh,hr⟩,by simp,rfl,List.pairwise_singleton _ _,λx=>by simp⟩;rw[cK,lZ]
  by_cases e:h=p
  ·subst e;rw[aH rfl,aH (by rw[hsl];exact hh)];congr 1;exact(bQ<|.inr (by simp)).symm
  ·rw[aI e,hsn p hp];congr 1;rw[decide_eq_decide];simp only[lY];omega
 ·exact⟨by rw[List.length_replicate];exact hm,λk hk=>by simp[hm,hk],kN,λx=>by simp,λk hk=>by cases hk⟩
 intro o ho;refine Xa ho ?_<|λr hr=>hr.elim
 rintro⟨sn,pi,bo,us,td,t'⟩⟨h1,h2,h3,h4⟩;exact OF ⟨h1,h2,rfl,h3,h4⟩
end
theorem HV(bs:Z bV)(n t:Nat)(r:Nat->Nat)(hs:Z Nat)(h:Nat):m6 bs n t r (hs++[h])=if Kr bs n (cls t r h)=true then m6 bs n t r hs++[Rb bs n<|cls t r h]else m6 bs n t r hs:=by
 grind [m6,HK]
def OY(bs:Z bV)(n m:Nat)(r:Nat->Nat)(h:eB):Nat:=gi bs n (n+m) r<|r<|eI n h
structure Sb (G G':Z bZ):Prop where
 len:G'.length=G.length
 each:∀(g:Nat)x,G[g]? =some x->∃y,G'[g]? =some y/\y.fO=x.fO/\y.aN=x.aN
theorem A5(G:Z bZ)(lg:dA->aT Nat)(ls:Z dA):Sb G (hZ G lg ls):=
 ⟨x6 _ _ _,λg x hx=>⟨{x with fB:=(ls.filter<|λl=>decide<|lg l=some g).map lq},by grind [mB],rfl,rfl⟩⟩
section
variable {N:Nat}
theorem zJ{bs:Z bV}{n m:Nat}{r:Nat->Nat}(hbm:bs.length=m)(hn:n<=1000000)(hm:m<=1000000)(hle:∀i,i<n+m->r i<=i)(hrr:∀i,i<n+m->r (r i)=r i){G:Z bZ}(hG:Sb (m6 bs n (n+m) r<|bW (n+m) r) G){h:eB}(hh:F5 bs n m h)(hN:nq N):
  dP N G h=some ((OY bs n m r h:Nat):Int)/\OY bs n m r h<G.length:=by
 obtain⟨k,hk,hkb,hkp⟩:=hh.num;have hx:eI n h<n+m:=by
  grind [eI]
 have hhead:r (eI n h)∈bW (n+m) r:=iP.2 ⟨by grind,hrr _ hx⟩;have hne:Kr bs n (cls (n+m) r<|r<|eI n h)=true:=by
  unfold eI at hx ⊢
  by_cases hb:h.bV=true
  all_goals grind [cK,Ku,Kt]
 obtain⟨g1,g2⟩:=HL (bs:=bs) (n:=n) hhead hne;have hlen:G.length=(live bs n (n+m) r<|bW (n+m) r).length:=by rw[hG.len,vr]
 have hlive:(live bs n (n+m) r<|bW (n+m) r).Nodup:=List.Nodup.sublist List.filter_sublist<|na _ _
 have hll:(live bs n (n+m) r<|bW (n+m) r).length<=n+m:=by
  grind [rY,bW,mj]
 have hval:∀(g:Nat)y,G[g]? =some y->Ok (bif h.bV then((idx G ((g:Nat):Int)).bind λx241=>(cT N x241.aN h.Number).bind λx250=>bif x250 then some true else(bif(!h.bV)then((idx G ((g:Nat):Int)).bind λx253=>(cT N x253.fO h.Number).bind λx262=>some x262)else some false))else(bif(!h.bV)then((idx G ((g:Nat):Int)).bind λx264=>(cT N x264.fO h.Number).bind λx273=>some x273)else some false))
   (λb=>b=true↔(live bs n (n+m) r<|bW (n+m) r)[g]? =some (r<|eI n h)):=λg y hy=>by
  have hgl:g<(live bs n (n+m) r<|bW (n+m) r).length:=by have:=(bS.1 hy).1;omega
  have hlx:(live bs n (n+m) r<|bW (n+m) r)[g]? =some (live bs n (n+m) r<|bW (n+m) r)[g]:=aM hgl;have hgx:(m6 bs n (n+m) r<|bW (n+m) r)[g]? =some (Rb bs n<|cls (n+m) r (live bs n (n+m) r<|bW (n+m) r)[g]):=by unfold m6;rw[gE,hlx];rfl
  obtain⟨y',hy',e1,e2⟩:=hG.each g _ hgx;rw[hy]at hy';injection hy' with hy';subst hy'
  generalize hhd:(live bs n (n+m) r<|bW (n+m) r)[g]=hd at *;have hpl:y.fO.length<=n+m/\y.aN.length<=n+m:=by
   have:=IL n<|cls (n+m) r hd
   have:=IM bs n<|cls (n+m) r hd
   have:=CD (n+m) r hd;rw[e1,e2];unfold Rb;simp only[mz];omega
  rw[hlx]
  cases hb:h.bV with
  |true=>
   rw[aP,cB hy,aB,yf (by omega) hN,aB];have hix:eI n h=n+k:=by unfold eI;rw[aH hb,hk,cK]
   have hiff:(h.Number∈y.aN)↔hd=r (eI n h):=by
    rw[e2,hix];unfold Rb;dsimp only;rw[qz,hk];constructor
    ·rintro⟨i,hi,e⟩;have:i=k:=by omega
     subst this;exact(DH.1 hi).2.1.symm
    ·intro e;exact⟨k,DH.2 ⟨by omega,e.symm,(hkb hb).2⟩,rfl⟩
   by_cases hin:h.Number∈y.aN
   ·rw[bQ hin,aP];exact OF ⟨λ_=>by rw[hiff.1 hin],λ_=>rfl⟩
   ·rw[bY hin,aQ,ku,aQ];refine OF ⟨λh=>(by cases h),λh=>?_⟩;injection h with h
    exact absurd (hiff.2 h) hin
  |false=>
   rw[aQ,jH,aP,cB hy,aB,yf (by omega) hN,aB];have hix:eI n h=k:=by unfold eI;rw[aI (by grind),hk,cK]
   have hiff:(h.Number∈y.fO)↔hd=r (eI n h):=by
    rw[e1,hix];unfold Rb;dsimp only;rw[qz,hk];constructor
    ·rintro⟨i,hi,e⟩;have:i=k:=by omega
     subst this;exact(DG.1 hi).2.2.symm
    ·intro e;exact⟨k,DG.2 ⟨hkp hb,by omega,e.symm⟩,rfl⟩
   refine OF ?_;rw[dR,hiff];exact⟨λh=>by rw[h],λh=>by injection h⟩
 refine⟨XC ?_,by grind [OY]⟩;unfold dP OY;refine WJ (Xr (n:=G.length) (λs=>s) (λk _=>∀g,g<k->(live bs n (n+m) r<|bW (n+m) r)[g]? ≠some (r<|eI n h)) (Go:=λ_=>False) (Rt:=λs=>s=((gi bs n (n+m) r (r<|eI n h):Nat):Int)) ?_ ?_ (cO _) rfl (λg hg=>by omega) (by omega)) ?_
 ·rintro g s hg e hI;subst e;rw[iG hg,aP];refine WJ (hval g _<|aM hg) λb hb=>?_
  grind [XJ,Ah,W4,bF]
 ·grind
 intro o ho;exact Xa ho (λ_ h=>h.elim)<|λr hr=>OF hr
theorem KQ{bs:Z bV}{pcs:Z aD}{r:Nat->Nat}(hb:lK bs)(hp:pcs.length<=1000000)(hpr:∀p∈pcs,p.eD.length<=1000000/\∀x∈p.eD,x.X0<x.X1)(hd:∀l:dA,∀b∈bs,∀p∈pcs,nE l b=true->mA l p=true->False)
  (hle:∀i,i<pcs.length+bs.length->r i<=i) (hrr:∀i,i<pcs.length+bs.length->r (r i)=r i) {G:Z bZ} (hG:Sb (m6 bs pcs.length (pcs.length+bs.length) r<|bW (pcs.length+bs.length) r) G) (l:dA) (hN:nq N):
  fI N bs (pcs.map aD.cN) (pcs.map aD.eD) G l=some (G9 bs pcs r l)/\∀g,vN bs pcs r l=some g->g<G.length:=by
 have hbl:=hb.len;unfold fI G9 vN;rw[HU hb hp hpr l hN,aB,ML<|hd l]
 cases hh:rB bs pcs l with
 |none=>simp
 |some h=>
  obtain⟨e1,e2⟩:=zJ (N:=N) rfl hp (by omega) hle hrr hG (Dx hh) hN;refine⟨?_,λg hg=>?_⟩
  ·dsimp only[Option.getD_some,Option.isSome_some];rw[ku,aQ,e1,aB];rfl
  ·rw[Option.map_some]at hg;injection hg with hg
   rw[<-hg];exact e2
theorem OZ{bs:Z bV}{pcs:Z aD}:∀(k:Nat)l,(cU bs pcs)[k]? =some l->l≠[]->sM bs k=true:=λk l hl hne=>by
 unfold cU at hl;rw[gE,sQ]at hl;obtain⟨b,hb,rfl⟩:=hl;unfold sM;rw[hb]
 cases hp:b.fM with
 |true=>simpa using hp
 |false=>
  exfalso;refine hne ?_;have:rp (jc b) pcs pcs.length= []:=by
   unfold rp;rw[List.filter_eq_nil_iff];intro j _;rw[ot,Option.any_eq_false];intro p _;unfold jc;rw[hp];rfl
  rw[this];rfl
theorem NJ{bs:Z bV}{ls:Z dA}{pcs:Z aD}{r:Nat->Nat}(hb:lK bs)(hp:pcs.length<=2000)(hl:ls.length<=1000000)(hpr:∀p∈pcs,p.eD.length<=1000000/\∀x∈p.eD,x.X0<x.X1)(hd:∀l:dA,∀b∈bs,∀p∈pcs,nE l b=true->mA l p=true->False)
  (hC:EE pcs.length bs.length (cU bs pcs) r) (hN:nq N):
  gj N bs ls (pcs.map aD.cN) (pcs.map aD.eD) (cU bs pcs)=some (hZ (m6 bs pcs.length (pcs.length+bs.length) r<|bW (pcs.length+bs.length) r) (vN bs pcs r) ls):=by
 refine XC ?_;have hbl:=hb.len;have htl:(cU bs pcs).length=bs.length:=by simp[cU,dM]
 have hto:=zy (bs:=bs) (pcs:=pcs) (by omega);have hgl:∀hs:Z Nat,(m6 bs pcs.length (pcs.length+bs.length) r hs).length<=hs.length:=λhs=>by simp[vr,rY]
 unfold gj;rw[dM];refine IS (pI false (by omega)) ?_
 refine WJ (Xr (n:=pcs.length) (λst=>st.2.2) (λi st=>st.1=m6 bs pcs.length (pcs.length+bs.length) r (bW i r)/\st.2.1.length=pcs.length/\∀p,p<pcs.length->st.2.1[p]? =some (decide (r p<i)))
  (Go:=λst=>st.1=m6 bs pcs.length (pcs.length+bs.length) r (bW pcs.length r)) (Rt:=λ_=>False) ?_ ?_ (cO _) rfl ⟨by rfl,by simp,λp hp=>by simp[hp]⟩ (by omega)) ?_
 ·rintro i⟨G,sn,ii⟩hi e⟨hG,hsl,hsn⟩;dsimp only at e hG hsl hsn ⊢;subst e;subst hG;rw[iG hi,aP];refine WR (hsn i hi) ?_;refine WJ (P:=λst:Z bZ×Z Bool=>st.1=m6 bs pcs.length (pcs.length+bs.length) r (bW (i+1) r)/\st.2.length=pcs.length/\∀p,p<pcs.length->st.2[p]? =some (decide<|r p<i+1)) (Xj (λhb=>?_)<|λhb=>OF ⟨?_,hsl,λp hp=>?_⟩)<|λst hst=>W4 ⟨bF (by omega),hst⟩
  ·rw[Bool.not_eq_true',decide_eq_false_iff_not]at hb;have hri:r i=i:=by have:=hC.le i (by omega);omega
   refine WJ (KP (bs:=bs) hC htl hto (by omega) (by omega) OZ hi hri hsl hsn hN) λx hx=>?_;obtain⟨x1,x2,x3,x4,x5⟩:=hx;have h1:=hgl<|bW i r
   have h2:=mj i r;refine Xw (by grind)<|OF ⟨?_,x4,x5⟩
   dsimp only;have hne:Kr bs pcs.length (cls (pcs.length+bs.length) r i)=true:=by
    grind [Kt]
   rw[iE,aH hri,HV,aH hne,x1,x2,x3];rfl
  ·grind [Bool.not_eq_false',iE]
  ·rw[Bool.not_eq_false',dR]at hb;rw[hsn p hp];congr 1;rw[decide_eq_decide];have hne:r p≠i:=λe=>by have:=hC.rr p (by omega);rw[e]at this;omega
   omega
 ·rintro⟨G,sn,ii⟩e⟨hG,_,_⟩;dsimp only at e hG ⊢;subst e;rw[lL,aQ];exact W9 hG
 intro o ho;refine Xa ho ?_<|λr hr=>hr.elim
 rintro⟨G,sn,ii⟩hG;dsimp only at hG ⊢;subst hG;rw[htl];have halone:∀k,k<bs.length->(cU bs pcs)[k]? =some []->∀x,x<pcs.length+bs.length->(r x=r (pcs.length+k)↔x=pcs.length+k):=λk hk hemp x hx=>by
  constructor
  ·intro e;refine hC.fi (λy=>y=pcs.length+k) ?_ (pcs.length+k) x (by omega) hx e.symm rfl;rintro i j⟨k',l,hl,hil,rfl⟩;obtain⟨i',hi',ei⟩:=(hto l<|gl hl).2 _ hil;constructor
   ·intro;omega
   ·intro e;have:k'=k:=by omega
    subst this;rw[hemp]at hl;injection hl with hl
    rw[<-hl]at hil;cases hil
  ·intro e;rw[e]
 refine WJ (Xr (n:=bs.length) (λst=>st.2) (λi st=>st.1=m6 bs pcs.length (pcs.length+bs.length) r (bW (pcs.length+i) r))
  (Go:=λst=>st.1=m6 bs pcs.length (pcs.length+bs.length) r (bW (pcs.length+bs.length) r)) (Rt:=λ_=>False) ?_ ?_ (cO _) rfl rfl (by omega)) ?_
 ·rintro i⟨G,ii⟩hi e hG;dsimp only at e hG ⊢;subst e;subst hG;rw[iG hi,aP];have hx:bs[i]? =some bs[i]:=aM hi;have htx:(cU bs pcs)[i]? =some ((cU bs pcs)[i]'(by omega)):=aM _;have hpi:sM bs i=bs[i].fM:=by unfold sM;rw[hx];rfl
  have hlen:=hgl<|bW (pcs.length+i) r
  have hhl:=mj (pcs.length+i) r;have hcond:((idx bs ((i:Nat):Int)).bind λx210=>bif x210.fM then((idx (cU bs pcs) ((i:Nat):Int)).bind λx214=>some<|(x214.length:Int)==0)else some false)=some (sM bs i&&decide ((cU bs pcs)[i]'(by omega)= [])):=by
   rw[cB hx,aB,cB htx,aB,hpi]
   cases bs[i].fM with
   |false=>rfl
   |true=>
    rw[aP,Bool.true_and];congr 1;rw[jQ,dR,beq_iff_eq];constructor
    ·intro h;exact List.eq_nil_of_length_eq_zero (by omega)
    ·intro h;rw[h];rfl
  refine IS hcond ?_;have hstep:m6 bs pcs.length (pcs.length+bs.length) r (bW (pcs.length+(i+1)) r)=if(sM bs i&&decide ((cU bs pcs)[i]'(by omega)= []))=true then m6 bs pcs.length (pcs.length+bs.length) r (bW (pcs.length+i) r)++[⟨[],[((i:Nat):Int)],[]⟩]else m6 bs pcs.length (pcs.length+bs.length) r (bW (pcs.length+i) r):=by
   rw[<-Nat.add_assoc,iE]
   by_cases hemp:(cU bs pcs)[i]'(by omega)= []
   ·rw[hemp]at htx;have rD:=halone i hi htx;have hri:r (pcs.length+i)=pcs.length+i:=by
     have h1:=hC.le (pcs.length+i) (by omega);exact(rD _ (by omega)).1<|hC.rr _ (by omega)
    rw[aH hri,HV];have hcl:∀x,x∈cls (pcs.length+bs.length) r (pcs.length+i)↔x=pcs.length+i:=λx=>by
     rw[sZ];constructor
     ·rintro⟨h1,h2⟩;exact(rD x h1).1 (by rw[h2,hri])
     ·intro h;subst h;exact⟨by omega,hri⟩
    have hgp:gP pcs.length (cls (pcs.length+bs.length) r<|pcs.length+i)= []:=by
     unfold gP;rw[List.filter_eq_nil_iff];intro x hx;rw[(hcl x).1 hx];simp
    by_cases hpl:sM bs i=true
    ·have hne:Kr bs pcs.length (cls (pcs.length+bs.length) r<|pcs.length+i)=true:=by
      have:=Ku (bs:=bs) (n:=pcs.length) (r:=r) hpl (show pcs.length+i<pcs.length+bs.length by omega);rwa[hri]at this
     rw[aH hne,aH (by rw[hpl,bQ hemp];rfl)];congr 2;unfold Rb;rw[hgp];have hgb:ints (gB bs pcs.length<|cls (pcs.length+bs.length) r<|pcs.length+i)= [((i:Nat):Int)]:=by
      refine ES (OX _ _ _ _ _) (List.pairwise_singleton _ _) λx=>?_;rw[qz];simp only[lY];constructor
      ·rintro⟨k,h1,h2⟩;obtain⟨g1,g2,_⟩:=DH.1 h1;have:=(rD _ g1).1 (by rw[g2,hri]);omega
      ·intro h;exact⟨i,DH.2 ⟨by omega,hri,hpl⟩,h⟩
     rw[hgb];rfl
    ·have hne:¬Kr bs pcs.length (cls (pcs.length+bs.length) r<|pcs.length+i)=true:=by
      unfold Kr;have hgb:gB bs pcs.length (cls (pcs.length+bs.length) r<|pcs.length+i)= []:=by
       unfold gB;rw[List.map_eq_nil_iff,List.filter_eq_nil_iff];intro x hx;rw[(hcl x).1 hx,Nat.add_sub_cancel_left];simp[hpl]
      rw[hgp,hgb];simp
     rw[aI hne,aI (by rw[ot]at hpl ⊢;rw[hpl];rfl)]
   ·have hri:¬r (pcs.length+i)=pcs.length+i:=λe=>by
     obtain⟨x,hxm⟩:=List.exists_mem_of_ne_nil _ hemp;obtain⟨p,hp1,hp2⟩:=(hto _<|cH (show i<(cU bs pcs).length by omega)).2 x hxm;have h1:=hC.co p (pcs.length+i) ⟨i,_,htx,by rw[<-hp2];exact hxm,rfl⟩;have h2:=hC.le p (by omega);omega
    rw[aI hri,aI (by rw[bY hemp,Bool.and_false];exact pg)]
  refine WJ (P:=λst:Z bZ=>st=m6 bs pcs.length (pcs.length+bs.length) r (bW (pcs.length+(i+1)) r)) (Xj (λhb=>?_)<|λhb=>OF ?_)<|λst hst=>W4 ⟨bF (by omega),hst⟩
  ·refine Xw (by simp only[dX,List.length_nil];omega)<|OF ?_
   rw[hstep,aH hb]
  ·rw[hstep,aI (by rw[ot];exact hb)]
 ·rintro⟨G,ii⟩e hG;dsimp only at e hG ⊢;subst e;rw[lL,aQ];exact W9 hG
 intro o ho;refine Xa ho ?_<|λr hr=>hr.elim
 rintro⟨G,ii⟩hG;dsimp only at hG ⊢;subst hG;have hGl:=hgl<|bW (pcs.length+bs.length) r
 have hhl:=mj (pcs.length+bs.length) r;generalize hGG:m6 bs pcs.length (pcs.length+bs.length) r (bW (pcs.length+bs.length) r)=G at *;refine WJ (Xr (n:=ls.length) (λst=>st.2) (λi st=>st.1=hZ G (vN bs pcs r) (ls.take i)) (Go:=λst=>st.1=hZ G (vN bs pcs r) ls) (Rt:=λ_=>False) ?_ ?_ (cO _) rfl ?_ (by omega)) ?_
 ·rintro i⟨W,ii⟩hi e hW;dsimp only at e hW ⊢;subst e;subst hW;rw[iG hi,aP];have hx:ls[i]? =some ls[i]:=aM hi;have hts:ls.take (i+1)=ls.take i++[ls[i]]:=dH hi;obtain⟨e1,e2⟩:=KQ (N:=N) (r:=r) hb (by omega) hpr hd hC.le hC.rr (G:=hZ G (vN bs pcs r)<|ls.take i) (by rw[hGG];exact A5 _ _ _) ls[i] hN;refine WR hx<|IS e1 ?_
  refine WJ (P:=λst:Z bZ=>st=hZ G (vN bs pcs r) (ls.take<|i+1)) ?_<|λst hst=>W4 ⟨bF (by omega),hst⟩
  unfold G9
  cases hg:vN bs pcs r ls[i]with
  |none=>
   dsimp only;rw[show decide ((-1:Int)>=0)=false by decide,aQ];refine OF ?_;rw[hts,A2 hg]
  |some g=>
   have hgW:=e2 g hg;have hWg:(hZ G (vN bs pcs r)<|ls.take i)[g]? =some (hZ G (vN bs pcs r)<|ls.take i)[g]:=aM hgW;dsimp only;rw[bQ (by omega),aP];have hpl:(hZ G (vN bs pcs r)<|ls.take i)[g].fB.length<=ls.length:=by
    have:=hWg;rw[mB,sQ]at this;obtain⟨y,_,hy⟩:=this;rw[<-hy];dsimp only;rw[dM];have:=l4 (λl=>decide<|vN bs pcs r l=some g)<|ls.take i
    rw[dO]at this;omega
   refine WR hWg<|Xw (by simp only[dX,List.length_nil];omega)<|WR hWg<|OF ?_
   rw[cK,hts];exact CK hg hWg
 ·rintro⟨W,ii⟩e hW;dsimp only at e hW ⊢;subst e;rw[lL,aQ];exact W9 (by rw[dY]at hW;exact hW)
 ·apply List.ext_getElem?;intro g;rw[mB]
  cases hGg:G[g]? with
  |none=>rfl
  |some x=>
   have hx0:x.fB= []:=by
    rw[<-hGG]at hGg;unfold m6 at hGg;rw[gE,sQ]at hGg;obtain⟨hd',_,rfl⟩:=hGg;rfl
   simp only[Option.map_some,List.take_zero,List.filter_nil,List.map_nil,Option.some.injEq];rw[<-hx0]
 intro o ho;exact Xa ho (λst hst=>OF hst)<|λr hr=>hr.elim
end
section
variable {N:Nat}{a:gZ}{ka:Z (Z aA)}{cI:Z (Z (Z aA))}{r:Nat->Nat}{gs:Z bZ}{ofP ofB fK:Z Int}{fG:Z eB}
theorem iF.vt(b:iF a ka cI r gs ofP ofB fK fG):xq a:=NH b.zB.vt
theorem KR(b:iF a ka cI r gs ofP ofB fK fG)(hN:nq N):
  kc N a=some (a.aL,a.cS,a.aN,a.bO,(bN 0 cI).map aD.cN,(bN 0 cI).map aD.eD,gs,cU a.aN<|bN 0 cI):=by
 refine XC ?_;have hc16:=b.zB.yO.2;have hfew:=b.yO.2;have hbl:=b.zB.gb.len;have hll:=b.vt.yO;unfold kc;have hpl:∀k,(bN 0<|cI.take k).length<=2000:=λk=>by
  grind [DE,List.length,List.take_append_drop]
 refine WJ (Xr (n:=a.aL.length) (λst=>st.2.2) (λi st=>st.1=(bN 0<|cI.take i).map aD.cN/\st.2.1=(bN 0<|cI.take i).map aD.eD) (Go:=λst=>st.1=(bN 0 cI).map aD.cN/\st.2.1=(bN 0 cI).map aD.eD) (Rt:=λ_=>False) ?_ ?_ (cO _) rfl ⟨rfl,rfl⟩ (by omega)) ?_
 ·rintro i⟨La,Re,ii⟩hi e⟨h1,h2⟩;dsimp only at e h1 h2 ⊢;subst e;subst h1;subst h2;rw[iG hi,aP];obtain⟨s,ps,u,hd,hp,L⟩:=Ed b hi;have hcx:a.aL[i]? =some a.aL[i]:=aM hi;have hcs:=b.zB.cs _<|cH hi
  have hip:=(bS.1 hp).1;have hts:bN 0 (cI.take<|i+1)=bN 0 (cI.take i)++ps.map (λp=>⟨((i:Nat):Int),p,bB p⟩):=by
   grind [dH,bS,xZ,dO,Min.min]
  have hl1:=hpl i;have hl2:=hpl<|i+1
  rw[hts,eP,dM]at hl2;refine IS (zI b.zB.gb hcx hcs.1 hcs.2 L.dr hN)<|IS (L.pieces hN) ?_
  rw[dM]
  refine WJ (Xr (n:=ps.length) (λst=>st.2.2) (λj st=>st.1=(bN 0 (cI.take i)).map aD.cN++(ps.take j).map (λ_=>((i:Nat):Int))/\st.2.1=(bN 0 (cI.take i)).map aD.eD++(ps.take j).map bB)
   (Go:=λst=>st.1=(bN 0 (cI.take (i+1))).map aD.cN/\st.2.1=(bN 0 (cI.take (i+1))).map aD.eD) (Rt:=λ_=>False) ?_ ?_ (cO _) rfl ⟨by simp,by simp⟩ (by omega)) ?_
  ·rintro j⟨La,Re,jj⟩hj e⟨h1,h2⟩;dsimp only at e h1 h2 ⊢;subst e;subst h1;subst h2;rw[iG hj,aP];have hx:(ps.map bB)[j]? =some (bB ps[j]):=by grind
   refine Xw ?_<|WR hx<|Xw ?_<|W4 ⟨bF (by omega),?_,?_⟩
   ·grind
   ·grind
   all_goals grind [dH,lx]
  ·rintro⟨La,Re,jj⟩e⟨h1,h2⟩;dsimp only at e h1 h2 ⊢;subst e;subst h1;subst h2;rw[lL,aQ];refine W9 ⟨?_,?_⟩
   ·dsimp only;rw[hts,eU,List.map_map,dY];rfl
   ·dsimp only;rw[hts,eU,List.map_map,dY];rfl
  intro o ho;exact Xa ho (λst hst=>W4 ⟨bF (by omega),hst⟩)<|λr hr=>hr.elim
 ·rintro⟨La,Re,ii⟩e⟨h1,h2⟩;dsimp only at e h1 h2 ⊢;subst e;rw[lL,aQ];rw[nc (by rw[b.dr.Dv];exact cJ _)]at h1 h2;exact W9 ⟨h1,h2⟩
 intro o ho;refine Xa ho ?_<|λr hr=>hr.elim
 rintro⟨La,Re,ii⟩⟨h1,h2⟩;dsimp only at h1 h2 ⊢;subst h1;subst h2;rw[dM];have hpf:=λp hp=>tE b (p:=p) hp;generalize hpcs:bN 0 cI=pcs at *;refine WJ (Xr (n:=a.aN.length) (λst=>st.2) (λi st=>st.1=cU (a.aN.take i) pcs) (Go:=λst=>st.1=cU a.aN pcs) (Rt:=λ_=>False) ?_ ?_ (cO _) rfl rfl (by omega)) ?_
 ·rintro i⟨T,ii⟩hi e hT;dsimp only at e hT ⊢;subst e;subst hT;rw[iG hi,aP];have hx:a.aN[i]? =some a.aN[i]:=aM hi;have hg:=b.zB.gb.ok _<|cH hi
  have hsq:=Ra hg.1 hg.2;have hplain:¬a.aN[i].fM=true->rp (jc a.aN[i]) pcs pcs.length= []:=λhp=>by
   unfold rp;rw[List.filter_eq_nil_iff];intro j _;rw[ot,Option.any_eq_false];intro p _;unfold jc;rw[ot]at hp;rw[hp];rfl
  refine WJ (XV (Go:=λst=>st.1=ints (rp (jc a.aN[i]) pcs pcs.length)) (Rt:=λ_=>False) (λst=>∃j:Nat,st.2=((j:Nat):Int)/\j<=pcs.length/\st.1=ints (rp (jc a.aN[i]) pcs j)) (λst=>pcs.length - st.2.toNat) ?_ ⟨0,rfl,cO _,rfl⟩ (by simp;omega)) ?_
  ·rintro⟨ow,jj⟩⟨j,e,hj,ho⟩;dsimp only at e ho ⊢;subst e;subst ho
   by_cases hlt:j<pcs.length
   ·rw[iG hlt,aP,cB hx,aB,aB];refine Xj (λhpl=>?_)<|λhpl=>W9 ?_
    ·have hpx:pcs[j]? =some pcs[j]:=aM hlt;have hlx:(pcs.map aD.cN)[j]? =some pcs[j].cN:=by rw[gE,hpx];rfl
     have hrx:(pcs.map aD.eD)[j]? =some pcs[j].eD:=by rw[gE,hpx];rfl
     obtain⟨f1,f2,_⟩:=hpf _<|cH hlt
     have hil:=Dw (jc a.aN[i]) pcs j;have hcond:((some a.aN[i]).bind λx932=>(idx (pcs.map aD.cN) ((j:Nat):Int)).bind λx935=>(gq N x932 x935).bind λx936=>bif x936 then((idx (pcs.map aD.eD) ((j:Nat):Int)).bind λx938=>(some a.aN[i]).bind λx941=>(cV N x941).bind λx944=>(kl N x938 x944).bind λx946=>some x946)else some false)=some (jc a.aN[i] pcs[j]):=by
      rw[aB,cB hlx,aB,ye,aB,cB hrx,aB,aB,qB hg.1,aB,Qd (by omega) (λq hq=>IJ (f2 q hq).1 (f2 q hq).2.1 (f2 q hq).2.2) hsq hN,aB];unfold jc;rw[hpl,Bool.true_and]
      cases m0 a.aN[i] pcs[j].cN <;> rfl
     refine IS hcond ?_;refine WJ (P:=λst:Z Int=>st=ints (rp (jc a.aN[i]) pcs<|j+1)) (Xj (λhb=>?_)<|λhb=>OF ?_)<|λst hst=>W4 ⟨⟨j+1,bF (by omega),hlt,hst⟩,?_⟩
     ·refine Xw (by rw[mz];simp only[dX,List.length_nil];omega)<|OF ?_
      rw[BH hpx,aH hb,tD];rfl
     ·rw[BH hpx,aI (by rw[ot];exact hb)]
     ·dsimp only;rw[bF (by omega)];simp only[cK];omega
    ·have hn:=hplain (by rw[hpl];exact pg);have hj0:rp (jc a.aN[i]) pcs j= []:=by
      unfold rp;rw[List.filter_eq_nil_iff];intro j' hj';rw[ot,Option.any_eq_false];intro p _;unfold jc;rw[hpl];rfl
     dsimp only;rw[hn,hj0]
   ·have:j=pcs.length:=by omega
    subst this;rw[lL,aQ,aB,aQ];exact W9 rfl
  intro o ho;refine Xa ho ?_<|λr hr=>hr.elim
  rintro⟨ow,jj⟩ho2;dsimp only at ho2 ⊢;subst ho2;refine Xw ?_<|W4 ⟨bF (by omega),?_⟩
  ·unfold cU;rw[dM,dO];simp only[dX,List.length_nil];omega
  ·dsimp only;unfold cU;rw[dH hi,eU];rfl
 ·rintro⟨T,ii⟩e hT;dsimp only at e hT ⊢;subst e;rw[lL,aQ];exact W9 (by rw[dY]at hT;exact hT)
 intro o ho;refine Xa ho ?_<|λr hr=>hr.elim
 rintro⟨T,ii⟩hT;dsimp only at hT ⊢;subst hT;have hcon:=b.AK;rw[hpcs]at hcon;have hnb:=λl=>MM b l;rw[hpcs]at hnb;refine IS (NJ (r:=r) b.zB.gb (by omega) (by omega) (λp hp=>⟨by have:=(hpf p hp).1;omega,λx hx=>((hpf p hp).2.1 x hx).2.1⟩) hnb hcon.conn hN)<|OF ?_
 rw[<-hcon.gs]
end
section
variable {bs:Z bV}{ls:Z dA}{pcs:Z aD}{r:Nat->Nat}{gs:Z bZ}{ofP ofB fK:Z Int}{fG:Z eB}
theorem LU(hc:x8 bs ls pcs r gs ofP ofB fK fG){g:Nat}{x:bZ}(hg:gs[g]? =some x):
  ∃hd,(live bs pcs.length (pcs.length+bs.length) r<|bW (pcs.length+bs.length) r)[g]? =some hd/\x.fO=ints (gP pcs.length<|cls (pcs.length+bs.length) r hd)/\
   x.aN=ints (gB bs pcs.length<|cls (pcs.length+bs.length) r hd)/\x.fB=(ls.filter<|λl=>decide<|vN bs pcs r l=some g).map lq:=by
 rw[hc.gs,mB]at hg;obtain⟨y,hy,rfl⟩:=sQ.1 hg;unfold m6 at hy;rw[gE]at hy;obtain⟨hd,h1,rfl⟩:=sQ.1 hy;exact⟨hd,h1,rfl,rfl,rfl⟩
theorem I1(hc:x8 bs ls pcs r gs ofP ofB fK fG):gs.length=(live bs pcs.length (pcs.length+bs.length) r<|bW (pcs.length+bs.length) r).length/\gs.length<=pcs.length+bs.length:=by
 have e:gs.length=(live bs pcs.length (pcs.length+bs.length) r<|bW (pcs.length+bs.length) r).length:=by
  rw[hc.gs,x6,vr]
 grind [rY,bW,mj]
theorem O0(hc:x8 bs ls pcs r gs ofP ofB fK fG){k:Nat}(hk:k<pcs.length):
  ∃g:Nat,ofP[k]? =some (g:Int)/\g<gs.length/\(live bs pcs.length (pcs.length+bs.length) r<|bW (pcs.length+bs.length) r)[g]? =some (r k):=by
 have hm:r k∈bW (pcs.length+bs.length) r:=iP.2 ⟨by have:=hc.conn.le k (by omega);omega,hc.conn.rr k (by omega)⟩;obtain⟨g1,g2⟩:=HL (bs:=bs) (n:=pcs.length) hm<|Kt hk (by omega)
 exact⟨_,hc.of.pc k hk hm,by grind [I1],g2⟩
theorem Sd(hc:x8 bs ls pcs r gs ofP ofB fK fG){g:Nat}{x:bZ}(hg:gs[g]? =some x)(k:Nat):
  (k:Int)∈x.fO↔k<pcs.length/\ofP[k]? =some (g:Int):=by
 obtain⟨hd,h1,h2,_⟩:=LU hc hg;rw[h2,qz];constructor
 ·rintro⟨i,hi,e⟩;have:k=i:=by omega
  subst this;obtain⟨a1,a2,a3⟩:=DG.1 hi;obtain⟨g',b1,b2,b3⟩:=O0 hc a1;have:=Ah (List.Nodup.sublist List.filter_sublist<|na _ _) h1<|a3▸b3
  grind
 ·rintro⟨a1,a2⟩;obtain⟨g',b1,b2,b3⟩:=O0 hc a1;rw[a2]at b1;injection b1 with b1
  have:g=g':=by omega
  grind [DG]
theorem Qe(hc:x8 bs ls pcs r gs ofP ofB fK fG){g:Nat}{x:bZ}(hg:gs[g]? =some x):∀c∈x.fO,∃k:Nat,c=(k:Int):=by
 grind [LU,qz]
theorem Qg(hc:x8 bs ls pcs r gs ofP ofB fK fG){g:Nat}{x:bZ}(hg:gs[g]? =some x):x.fO.length<=pcs.length+bs.length/\x.aN.length<=pcs.length+bs.length/\x.fB.length<=ls.length:=by
 obtain⟨hd,h1,h2,h3,h4⟩:=LU hc hg;have a1:=IL pcs.length<|cls (pcs.length+bs.length) r hd
 grind [IM,cls,CD,mz,dM,l4,decide,vN]
end
section
variable {N:Nat}{a:gZ}{ka:Z (Z aA)}{cI:Z (Z (Z aA))}{r:Nat->Nat}{gs:Z bZ}{ofP ofB fK:Z Int}{fG:Z eB}
theorem Qh(x:dA)(p:eK):lq x=p↔x.Part=p.Part/\x.eK=p.eK:=by
 cases p;unfold lq;rw[eK.mk.injEq]
theorem xt(g:xq a)(p:eK)(hN:nq N):fX N a p=some (kY a p):=by
 obtain⟨r,h1,h2⟩:=KK (N:=N) (p:=p) g.up (by have:=g.yO;omega) (by omega) (φ:=kg N) (λx=>by unfold kg;rw[Dt,aB,qJ,aB]);unfold fX;have e:g8 N a.bO p (kg N)=Oo N a.bO p (kg N):=rfl;rw[e,h1,aB];exact h2
end
theorem EE.uniq{n m:Nat}{tch:Z (Z Int)}{r1 r2:Nat->Nat}(h1:EE n m tch r1)(h2:EE n m tch r2){i j:Nat}(hi:i<n+m)(hj:j<n+m):r1 i=r1 j↔r2 i=r2 j:=by
 have key:∀{r1 r2:Nat->Nat},EE n m tch r1->EE n m tch r2->r1 i=r1 j->r2 i=r2 j:=λ{r1 r2}h1 h2 e=>
  (h1.fi (λx=>r2 i=r2 x) (λa b hab=>by rw[h2.co a b hab]) i j hi hj e) rfl
 grind
section
variable {N:Nat}{a:gZ}{ka:Z (Z aA)}{cI:Z (Z (Z aA))}{r:Nat->Nat}{gs:Z bZ}{ofP ofB fK:Z Int}{fG:Z eB}
theorem Se(x y:Int)(u:Z Int):ki N x y [] u=fW N u x y:=by
 show(((fW N u x y).bind λx38=>some x38).bind λs36=>some s36)=_;simp
theorem I2{bs:Z bV}{pcs:Z aD}{l:dA}{h:eB}(hh:rB bs pcs l=some h)(hn:pcs.length+bs.length<=1000000000):
  jr N h (pcs.length:Int)=some ((eI pcs.length h:Nat):Int)/\eI pcs.length h<pcs.length+bs.length:=by
 obtain⟨k,e,h1,h2⟩:=(Dx hh).num
 grind [jr,eI,cK,wrap_add]
structure Qi (bs:Z bV) (pcs:Z aD) (ls:Z dA) (r2:Nat->Nat) (j:Nat) (up:Z Int) (fm:Z (Int×Int)) (out:Z Int):Prop where
 uf:UF (pcs.length+bs.length) up r2
 len:out.length=ls.length
 no:∀i l,i<j->ls[i]? =some l->rB bs pcs l=none->out[i]? =some (-1)
 yes:∀i l h,i<j->ls[i]? =some l->rB bs pcs l=some h->kL fm ((r2 (eI pcs.length h):Nat):Int)=true/\out[i]? =some (fH fm ((r2 (eI pcs.length h):Nat):Int) 0)
 low:∀x,kL fm x=true->∃v:Nat,fH fm x 0=(v:Int)/\v<j
 inj:∀x y,kL fm x=true->kL fm y=true->fH fm x 0=fH fm y 0->x=y
theorem LV{bs:Z bV}{pcs:Z aD}{ls:Z dA}(hn:pcs.length+bs.length<=1000000000)(hp:pcs.length<=1073741824)(hbl:bs.length<=1073741824)(hl:ls.length<=1073741824)(hof:fK=ls.map (G9 bs pcs r))(hat:fG=ls.map (λl=>(rB bs pcs l).getD ⟨false,0⟩))(hN:nq N):
  ∃r2 c up fm,fD N bs ls pcs (cU bs pcs) fK fG []=some c/\EE pcs.length bs.length (cU bs pcs) r2/\Qi bs pcs ls r2 ls.length up fm c:=by
 suffices h:Ok (fD N bs ls pcs (cU bs pcs) fK fG []) (λc=>∃r2 up fm,EE pcs.length bs.length (cU bs pcs) r2/\Qi bs pcs ls r2 ls.length up fm c)by
  obtain⟨c,h1,r2,up,fm,h2,h3⟩:=h
  grind
 unfold fD;refine IS (x:=[]) rfl ?_;rw[wrap_add (by omega)];obtain⟨up0,u1,u2⟩:=zo (N:=N) (n:=pcs.length+bs.length) (by omega);refine IS u1 ?_;simp only[Se];refine WJ (HJ (n:=pcs.length) (m:=bs.length) (by simp[cU]) (zy (by omega)) (by omega) (by omega) u2 hN) ?_;rintro up1⟨r2,v1,v2⟩;refine IS (x:=up1) rfl<|IS (pI 0 (by omega)) ?_
 have rD:fG.length=ls.length:=by rw[hat,dM]
 refine WJ (XI (λj(st:Z Int×Z (Int×Int)×Z Int)=>Qi bs pcs ls r2 j st.1 st.2.1 st.2.2) (by omega) ⟨v1,by simp,λi l h=>by omega,λi l h h1=>by omega,λx hx=>(by cases hx),λx y hx=>(by cases hx)⟩ ?_)<|λst I=>OF ⟨r2,st.1,st.2.1,v2,by grind⟩
 rintro j⟨up,fm,out⟩hj I;rw[rD]at hj;dsimp only at I ⊢;have hx:ls[j]? =some ls[j]:=aM hj;have h1:fG[j]? =some ((rB bs pcs ls[j]).getD ⟨false,0⟩):=by grind
 have h2:fK[j]? =some (G9 bs pcs r ls[j]):=by grind
 have h3:out[j]? =some (out[j]'(by rw[I.len];exact hj)):=aM _;have hjo:j<out.length:=by grind
 refine WR h1 ?_
 cases hh:rB bs pcs ls[j]with
 |none=>
  have e1:G9 bs pcs r ls[j] = -1:=by grind [G9,vN]
  refine IS (x:=0) rfl<|IS (x:=true) (by grind [cB,aB]) ?_
  refine WR h3<|OF ?_
  dsimp only;rw[cK];refine⟨I.uf,by rw[iU];exact I.len,λi l hi hil hn=>?_,λi l h hi hil hs=>?_,λx hx=>?_,I.inj⟩
  ·by_cases e:i=j
   ·grind
   ·rw[List.getElem?_set_ne<|Ne.symm e];exact I.no i l (by omega) hil hn
  ·by_cases e:i=j
   ·grind
   ·rw[List.getElem?_set_ne<|Ne.symm e];exact I.yes i l h (by omega) hil hs
  ·obtain⟨v,q1,q2⟩:=I.low x hx;grind
 |some h=>
  obtain⟨c1,c2⟩:=I2 (N:=N) hh hn;have e1:∃g:Nat,G9 bs pcs r ls[j]=(g:Int):=by grind [G9,vN]
  obtain⟨g,e1⟩:=e1;refine IS c1<|IS (x:=false) (by rw[cB h2,aB,e1,bY (show ¬(g:Int)<0 by omega),aQ];rfl) ?_
  rw[aQ];obtain⟨up2,t1,t2⟩:=tR (N:=N) I.uf c2 (by omega);refine IS t1 ?_;dsimp only;have fin:∀(up3:Z Int)(fm2:Z (Int×Int)),UF (pcs.length+bs.length) up3 r2->(∀x,kL fm x=true->kL fm2 x=true/\fH fm2 x 0=fH fm x 0)->kL fm2 ((r2 (eI pcs.length h):Nat):Int)=true->(∀x,kL fm2 x=true->∃v:Nat,fH fm2 x 0=(v:Int)/\v<j+1)->(∀x y,kL fm2 x=true->kL fm2 y=true->fH fm2 x 0=fH fm2 y 0->x=y)->
    Qi bs pcs ls r2 (j+1) up3 fm2 (out.set j<|fH fm2 ((r2 (eI pcs.length h):Nat):Int) 0):=λup3 fm2 g1 g2 g3 g4 g5=>by
   refine⟨g1,by rw[iU];exact I.len,λi l hi hil hn=>?_,λi l h' hi hil hs=>?_,g4,g5⟩
   ·by_cases e:i=j
    ·subst e;rw[hx]at hil;injection hil with hil;subst hil;rw[hh]at hn;cases hn
    ·rw[List.getElem?_set_ne<|Ne.symm e];exact I.no i l (by omega) hil hn
   ·by_cases e:i=j
    ·subst e;rw[hx]at hil;injection hil with hil;subst hil;rw[hh]at hs;injection hs with hs;subst hs
     exact⟨g3,by grind⟩
    ·obtain⟨q1,q2⟩:=I.yes i l h' (by omega) hil hs;rw[List.getElem?_set_ne<|Ne.symm e,q2,(g2 _ q1).2];exact⟨(g2 _ q1).1,rfl⟩
  cases hm:kL fm ((r2 (eI pcs.length h):Nat):Int)with
  |true=>
   rw[ku,aQ];obtain⟨up3,t3,t4⟩:=tR (N:=N) t2 c2 (by omega);refine IS (x:=(up2,fm)) rfl<|IS t3<|WR h3<|OF ?_
   dsimp only;rw[cK];exact fin up3 fm t4 (λx hx=>⟨hx,rfl⟩) hm (λx hx=>by obtain⟨v,q1,q2⟩:=I.low x hx;exact⟨v,q1,by omega⟩) I.inj
  |false=>
   rw[jH,aP];obtain⟨up3,t3,t4⟩:=tR (N:=N) t2 c2 (by omega);obtain⟨up4,t5,t6⟩:=tR (N:=N) t4 c2 (by omega);refine IS (x:=(up3,r8 fm ((r2 (eI pcs.length h):Nat):Int) (j:Int))) (by rw[t3,aB])<|IS t5<|WR h3<|OF ?_
   dsimp only;rw[cK];refine fin up4 _ t6 (λx hx=>?_) (by rw[n7];simp) (λx hx=>?_)<|λx y hx hy e=>?_
   ·have hne:x≠((r2 (eI pcs.length h):Nat):Int):=λe=>by rw[e,hm]at hx;cases hx
    rw[n7,lJ,aI hne,hx];exact⟨by simp,rfl⟩
   ·rw[lJ]
    by_cases e:x=((r2 (eI pcs.length h):Nat):Int)
    ·rw[aH e];exact⟨j,rfl,by omega⟩
    ·rw[aI e];rw[n7,bY e,Bool.false_or]at hx;obtain⟨v,q1,q2⟩:=I.low x hx;exact⟨v,q1,by omega⟩
   ·rw[lJ,lJ]at e;rw[n7]at hx hy
    by_cases ex:x=((r2 (eI pcs.length h):Nat):Int)
    ·by_cases ey:y=((r2 (eI pcs.length h):Nat):Int)
     ·rw[ex,ey]
     ·rw[aH ex,aI ey]at e;rw[bY ey,Bool.false_or]at hy;obtain⟨v,q1,q2⟩:=I.low y hy;omega
    ·rw[bY ex,Bool.false_or]at hx
     by_cases ey:y=((r2 (eI pcs.length h):Nat):Int)
     ·rw[aI ex,aH ey]at e;obtain⟨v,q1,q2⟩:=I.low x hx;omega
     ·rw[aI ex,aI ey]at e;rw[bY ey,Bool.false_or]at hy;exact I.inj x y hx hy e
theorem Qj(b:iF a ka cI r gs ofP ofB fK fG){x y:dA}{h h':eB}(hx:rB a.aN (bN 0 cI) x=some h)(hy:rB a.aN (bN 0 cI) y=some h'):(vN a.aN (bN 0 cI) r x=vN a.aN (bN 0 cI) r y)↔r (eI (bN 0 cI).length h)=r (eI (bN 0 cI).length h'):=by
 have gp:∀{z:dA}{h:eB},rB a.aN (bN 0 cI) z=some h->(live a.aN (bN 0 cI).length ((bN 0 cI).length+a.aN.length) r<|bW ((bN 0 cI).length+a.aN.length) r)[gi a.aN (bN 0 cI).length ((bN 0 cI).length+a.aN.length) r<|r<|eI (bN 0 cI).length h]? =some (r<|eI (bN 0 cI).length h):=by
  intro z h hz;obtain⟨k,e,g1,g2⟩:=(Dx hz).num;have hle:=b.AK.conn.le;have hrr:=b.AK.conn.rr;have hd:∀i,i<(bN 0 cI).length+a.aN.length->r i∈bW ((bN 0 cI).length+a.aN.length) r:=λi hi=>lu.2 ⟨nb.2 (by grind),by grind⟩;unfold eI
  cases hB:h.bV with
  |true=>
   grind [cK,HL,Ku]
  |false=>
   have k1:=g2 hB;rw[aI pg,e,cK]
   grind [HL,Kt]
 unfold vN
 grind
theorem I3(b:iF a ka cI r gs ofP ofB fK fG)(h1:jq N a=some (some (a.aL,a.cS,a.aN,a.bO,ka,bN 0 cI,cU a.aN<|bN 0 cI,gs,ofP,ofB,fK,fG),0)){p q:eK}{i k:Nat}{x y:dA}(ep:kY a p=(i:Int))(hx:a.bO[i]? =some x)(eq:kY a q=(k:Int))(hy:a.bO[k]? =some y)(hN:nq N):
  k7 N a [] p q=some ((vN a.aN (bN 0 cI) r x).isSome&&decide (vN a.aN (bN 0 cI) r x=vN a.aN (bN 0 cI) r y),0):=by
 have hf:=b.yO.2;have hbl:=b.zB.gb.len;have hlf:=b.vt.yO;obtain⟨r2,c,up,fm,c1,c2,c3⟩:=LV (N:=N) (r:=r) (fK:=fK) (fG:=fG) (bs:=a.aN) (pcs:=bN 0 cI) (ls:=a.bO) (by omega) (by omega) (by omega) (by omega) b.AK.fK b.AK.fG hN;have hil:=(bS.1 hx).1;have hkl:=(bS.1 hy).1;unfold k7;rw[h1,aB,xt b.vt p hN,xt b.vt q hN];simp only[E3,bne_self_eq_false,aQ,aB];have hz:∀(p0:Z (Z aF))(p1:Z aF)(p2:Z bV)(p3:Z dA)(p4:Z (Z aA))(p5:Z aD)(p6:Z (Z Int))(p7:Z bZ)(p8 p9 p10:Z Int)(p11:Z eB),pB N p0 p1 p2 p3 p4 p5 p6 p7 p8 p9 p10 p11 []=some 0:=λ_ _ _ _ _ _ _ _ _ _ _ _=>rfl;rw[hz,aB,bne_self_eq_false,aQ,ep,eq,bY (show ¬(i:Int)<0 by omega),bY (show ¬(k:Int)<0 by omega),Bool.or_false,aQ,c1,aB]
 cases hhx:rB a.aN (bN 0 cI) x with
 |none=>
  have e1:vN a.aN (bN 0 cI) r x=none:=by grind [vN]
  rw[cB<|c3.no i x hil hx hhx,aB,e1];rfl
 |some h=>
  obtain⟨q1,q2⟩:=c3.yes i x h hil hx hhx;obtain⟨v,v1,_⟩:=c3.low _ q1;have e1:(vN a.aN (bN 0 cI) r x).isSome=true:=by grind [vN]
  rw[cB q2,aB,v1,bQ (show(v:Int)>=0 by omega),aP,aB,e1,Bool.true_and]
  cases hhy:rB a.aN (bN 0 cI) y with
  |none=>
   have e2:vN a.aN (bN 0 cI) r y=none:=by grind [vN]
   rw[cB<|c3.no k y hkl hy hhy,aB,aB,bY (λe=>by grind),show((v:Int)== -1)=false from by rfl]
  |some h'=>
   obtain⟨s1,s2⟩:=c3.yes k y h' hkl hy hhy;obtain⟨w,w1,_⟩:=c3.low _ s1;rw[cB s2,aB,w1,aB];have t1:=(I2 (N:=N) hhx (by omega)).2;have t2:=(I2 (N:=N) hhy (by omega)).2;have key:((v:Int)=(w:Int))↔vN a.aN (bN 0 cI) r x=vN a.aN (bN 0 cI) r y:=by
    rw[Qj b hhx hhy,EE.uniq b.AK.conn c2 t1 t2];constructor
    ·intro e;have:=c3.inj _ _ q1 s1 (by omega);omega
    grind
   grind
end
def BL:gZ:=⟨[[⟨0,0,1,1⟩]],[],[],[⟨⟨[97]⟩,⟨[49]⟩,0,⟨0,0⟩⟩]⟩
def Sf:eK:=⟨⟨[97]⟩,⟨[49]⟩⟩
def yu:aA:=⟨0,1,[0,1]⟩
theorem Qk:vm [⟨0,0,1,1⟩] [yu]where
 can:=⟨λb hb=>by
  grind [cQ,yu,decide,kB],List.pairwise_singleton _ _⟩
 cover:=λx y=>by
  show r6 (if(0:Int)<=y/\y<1 then [0,1]else []) x=((decide ((0:Int)<=x)&&decide (x<1))&&(decide ((0:Int)<=y)&&decide (y<1))||false)
  by_cases h:(0:Int)<=y/\y<1
  ·rw[aH h,bQ h.1,bQ h.2];unfold r6;rw[rV,rV,Iz]
   by_cases h0:(0:Int)<=x
   ·by_cases h1:(1:Int)<=x
    ·rw[aH h0,aH h1,bY (show ¬x<1 by omega)];simp
    ·rw[aH h0,aI h1,bQ h0,bQ (show x<1 by omega)];rfl
   ·rw[aI h0,aI (show ¬(1:Int)<=x by omega),bY h0];rfl
  ·rw[aI h];have:(decide ((0:Int)<=y)&&decide (y<1))=false:=by
    rw[Bool.eq_false_iff];intro h';rw[dD,dR,dR]at h';exact h h'
   rw[this,Bool.and_false];rfl
 FM:=λb hb=>by
  have e:b=cQ yu:=by simpa using hb
  subst e;exact⟨by decide,by decide,by decide⟩
theorem V9:vm [] []:=⟨ga.nil,λ_ _=>rfl,λb hb=>by cases hb⟩
theorem Wa:ko [⟨0,0,1,1⟩]=0:=tC.2 ⟨by decide,λk a b h1 h2=>(by grind),⟨_,Qk,rfl⟩⟩
theorem Wb:ko []=0:=tC.2 ⟨by decide,λk a b h1 h2=>(by simp at h2),⟨_,V9,rfl⟩⟩
theorem Sg:zA BL:=⟨by decide,by decide,by decide,by decide,by decide,by
 intro x hx
 grind [BL,decide]⟩
theorem Sh:lr BL=0:=by
 have e1:BL.aL.findSome? zz=none:=by
  show [[(⟨0,0,1,1⟩:aF)]].findSome? zz=none;simp[zz,Wa]
 have e2:j4 BL=0:=by decide
 have e3:nS BL=0:=by
  rfl
 grind [tZ,BL,lr,decide,Ny,ko,IQ,Wb]
theorem UG{ka:Z (Z aA)}{cI:Z (Z<|Z aA)}(D:zx BL.aL BL.aN BL.aL.length ka cI):ka= [[yu]]/\cI= [[[yu]]]:=by
 obtain⟨s,rfl⟩:=List.length_eq_one_iff.1 D.len;obtain⟨ps,rfl⟩:=List.length_eq_one_iff.1 D.Dv;have hd:=D.dr 0 [⟨0,0,1,1⟩] s (by decide) rfl rfl;have hs:s= [yu]:=Kn hd.can Qk.can λx y=>by
  rw[hd.cover,Qk.cover];show(_&& !vX [] x y)=_;simp[vX]
 subst hs;obtain⟨u,hu⟩:=D.pt 0 [yu] ps (by decide) rfl rfl;have u0:u 0=0:=Nat.le_zero.1<|hu.join.le 0 (by decide)
 have hh:bW (bB [yu]).length u= [0]:=by
  show(List.range 1).filter (λk=>decide<|u k=k)= [0]
  grind
 obtain⟨p,rfl⟩:=List.length_eq_one_iff.1 (show ps.length=1 by rw[hu.len,hh];rfl);have hp:=hu.each 0 0 p (by rw[hh];rfl) rfl;have hc:pd (bB [yu]) (bB [yu]).length u 0= [⟨0,0,1,1⟩]:=by
  show((List.range 1).filter<|λi=>decide<|u i=0).filterMap (λi=>(bB [yu])[i]?)=_;simp[List.range_succ,u0];rfl
 rw[hc]at hp;exact⟨rfl,by rw[hp.unique Qk]⟩
section
variable {N:Nat}
theorem Ql(hN:nq N):kI N=some true:=by
 have key:k7 N BL [] Sf Sf=some (true,0):=by
  obtain⟨x,hx,hI⟩:=HM (N:=N) Sg hN
  rcases hI with⟨he,_⟩|⟨_,hg,hcl,ka,cI,D,⟨hf,_⟩|⟨hf,r,gs,ofP,ofB,fK,fG,hC,rfl⟩⟩
  ·grind [Sh]
  ·obtain⟨rfl,rfl⟩:=UG D;exact absurd ⟨by decide,by decide⟩ hf
  ·have b:iF BL ka cI r gs ofP ofB fK fG:=⟨hg,hcl,D,hf,hC⟩;have e:kY BL Sf=((0:Nat):Int):=by
    rfl
   have hl:BL.bO[0]? =some ⟨⟨[97]⟩,⟨[49]⟩,0,⟨0,0⟩⟩:=rfl;rw[I3 b hx e hl e hl hN];obtain⟨rfl,rfl⟩:=UG D;have hh:rB BL.aN (bN 0 [[[yu]]]) ⟨⟨[97]⟩,⟨[49]⟩,0,⟨0,0⟩⟩=some ⟨false,0⟩:=by decide
   grind [vN]
 unfold kI;have e:k7 N (⟨([([(⟨0,0,1,1⟩:aF)]:Z aF)]:Z (Z aF)),([]:Z aF),([]:Z bV),([(⟨⟨[97]⟩,⟨[49]⟩,0,⟨0,0⟩⟩:dA)]:Z dA)⟩:gZ) ([]:Z aU) (⟨⟨[97]⟩,⟨[49]⟩⟩:eK) (⟨⟨[97]⟩,⟨[49]⟩⟩:eK)=some (true,0):=key
 grind
end
def mC(n:Nat)(fl:Z aU)(v:Nat):Prop:=∃x∈fl,x.Open=true/\eI n x.eB=v
structure Si (bs:Z bV) (n m:Nat) (fl:Z aU):Prop where
 op:∀x∈fl,x.Open=true->F5 bs n m x.eB
 br:∀x∈fl,x.Open=false->∃i k:Nat,x.A=(i:Int)/\x.B=(k:Int)/\i<k/\k<n
def Jd(n:Nat)(tch:Z (Z Int))(fl:Z aU)(i j:Nat):Prop:=Lk n tch i j\/∃x∈fl,x.Open=false/\x.A=(i:Int)/\x.B=(j:Int)
def Qm(n:Nat)(tch:Z (Z Int))(fl:Z aU)(i j:Nat):Prop:=Jd n tch fl i j/\¬mC n fl i/\¬mC n fl j
structure A6 (t:Nat) (L:Nat->Nat->Prop) (r:Nat->Nat):Prop where
 le:∀i,i<t->r i<=i
 rr:∀i,i<t->r (r i)=r i
 co:∀i j,L i j->r i=r j
 fi:∀S:Nat->Prop,(∀i j,L i j->(S i↔S j))->∀i j,i<t->j<t->r i=r j->S i->S j
theorem A6.uniq{t:Nat}{L:Nat->Nat->Prop}{r1 r2:Nat->Nat}(h1:A6 t L r1)(h2:A6 t L r2){i j:Nat}(hi:i<t)(hj:j<t):r1 i=r1 j↔r2 i=r2 j:=by
 have key:∀{r1 r2:Nat->Nat},A6 t L r1->A6 t L r2->r1 i=r1 j->r2 i=r2 j:=λ{r1 r2}h1 h2 e=>
  (h1.fi (λx=>r2 i=r2 x) (λa b hab=>by rw[h2.co a b hab]) i j hi hj e) rfl
 grind
noncomputable def lX(bs:Z bV)(pcs:Z aD)(fl:Z aU)(l:dA):aT Nat:=(rB bs pcs l).bind λh=>if mC pcs.length fl (eI pcs.length h)then none else some (eI pcs.length h)
section
variable {N:Nat}{r:Nat->Nat}{fK:Z Int}{fG:Z eB}
theorem Sj{bs:Z bV}{n m:Nat}{h:eB}(hh:F5 bs n m h)(hn:n+m<=1000000000):jr N h (n:Int)=some ((eI n h:Nat):Int)/\eI n h<n+m:=by
 obtain⟨k,e,h1,h2⟩:=hh.num
 grind [jr,eI,cK,wrap_add]
def Po(t:Nat)(L:Nat->Nat->Prop)(op:Nat->Prop)(done:Nat->Nat->Prop)(u:Z Int):Prop:=
 ∃r E,UF t u r/\oq r E/\yN t r E/\(∀p∈E,L p.1 p.2/\¬op p.1/\¬op p.2)/\∀i j,done i j->¬op i->¬op j->(i,j)∈E
theorem Po.mono{t:Nat}{L:Nat->Nat->Prop}{op:Nat->Prop}{d d':Nat->Nat->Prop}{u:Z Int}(h:Po t L op d u)(hd:∀i j,d' i j->d i j):Po t L op d' u:=by
 obtain⟨r,E,h1,h2,h3,h4,h5⟩:=h;exact⟨r,E,h1,h2,h3,h4,λi j hij=>h5 i j<|hd i j hij⟩
theorem O1{t:Nat}{L:Nat->Nat->Prop}{op:Nat->Prop}{done:Nat->Nat->Prop}{u:Z Int}{om:Z (Int×Bool)}(hom:∀v:Nat,fH om (v:Int) false=true↔op v)(hI:Po t L op done u){i k:Nat}(hi:i<t)(hk:k<t)(ht:t<N)(hL:L i k):
  Ok (ki N (i:Int) (k:Int) om u) (Po t L op<|λa b=>done a b\/(a=i/\b=k)):=by
 obtain⟨r,E,h1,h2,h3,h4,h5⟩:=hI
 have skip:op i\/op k->Po t L op (λa b=>done a b\/(a=i/\b=k)) u:=λho=>⟨r,E,h1,h2,h3,h4,λa b hab ha hb=>by
  grind⟩
 unfold ki
 by_cases ho:op i
 ·grind [IS,OF]
 ·have e1:fH om (i:Int) false=false:=by grind
  by_cases hp:op k
  ·grind [IS,OF]
  ·have e2:fH om (k:Int) false=false:=by grind
   refine IS (x:=true) (by grind) ?_;obtain⟨u2,a1,a2⟩:=Mz (N:=N) h1 hi hk ht;rw[aP,a1];refine OF ⟨_,_,a2,h2.join i k<|h1.rr i hi,h3.join hi hk,λp hp'=>?_,λa b hab ha hb=>?_⟩
   ·grind
   grind
structure Ha (bs:Z bV) (pcs:Z aD) (fl:Z aU) (ls:Z dA) (r2:Nat->Nat) (j:Nat) (up:Z Int) (fm:Z (Int×Int)) (out:Z Int):Prop where
 uf:UF (pcs.length+bs.length) up r2
 len:out.length=ls.length
 no:∀i l,i<j->ls[i]? =some l->lX bs pcs fl l=none->out[i]? =some (-1)
 yes:∀i l v,i<j->ls[i]? =some l->lX bs pcs fl l=some v->kL fm ((r2 v:Nat):Int)=true/\out[i]? =some (fH fm ((r2 v:Nat):Int) 0)
 low:∀x,kL fm x=true->∃(v:Nat)(l:dA)(u:Nat),fH fm x 0=((v:Nat):Int)/\v<j/\ls[v]? =some l/\lX bs pcs fl l=some u/\((r2 u:Nat):Int)=x
 inj:∀x y,kL fm x=true->kL fm y=true->fH fm x 0=fH fm y 0->x=y
 le:∀(i v:Nat),out[i]? =some ((v:Nat):Int)->v<=i
theorem KS{bs:Z bV}{pcs:Z aD}{ls:Z dA}{fl:Z aU}(hfl:Si bs pcs.length bs.length fl)(hfn:fl.length<=1073741824)(hn:pcs.length+bs.length<=1000000000)(hp:pcs.length<=1073741824)(hbl:bs.length<=1073741824)(hl:ls.length<=1073741824)(hof:fK=ls.map (G9 bs pcs r))(hat:fG=ls.map (λl=>(rB bs pcs l).getD ⟨false,0⟩))(hN:nq N):
  ∃r2 c up fm,fD N bs ls pcs (cU bs pcs) fK fG fl=some c/\A6 (pcs.length+bs.length) (Qm pcs.length (cU bs pcs) fl) r2/\Ha bs pcs fl ls r2 ls.length up fm c:=by
 suffices h:Ok (fD N bs ls pcs (cU bs pcs) fK fG fl) (λc=>∃r2 up fm,A6 (pcs.length+bs.length) (Qm pcs.length (cU bs pcs) fl) r2/\Ha bs pcs fl ls r2 ls.length up fm c)by
  obtain⟨c,h1,r2,up,fm,h2,h3⟩:=h
  grind
 unfold fD;refine WJ (XI (λq om=>∀v:Nat,fH om ((v:Nat):Int) false=true↔mC pcs.length (fl.take q) v) (by omega) (λv=>⟨λh=>(by cases h),λ⟨x,hx,_⟩=>(by simp at hx)⟩)<|λq om hq hI=>?_) ?_
 ·have hx:fl[q]? =some fl[q]:=aM hq;have hts:=dH hq;refine WR hx ?_
  cases ho:fl[q].Open with
  |true=>
   obtain⟨c1,_⟩:=Sj (N:=N) (hfl.op _ (cH hq) ho) hn;refine IS (x:=r8 om ((eI pcs.length fl[q].eB:Nat):Int) true) (by grind)<|OF λv=>?_
   rw[lJ,hts]
   by_cases e:((v:Nat):Int)=((eI pcs.length fl[q].eB:Nat):Int)
   ·rw[aH e];exact⟨λ_=>⟨fl[q],List.mem_append_right _<|lY.2 rfl,ho,by omega⟩,λ_=>rfl⟩
   ·rw[aI e,hI v];constructor
    ·rintro⟨x,hx,h1,h2⟩;exact⟨x,List.mem_append_left _ hx,h1,h2⟩
    ·rintro⟨x,hx,h1,h2⟩
     rcases dI.1 hx with hx|hx
     ·exact⟨x,hx,h1,h2⟩
     ·simp at hx;subst hx;exact absurd (by rw[h2]) e
  |false=>
   refine IS (x:=om) rfl<|OF λv=>?_
   rw[hI v,hts];constructor
   ·rintro⟨x,hx,h1,h2⟩;exact⟨x,List.mem_append_left _ hx,h1,h2⟩
   ·rintro⟨x,hx,h1,h2⟩
    rcases dI.1 hx with hx|hx
    ·exact⟨x,hx,h1,h2⟩
    ·simp at hx;subst hx;rw[ho]at h1;cases h1
 intro om hom;rw[dY]at hom;rw[wrap_add (by omega)];obtain⟨up0,u1,u2⟩:=zo (N:=N) (n:=pcs.length+bs.length) (by omega);refine IS u1 ?_;have htl:(cU bs pcs).length=bs.length:=by unfold cU;simp
 have hto:=zy (bs:=bs) (pcs:=pcs) (by omega)
 refine WJ (XI (λq u=>Po (pcs.length+bs.length) (Jd pcs.length (cU bs pcs) fl) (mC pcs.length fl) (λa b=>∃k l,k<q/\(cU bs pcs)[k]? =some l/\((a:Nat):Int)∈l/\b=pcs.length+k) u) (by omega)
  ⟨_,_,u2,oq.id,yN.id _,λp hp=>(by cases hp),λi j⟨k,l,hk,_⟩=>by omega⟩ (λq u hq hI=>?_)) ?_
 ·have hqx:(cU bs pcs)[q]? =some (cU bs pcs)[q]:=aM hq;obtain⟨hl1,hl2⟩:=hto _<|cH hq
  refine WR hqx ?_;rw[wrap_add (by omega)]
  refine WJ (XI (λt u=>Po (pcs.length+bs.length) (Jd pcs.length (cU bs pcs) fl) (mC pcs.length fl) (λa b=>(∃k l,k<q/\(cU bs pcs)[k]? =some l/\((a:Nat):Int)∈l/\b=pcs.length+k)\/(((a:Nat):Int)∈(cU bs pcs)[q].take t/\b=pcs.length+q)) u) (by omega)
   (hI.mono λi j h=>by rcases h with h|⟨h,_⟩;exact h;simp at h) (λt u ht hJ=>?_)) (λu hJ=>OF (hJ.mono λi j⟨k,l,hk,h1,h2,h3⟩=>?_))
  ·have htx:(cU bs pcs)[q][t]? =some (cU bs pcs)[q][t]:=aM ht;obtain⟨i,hi,e⟩:=hl2 _<|cH ht
   refine WR htx ?_;rw[e];refine WJ (O1 hom hJ (i:=i) (k:=pcs.length+q) (by omega) (by omega) (by omega)<|.inl ⟨q,_,hqx,by rw[<-e];exact cH ht,rfl⟩)<|λu2 hu2=>OF<|hu2.mono λa b h=>?_
   rw[dH ht]at h
   rcases h with h|⟨h,hb⟩
   ·exact .inl<|.inl h
   ·rcases dI.1 h with h|h
    ·exact .inl<|.inr ⟨h,hb⟩
    ·rw[lY,e]at h;exact .inr ⟨by omega,hb⟩
  ·by_cases hkq:k<q
   ·exact .inl ⟨k,l,hkq,h1,h2,h3⟩
   ·have:k=q:=by omega
    subst this;rw[hqx]at h1;injection h1 with h1;subst h1
    exact .inr ⟨by rw[dY];exact h2,h3⟩
 intro u3 h3
 refine WJ (XI (λq u=>Po (pcs.length+bs.length) (Jd pcs.length (cU bs pcs) fl) (mC pcs.length fl) (λa b=>Lk pcs.length (cU bs pcs) a b\/∃x∈fl.take q,x.Open=false/\x.A=((a:Nat):Int)/\x.B=((b:Nat):Int)) u) (by omega)
  (h3.mono λi j h=>by
   rcases h with⟨k,l,h1,h2,h3⟩|⟨x,hx,_⟩
   ·exact⟨k,l,(bS.1 h1).1,h1,h2,h3⟩
   ·simp at hx) (λq u hq hI=>?_)) ?_
 ·have hx:fl[q]? =some fl[q]:=aM hq;have hts:=dH hq;refine WR hx ?_
  cases ho:fl[q].Open with
  |true=>
   refine IS (x:=u) rfl<|OF<|hI.mono λa b h=>?_
   rw[hts]at h
   rcases h with h|⟨x,hx,h1,h2⟩
   ·exact .inl h
   ·rcases dI.1 hx with hx|hx
    ·exact .inr ⟨x,hx,h1,h2⟩
    ·simp at hx;subst hx;rw[ho]at h1;cases h1
  |false=>
   obtain⟨i,k,e1,e2,e3,e4⟩:=hfl.br _ (cH hq) ho;rw[jH,aP,e1,e2];refine WJ (P:=Po (pcs.length+bs.length) (Jd pcs.length (cU bs pcs) fl) (mC pcs.length fl)<|λa b=>(Lk pcs.length (cU bs pcs) a b\/∃x∈fl.take q,x.Open=false/\x.A=((a:Nat):Int)/\x.B=((b:Nat):Int))\/(a=i/\b=k)) (WJ (O1 hom hI (i:=i) (k:=k) (by omega) (by omega) (by omega)<|.inr ⟨fl[q],cH hq,ho,e1,e2⟩)<|λu2 hu2=>OF hu2)<|λu2 hu2=>OF<|hu2.mono λa b h=>?_
   rw[hts]at h
   rcases h with h|⟨x,hx,h1,h2,h3⟩
   ·exact .inl<|.inl h
   ·rcases dI.1 hx with hx|hx
    ·exact .inl<|.inr ⟨x,hx,h1,h2,h3⟩
    ·simp at hx;subst hx;rw[e1]at h2;rw[e2]at h3;exact .inr ⟨by omega,by omega⟩
 rintro up1⟨r2,E,v1,v2,v3,v4,v5⟩;rw[dY]at v5;have hC:A6 (pcs.length+bs.length) (Qm pcs.length (cU bs pcs) fl) r2:=
  ⟨v1.le,v1.rr,λi j h=>v2 (i,j)<|v5 i j h.1 h.2.1 h.2.2,λS hS i j hi hj=>v3 S (λp hp=>hS p.1 p.2<|v4 p hp) i j hi hj⟩
 refine IS (pI 0 (by omega)) ?_;have rD:fG.length=ls.length:=by rw[hat,dM]
 refine WJ (XI (λj(st:Z Int×Z (Int×Int)×Z Int)=>Ha bs pcs fl ls r2 j st.1 st.2.1 st.2.2) (by omega) ⟨v1,by simp,λi l h=>by omega,λi l h h1=>by omega,λx hx=>(by cases hx),λx y hx=>(by cases hx),λi v hv=>by rw[List.getElem?_replicate]at hv;split at hv;injection hv with hv;omega;cases hv⟩ ?_)<|λst I=>OF ⟨r2,st.1,st.2.1,hC,by rw[<-rD];exact I⟩
 rintro j⟨up,fm,out⟩hj I;rw[rD]at hj;dsimp only at I ⊢;have hx:ls[j]? =some ls[j]:=aM hj;have h1:fG[j]? =some ((rB bs pcs ls[j]).getD ⟨false,0⟩):=by rw[hat,gE,hx];rfl
 have h2:fK[j]? =some (G9 bs pcs r ls[j]):=by rw[hof,gE,hx];rfl
 have h3:out[j]? =some (out[j]'(by rw[I.len];exact hj)):=aM _;have hjo:j<out.length:=by rw[I.len];exact hj
 have hx0:=hx;have dead:lX bs pcs fl ls[j]=none->Ha bs pcs fl ls r2 (j+1) up fm (out.set j<|-1):=λhnd=>by
  refine⟨I.uf,by rw[iU];exact I.len,λi l hi hil hn=>?_,λi l v hi hil hs=>?_,λx hx=>?_,I.inj,λi v hv=>?_⟩
  ·by_cases e:i=j
   ·subst e;rw[List.getElem?_set_self hjo]
   ·rw[List.getElem?_set_ne<|Ne.symm e];exact I.no i l (by omega) hil hn
  ·by_cases e:i=j
   ·subst e;rw[hx]at hil;injection hil with hil;subst hil;rw[hnd]at hs;cases hs
   ·rw[List.getElem?_set_ne<|Ne.symm e];exact I.yes i l v (by omega) hil hs
  ·obtain⟨v,l,u,q1,q2,q3⟩:=I.low x hx;exact⟨v,l,u,q1,by omega,q3⟩
  ·by_cases e:i=j
   ·subst e;rw[List.getElem?_set_self hjo]at hv;injection hv with hv;omega
   ·rw[List.getElem?_set_ne<|Ne.symm e]at hv;exact I.le i v hv
 refine WR h1 ?_
 cases hh:rB bs pcs ls[j]with
 |none=>
  have e1:G9 bs pcs r ls[j] = -1:=by unfold G9 vN;rw[hh];rfl
  refine IS (x:=0) rfl<|IS (x:=true) (by rw[cB h2,aB,e1];rfl) ?_
  refine WR h3<|OF ?_
  dsimp only;rw[cK];exact dead (by unfold lX;rw[hh];rfl)
 |some h=>
  obtain⟨c1,c2⟩:=I2 (N:=N) hh hn;have e1:∃g:Nat,G9 bs pcs r ls[j]=(g:Int):=by unfold G9 vN;rw[hh];exact⟨_,rfl⟩
  obtain⟨g,e1⟩:=e1;refine IS c1 ?_
  by_cases hop:mC pcs.length fl (eI pcs.length h)
  ·refine IS (x:=true) (by rw[cB h2,aB,e1,bY (show ¬(g:Int)<0 by omega),aQ,(hom _).2 hop]) ?_;refine WR h3<|OF ?_
   dsimp only;rw[cK];exact dead (by unfold lX;rw[hh,Option.bind_some,aH hop])
  have hnd:lX bs pcs fl ls[j]=some (eI pcs.length h):=by unfold lX;rw[hh,Option.bind_some,aI hop]
  refine IS (x:=false) (by rw[cB h2,aB,e1,bY (show ¬(g:Int)<0 by omega),aQ];rw[Bool.eq_false_iff.2 λh=>hop<|(hom _).1 h]) ?_;rw[aQ];obtain⟨up2,t1,t2⟩:=tR (N:=N) I.uf c2 (by omega);refine IS t1 ?_;dsimp only;have fin:∀(up3:Z Int)(fm2:Z (Int×Int)),UF (pcs.length+bs.length) up3 r2->(∀x,kL fm x=true->kL fm2 x=true/\fH fm2 x 0=fH fm x 0)->kL fm2 ((r2 (eI pcs.length h):Nat):Int)=true->(∀x,kL fm2 x=true->∃(v:Nat)(l:dA)(u:Nat),fH fm2 x 0=((v:Nat):Int)/\v<j+1/\ls[v]? =some l/\lX bs pcs fl l=some u/\((r2 u:Nat):Int)=x)->(∀x y,kL fm2 x=true->kL fm2 y=true->fH fm2 x 0=fH fm2 y 0->x=y)->
    Ha bs pcs fl ls r2 (j+1) up3 fm2 (out.set j<|fH fm2 ((r2 (eI pcs.length h):Nat):Int) 0):=λup3 fm2 g1 g2 g3 g4 g5=>by
   refine⟨g1,by rw[iU];exact I.len,λi l hi hil hn=>?_,λi l h' hi hil hs=>?_,g4,g5,λi v hv=>?_⟩
   ·by_cases e:i=j
    ·subst e;rw[hx]at hil;injection hil with hil;subst hil;rw[hnd]at hn;cases hn
    ·rw[List.getElem?_set_ne<|Ne.symm e];exact I.no i l (by omega) hil hn
   ·by_cases e:i=j
    ·subst e;rw[hx]at hil;injection hil with hil;subst hil;rw[hnd]at hs;injection hs with hs;subst hs
     exact⟨g3,by rw[List.getElem?_set_self hjo]⟩
    ·obtain⟨q1,q2⟩:=I.yes i l h' (by omega) hil hs;rw[List.getElem?_set_ne<|Ne.symm e,q2,(g2 _ q1).2];exact⟨(g2 _ q1).1,rfl⟩
   ·by_cases e:i=j
    ·subst e;rw[List.getElem?_set_self hjo]at hv;injection hv with hv
     obtain⟨v',_,_,q1,q2,_⟩:=g4 _ g3;rw[q1]at hv;omega
    ·rw[List.getElem?_set_ne<|Ne.symm e]at hv;exact I.le i v hv
  cases hm:kL fm ((r2 (eI pcs.length h):Nat):Int)with
  |true=>
   rw[ku,aQ];obtain⟨up3,t3,t4⟩:=tR (N:=N) t2 c2 (by omega);refine IS (x:=(up2,fm)) rfl<|IS t3<|WR h3<|OF ?_
   dsimp only;rw[cK];exact fin up3 fm t4 (λx hx=>⟨hx,rfl⟩) hm (λx hx=>by obtain⟨v,l,u,q1,q2,q3⟩:=I.low x hx;exact⟨v,l,u,q1,by omega,q3⟩) I.inj
  |false=>
   rw[jH,aP];obtain⟨up3,t3,t4⟩:=tR (N:=N) t2 c2 (by omega);obtain⟨up4,t5,t6⟩:=tR (N:=N) t4 c2 (by omega);refine IS (x:=(up3,r8 fm ((r2 (eI pcs.length h):Nat):Int) ((j:Nat):Int))) (by rw[t3,aB])<|IS t5<|WR h3<|OF ?_
   dsimp only;rw[cK];refine fin up4 _ t6 (λx hx=>?_) (by rw[n7];simp) (λx hx=>?_)<|λx y hx hy e=>?_
   ·have hne:x≠((r2 (eI pcs.length h):Nat):Int):=λe=>by rw[e,hm]at hx;cases hx
    rw[n7,lJ,aI hne,hx];exact⟨by simp,rfl⟩
   ·rw[lJ]
    by_cases e:x=((r2 (eI pcs.length h):Nat):Int)
    ·rw[aH e];exact⟨j,ls[j],_,rfl,by omega,hx0,hnd,e.symm⟩
    ·rw[aI e];rw[n7,bY e,Bool.false_or]at hx;obtain⟨v,l,u,q1,q2,q3⟩:=I.low x hx;exact⟨v,l,u,q1,by omega,q3⟩
   ·rw[lJ,lJ]at e;rw[n7]at hx hy
    by_cases ex:x=((r2 (eI pcs.length h):Nat):Int)
    ·by_cases ey:y=((r2 (eI pcs.length h):Nat):Int)
     ·rw[ex,ey]
     ·rw[aH ex,aI ey]at e;rw[bY ey,Bool.false_or]at hy;obtain⟨v,_,_,q1,q2,_⟩:=I.low y hy;omega
    ·rw[bY ex,Bool.false_or]at hx
     by_cases ey:y=((r2 (eI pcs.length h):Nat):Int)
     ·rw[aI ex,aH ey]at e;obtain⟨v,_,_,q1,q2,_⟩:=I.low x hx;omega
     ·rw[aI ex,aI ey]at e;rw[bY ey,Bool.false_or]at hy;exact I.inj x y hx hy e
def Rg(n:Nat)(k:Int):Bool:=decide (k>=0)&&decide (k<=(n:Int) - 1)
def BM(bs:Z bV)(n:Nat)(x:aU):Bool:=bif x.Open then(bif x.eB.bV then Rg bs.length x.eB.Number&&sM bs x.eB.Number.toNat else Rg n x.eB.Number)else Rg n x.A&&Rg n x.B
def Rh(x:aU):Bool:=bif x.Open then x.A != 0||x.B != 0 else !decide (x.eB= ⟨false,0⟩)
def HW(bs:Z bV)(n:Nat)(fl:Z aU)(k:Nat):aT Int:=(fl[k]?).bind λx=>
 if Rh x=true then some 3 else if BM bs n x=false then some 9 else if(!x.Open&&decide (x.B<=x.A))=true then some 8 else if x∈fl.take k then some 7 else none
def pZ(bs:Z bV)(n:Nat)(fl:Z aU):Int:=if 20<fl.length then 2 else(rQ fl.length<|HW bs n fl).getD 0
theorem Eh{bs:Z bV}{n:Nat}{fl:Z aU}(h:pZ bs n fl=0):fl.length<=20/\Si bs n bs.length fl:=by
 unfold pZ at h;split at h
 ·cases h
 rename_i h20;have hn:∀k,k<fl.length->HW bs n fl k=none:=by
  cases hf:rQ fl.length (HW bs n fl)with
  |none=>grind [j7]
  |some e=>
   grind [km,HW,aM]
 have hx:∀x∈fl,BM bs n x=true/\(x.Open=false->x.A<x.B):=λx hx=>by
  grind [List.mem_iff_getElem,HW,aM,jH]
 have inp:∀{n:Nat}{k:Int},Rg n k=true->∃j:Nat,k=(j:Int)/\j<n:=λ{n k}h=>by
  unfold Rg at h;rw[dD,dR,dR]at h;exact⟨k.toNat,by omega,by omega⟩
 refine⟨by omega,λx hm ho=>?_,λx hm ho=>?_⟩
 ·obtain⟨h1,_⟩:=hx x hm;unfold BM at h1;rw[ho,aP]at h1
  cases hB:x.eB.bV with
  |true=>
   rw[hB,aP,dD]at h1;obtain⟨j,e,hj⟩:=inp h1.1;refine⟨j,e,λ_=>⟨hj,?_⟩,λh=>(by grind)⟩
   grind
  |false=>
   rw[hB,aQ]at h1;obtain⟨j,e,hj⟩:=inp h1;exact⟨j,e,λh=>(by grind),λ_=>hj⟩
 grind [BM]
end
structure sN (c:Z Int):Prop where
 neg:∀(i:Nat)(x:Int),c[i]? =some x->x<0->x = -1
 own:∀(i v:Nat),c[i]? =some (v:Int)->c[v]? =some (v:Int)
def j9(c:Z Int)(i k:Nat):Bool:=decide (c.getD i (-1)>=0)&&c.getD i (-1)==c.getD k (-1)
def lE(c:Z Int)(i:Nat):Int:=if c.getD i (-1)<0 then(i:Int)else c.getD i (-1)
theorem LW{c:Z Int}(h:sN c){i k:Nat}(hi:i<c.length)(hk:k<c.length)(hne:i≠k):j9 c i k=decide (lE c i=lE c k):=by
 have ei:c[i]? =some c[i]:=aM hi;have ek:c[k]? =some c[k]:=aM hk;unfold j9 lE;rw[List.getD_eq_getElem?_getD,List.getD_eq_getElem?_getD,ei,ek,Option.getD_some,Option.getD_some];have own:∀{j:Nat}(hj:j<c.length),0<=c[j]->∃v:Nat,c[j]=(v:Int)/\c[v]? =some (v:Int):=λ{j}hj h0=>by
  refine⟨c[j].toNat,by omega,h.own j _ ?_⟩
  grind
 grind
theorem KT{c d:Z Int}(hc:sN c)(hd:sN d)(hl:c.length=d.length)(h:∀i,i<c.length->lE c i=lE d i){i k:Nat}(hi:i<c.length)(hk:k<c.length)(hne:i≠k):j9 c i k=j9 d i k:=by
 grind [LW]
section
variable {r:Nat->Nat}
theorem Ha.first{bs:Z bV}{pcs:Z aD}{fl:Z aU}{ls:Z dA}{r2:Nat->Nat}{up:Z Int}{fm:Z (Int×Int)}{c:Z Int}(h:Ha bs pcs fl ls r2 ls.length up fm c):sN c where
 neg:=λi x hx h0=>by
  have hi:=(bS.1 hx).1;rw[h.len]at hi;have hl:ls[i]? =some ls[i]:=aM hi
  cases hn:lX bs pcs fl ls[i]with
  |none=>have:=h.no i _ hi hl hn;rw[hx]at this;injection this
  |some u=>
   obtain⟨q1,q2⟩:=h.yes i _ u hi hl hn;obtain⟨v,_,_,q3,_⟩:=h.low _ q1;rw[hx,q3]at q2;injection q2 with q2;omega
 own:=λi v hx=>by
  have hi:=(bS.1 hx).1;rw[h.len]at hi;have hl:ls[i]? =some ls[i]:=aM hi
  cases hn:lX bs pcs fl ls[i]with
  |none=>have:=h.no i _ hi hl hn;rw[hx]at this;injection this with this;omega
  |some u=>
   obtain⟨q1,q2⟩:=h.yes i _ u hi hl hn;obtain⟨v',l',u',q3,q4,q5,q6,q7⟩:=h.low _ q1;have e:v=v':=by rw[hx,q3]at q2;injection q2 with q2;omega
   subst e;obtain⟨s1,s2⟩:=h.yes v l' u' q4 q5 q6;rw[q7,q3]at s2;exact s2
theorem Ha.conn{bs:Z bV}{pcs:Z aD}{fl:Z aU}{ls:Z dA}{r2:Nat->Nat}{up:Z Int}{fm:Z (Int×Int)}{c:Z Int}(h:Ha bs pcs fl ls r2 ls.length up fm c){i k:Nat}{x y:dA}(hx:ls[i]? =some x)(hy:ls[k]? =some y):
  j9 c i k=true↔∃u v,lX bs pcs fl x=some u/\lX bs pcs fl y=some v/\r2 u=r2 v:=by
 have hi:=(bS.1 hx).1;have hk:=(bS.1 hy).1;unfold j9;rw[dD,dR,beq_iff_eq,List.getD_eq_getElem?_getD,List.getD_eq_getElem?_getD]
 cases hn:lX bs pcs fl x with
 |none=>
  rw[h.no i x hi hx hn,Option.getD_some];simp
 |some u=>
  obtain⟨q1,q2⟩:=h.yes i x u hi hx hn;obtain⟨a,_,_,q3,_⟩:=h.low _ q1;rw[q2,Option.getD_some,q3]
  cases hm:lX bs pcs fl y with
  |none=>
   rw[h.no k y hk hy hm,Option.getD_some];simp
  |some v=>
   obtain⟨s1,s2⟩:=h.yes k y v hk hy hm;obtain⟨b,_,_,s3,_⟩:=h.low _ s1
   grind
end
section
variable {N:Nat}{a:gZ}{ka:Z (Z aA)}{cI:Z (Z (Z aA))}{r:Nat->Nat}{gs:Z bZ}{ofP ofB fK:Z Int}{fG:Z eB}
theorem Gq(b:iF a ka cI r gs ofP ofB fK fG){fl:Z aU}(h0:pZ a.aN (bN 0 cI).length fl=0)(hN:nq N):
  ∃r2 c up fm,fD N a.aN a.bO (bN 0 cI) (cU a.aN<|bN 0 cI) fK fG fl=some c/\A6 ((bN 0 cI).length+a.aN.length) (Qm (bN 0 cI).length (cU a.aN<|bN 0 cI) fl) r2/\Ha a.aN (bN 0 cI) fl a.bO r2 a.bO.length up fm c:=by
 have hf:=b.yO.2;have hbl:=b.zB.gb.len;have hlf:=b.vt.yO;obtain⟨h20,hok⟩:=Eh h0;exact KS (N:=N) (r:=r) hok (by omega) (by omega) (by omega) (by omega) (by omega) b.AK.fK b.AK.fG hN
end
def I4(a0 a1 b0 b1:Int):Int:=max (max 0<|b0 - a1+1)<|a0 - b1+1
def yg(a b:aF):Int:=max (I4 a.X0 a.X1 b.X0 b.X1)<|I4 a.Y0 a.Y1 b.Y0 b.Y1
def wB(s:Int)(x:aF)(b:Z aF):Int:=b.foldl (λs y=>if s<0\/yg x y<s then yg x y else s) s
def xu(a b:Z aF):Int:=a.foldl (λs x=>wB s x b)<|-1
theorem O2{a0 a1 b0 b1:Int}(h0: -1000000<=a0/\a0<=1000000)(h1: -1000000<=a1/\a1<=1000000)(h2: -1000000<=b0/\b0<=1000000)(h3: -1000000<=b1/\b1<=1000000):0<=I4 a0 a1 b0 b1/\I4 a0 a1 b0 b1<=2000001:=by
 unfold I4;omega
theorem LX{a b:aF}(ha:dK a=true)(hb:dK b=true):0<=yg a b/\yg a b<=2000001:=by
 obtain⟨a1,a2,a3,a4⟩:=jG ha;obtain⟨b1,b2,b3,b4⟩:=jG hb;have:=O2 a1 a3 b1 b3;have:=O2 a2 a4 b2 b4;unfold yg;omega
theorem MN{x:aF}{s:Int}(hx:dK x=true):∀(b:Z aF),(∀y∈b,dK y=true)->∀{s:Int},-1<=s/\s<=2000001-> -1<=wB s x b/\wB s x b<=2000001
 | [],_,s,h=>h
 |y::b,hb,s,h=>by
  have hf:=LX hx<|hb y<|List.mem_cons_self ..
  unfold wB;rw[List.foldl_cons];refine MN (s:=s) hx b (λz hz=>hb z<|jP _ hz) ?_;split <;> omega
theorem MO{a b:Z aF}(ha:∀y∈a,dK y=true)(hb:∀y∈b,dK y=true): -1<=xu a b/\xu a b<=2000001:=by
 have key:∀(a:Z aF),(∀y∈a,dK y=true)->∀{s:Int},-1<=s/\s<=2000001-> -1<=a.foldl (λs x=>wB s x b) s/\a.foldl (λs x=>wB s x b) s<=2000001:=by
  intro a
  induction a with
  |nil=>simp
  |cons x a ih=>
   intro ha s h;rw[List.foldl_cons];exact ih (λz hz=>ha z<|jP _ hz)<|MN (s:=s) (ha x<|List.mem_cons_self ..) b hb h
 exact key a ha ⟨by omega,by omega⟩
section
variable {N:Nat}
theorem LY{a0 a1 b0 b1:Int}(h0: -1000000<=a0/\a0<=1000000)(h1: -1000000<=a1/\a1<=1000000)(h2: -1000000<=b0/\b0<=1000000)(h3: -1000000<=b1/\b1<=1000000):lD N a0 a1 b0 b1=some (I4 a0 a1 b0 b1):=by
 unfold lD I4
 grind [CE,s9]
theorem O3{a b:aF}(ha:dK a=true)(hb:dK b=true):mO N a b=some (yg a b):=by
 obtain⟨a1,a2,a3,a4⟩:=jG ha;obtain⟨b1,b2,b3,b4⟩:=jG hb;unfold mO yg
 grind [LY,aB,s9]
theorem O4(a b:aF):∃n,mO N a b=some n:=⟨_,rfl⟩
theorem HX(a b:aF)(n:Int):∃p,uP N a b n=some p:=⟨_,rfl⟩
theorem HY(p q:dW):∃c,uQ N p q=some c:=⟨_,rfl⟩
theorem O5{a b:Z aF}(rD:a.length<=1000000)(hbl:b.length<=1000000)(ha:∀y∈a,dK y=true)(hb:∀y∈b,dK y=true):∃g,qT N a b=some g/\g.i5=xu a b - 1:=by
 have hd:=MO ha hb
 suffices h:Ok (qT N a b) (λg=>g.i5=xu a b - 1)from h
 unfold qT;refine WJ (XI (λk s=>s=(a.take k).foldl (λs x=>wB s x b) (-1)) (by omega) rfl<|λk s hk e=>?_)<|λs e=>?_
 ·have hx:a[k]? =some a[k]:=aM hk;refine WR hx<|WJ (XI (λj t=>t=wB s a[k] (b.take j)) (by omega) rfl<|λj t hj et=>?_)<|λt et=>OF ?_
  ·have hy:b[j]? =some b[j]:=aM hj;refine WR hy<|IS (O3 (ha _<|cH hk)<|hb _<|cH hj) ?_
   have e2:wB s a[k] (b.take<|j+1)=if t<0\/yg a[k] b[j]<t then yg a[k] b[j]else t:=by
    grind [wB,dH]
   grind [decide,OF,Bool.or_eq_false_iff,decide_eq_false_iff_not]
  grind [dY,dH]
 rw[dY]at e;have e:s=xu a b:=e;subst e;rw[CE (by omega)];refine WJ (XI (λk(st:wh×Bool)=>st.1.i5=xu a b - 1) (by omega) rfl<|λk st hk I=>?_)<|λst I=>?_
 ·have hx:a[k]? =some a[k]:=aM hk;refine WR hx<|WJ (XI (λj(st:wh×Bool)=>st.1.i5=xu a b - 1) (by omega) I<|λj st hj I=>?_)<|λst I=>OF I
  have hy:b[j]? =some b[j]:=aM hj;obtain⟨p,hp⟩:=HX (N:=N) a[k] b[j]<|xu a b
  refine WR hy<|IS hp ?_
  refine WJ (P:=λ_=>True) ?_<|λc _=>?_
  ·refine IS (O3 (ha _<|cH hk)<|hb _<|cH hj) ?_
   cases(yg a[k] b[j]==xu a b)with
   |false=>exact OF trivial
   |true=>
    rw[aP]
    cases st.2 with
    |false=>exact OF trivial
    |true=>
     obtain⟨c,hc⟩:=HY (N:=N) p st.1.cM
     grind [IS,OF]
  grind [WJ,xu,OF]
 refine WJ (XI (λk(st:wh×Bool)=>st.1.i5=xu a b - 1) (by omega) I<|λk st' hk I=>?_)<|λst I=>OF I
 have hx:b[k]? =some b[k]:=aM hk;obtain⟨p,hp⟩:=HX (N:=N) b[k] (⟨st.1.cM.X,st.1.cM.Y,wrap .i64<|st.1.cM.X+1,wrap .i64<|st.1.cM.Y+1⟩:aF)<|xu a b
 obtain⟨f,hf⟩:=O4 (N:=N) b[k] (⟨st.1.cM.X,st.1.cM.Y,wrap .i64<|st.1.cM.X+1,wrap .i64<|st.1.cM.Y+1⟩:aF);refine WR hx<|IS hp ?_
 refine WJ (P:=λ_=>True) ?_<|λc _=>?_
 ·refine IS hf ?_
  cases(f==xu a b)with
  |false=>exact OF trivial
  |true=>
   rw[aP]
   cases st'.2 with
   |false=>exact OF trivial
   |true=>
    obtain⟨c,hc⟩:=HY (N:=N) p st'.1.To
    grind [IS,OF]
 grind [WJ,xu,OF]
end
def Qn(gs:Z bZ)(g:Int):Bool:=decide (g>=0)&&(gs[g.toNat]?).elim false λG=>decide<|((G.fB.length:Nat):Int)>1
def qc(gs:Z bZ)(B:Bool)(of:Z Int)(n:Nat):Z aU:=((List.range n).filter<|λk=>(of[k]?).elim false<|Qn gs).map<|λk=>⟨true,⟨B,((k:Nat):Int)⟩,0,0⟩
def sO(pcs:Z aD)(ofP:Z Int)(near:Int)(i k:Nat):Bool:=(pcs[i]?).elim false λp=>(pcs[k]?).elim false λq=>decide (i<k)&&(q.cN==p.cN&&(decide (ofP[i]? ≠ofP[k]?)&&decide (xu p.eD q.eD - 1<near)))
def rq(pcs:Z aD)(ofP:Z Int)(near:Int)(i m:Nat):Z aU:=((List.range m).filter<|sO pcs ofP near i).map<|λk=>⟨false,⟨false,0⟩,(i:Int),((k:Nat):Int)⟩
def uC(pcs:Z aD)(ofP:Z Int)(near:Int)(m:Nat):Z aU:=(List.range m).flatMap<|λi=>rq pcs ofP near i pcs.length
def CX(pcs:Z aD)(gs:Z bZ)(ofP ofB:Z Int)(near:Int):Z aU:=qc gs false ofP ofP.length++qc gs true ofB ofB.length++uC pcs ofP near pcs.length
theorem uL(gs:Z bZ)(B:Bool)(of:Z Int)(k:Nat):qc gs B of (k+1)=if(of[k]?).elim false (Qn gs)=true then qc gs B of k++[⟨true,⟨B,(k:Int)⟩,0,0⟩]else qc gs B of k:=by
 unfold qc;rw[List.range_succ,sR,eU]
 grind
theorem rZ(gs:Z bZ)(B:Bool)(of:Z Int)(k:Nat):(qc gs B of k).length<=k:=by
 unfold qc
 grind
theorem vx(pcs:Z aD)(ofP:Z Int)(near:Int)(i m:Nat):rq pcs ofP near i (m+1)=if sO pcs ofP near i m=true then rq pcs ofP near i m++[⟨false,⟨false,0⟩,(i:Int),(m:Int)⟩]else rq pcs ofP near i m:=by
 unfold rq;rw[List.range_succ,sR,eU]
 grind
theorem DI(pcs:Z aD)(ofP:Z Int)(near:Int)(i m:Nat):(rq pcs ofP near i m).length<=m:=by
 unfold rq
 grind
theorem yh{pcs:Z aD}{ofP:Z Int}{near:Int}{i m:Nat}:∀{d:Nat},(∀k,m<=k->k<m+d->sO pcs ofP near i k=false)->rq pcs ofP near i (m+d)=rq pcs ofP near i m
 | 0,_=>rfl
 |d+1,h=>by
  rw[show m+(d+1)=m+d+1 by omega,vx,h (m+d) (by omega) (by omega),aI pg];exact yh<|λk h1 h2=>h k h1 (by omega)
theorem Al(pcs:Z aD)(ofP:Z Int)(near:Int)(m:Nat):uC pcs ofP near (m+1)=uC pcs ofP near m++rq pcs ofP near m pcs.length:=by
 simp[uC,List.range_succ,List.flatMap_append]
theorem Gr(pcs:Z aD)(ofP:Z Int)(near:Int):∀(m:Nat),(uC pcs ofP near m).length<=m*pcs.length
 | 0=>by simp[uC]
 |m+1=>by
  rw[Al,eP,Nat.add_mul,Nat.one_mul];have:=Gr pcs ofP near m;have:=DI pcs ofP near m pcs.length;omega
theorem O6:∀(cI:Z (Z<|Z aA))(k:Nat),(bN k cI).Pairwise (λp q=>p.cN<=q.cN)/\∀p∈bN k cI,((k:Nat):Int)<=p.cN
 | [],k=>⟨kN,λp h=>by cases h⟩
 |ps::r,k=>by
  obtain⟨h1,h2⟩:=O6 r<|k+1
  unfold bN;refine⟨List.pairwise_append.2 ⟨?_,h1,λp hp q hq=>?_⟩,λp hp=>?_⟩
  ·rw[List.pairwise_map];exact List.Pairwise.imp (λ_=>Int.le_refl _)<|List.pairwise_of_forall (R:=λ_ _=>True)<|λ_ _=>trivial
  ·obtain⟨p',_,rfl⟩:=dN.1 hp;have:=h2 q hq;show((k:Nat):Int)<=q.cN;omega
  ·rcases dI.1 hp with hp|hp
   ·obtain⟨p',_,rfl⟩:=dN.1 hp;exact Int.le_refl _
   ·have:=h2 p hp;omega
section
variable {N:Nat}{a:gZ}{ka:Z (Z aA)}{cI:Z (Z (Z aA))}{r:Nat->Nat}{gs:Z bZ}{ofP ofB fK:Z Int}{fG:Z eB}
theorem CQ{h:eB}{g:Int}{s:Z aU}(hg:0<=g->g.toNat<gs.length)(hs:s.length<=100000000):j8 N h g s gs=some (if Qn gs g=true then s++[⟨true,h,0,0⟩]else s):=by
 unfold j8 Qn
 by_cases h0:0<=g
 ·have hlt:=hg h0;have hx:gs[g.toNat]? =some gs[g.toNat]:=aM hlt
  grind [cB,Int.toNat_of_nonneg,bQ,aB,decide,iS]
 grind
theorem Gs(b:iF a ka cI r gs ofP ofB fK fG){k:Nat}(hk:k<ofP.length):∃g:Nat,ofP[k]? =some (g:Int)/\g<gs.length:=by
 have hl:=b.AK.of.lp;obtain⟨g,h1,h2,_⟩:=O0 b.AK (k:=k) (by omega)
 grind
theorem LZ(b:iF a ka cI r gs ofP ofB fK fG){j:Nat}(hj:j<ofB.length):(sM a.aN j=true/\∃g:Nat,ofB[j]? =some (g:Int)/\g<gs.length)\/(sM a.aN j=false/\ofB[j]? =some (-1)):=by
 have hl:=b.AK.of.lb;have hm:r ((bN 0 cI).length+j)∈bW ((bN 0 cI).length+a.aN.length) r:=iP.2 ⟨by have:=b.AK.conn.le ((bN 0 cI).length+j) (by omega);omega,b.AK.conn.rr _ (by omega)⟩;have:=b.AK.of.bo j (by omega) hm
 cases hp:sM a.aN j with
 |true=>
  rw[hp,aH rfl]at this;exact .inl ⟨rfl,_,this,by rw[(I1 b.AK).1];simp_all[HL,Ku]⟩
 |false=>
  grind
theorem HZ(b:iF a ka cI r gs ofP ofB fK fG){near:Int}{q1:Z (Z aF)}{q2:Z aF}{q3:Z bV}{q4:Z dA}{q5:Z (Z aA)}{q6:Z (Z Int)}{q7:Z Int}{q8:Z eB}(hN:nq N):
  pA N q1 q2 q3 q4 q5 (bN 0 cI) q6 gs ofP ofB q7 q8 near=some (if near<0\/100000<near then([],1)else if 20000<(CX (bN 0 cI) gs ofP ofB near).length then([],2)else(CX (bN 0 cI) gs ofP ofB near,0)):=by
 have hf:=b.yO.2;have hbl:=b.zB.gb.len;have hlp:=b.AK.of.lp;have hlb:=b.AK.of.lb;have hup:=(O6 cI 0).1;generalize hpcs:bN 0 cI=pcs at *;unfold pA;have w:pz N near 0 100000=some (decide (near>=0)&&decide (near<=100000)):=rfl;rw[w,aB]
 by_cases hn:near<0\/100000<near
 ·grind
 rw[aI hn,show(decide (near>=0)&&decide (near<=100000))=true by grind,ku,aQ];have s1:k9 ofP.length (λ(k34:Nat)(s35:Z aU)=>((idx ofP (k34:Int)).bind λx51=>(j8 N (⟨false,(k34:Int)⟩:eB) x51 s35 gs).bind λx54=>some x54:aT (Z aU))) ([]:Z aU)=some (qc gs false ofP ofP.length):=
  z5 (λk=>qc gs false ofP k) (by omega) rfl (λk hk=>by
   grind [Gs,rZ,cB,aB,CQ,cK,uL])
 have s2:k9 ofB.length (λ(k57:Nat)(s58:Z aU)=>((idx ofB (k57:Int)).bind λx74=>(j8 N (⟨true,(k57:Int)⟩:eB) x74 s58 gs).bind λx77=>some x77:aT (Z aU))) (qc gs false ofP ofP.length)=some (qc gs false ofP ofP.length++qc gs true ofB ofB.length):=
  z5 (λk=>qc gs false ofP ofP.length++qc gs true ofB k) (by omega) (by simp[qc]) (λk hk=>by
   have:=rZ gs false ofP ofP.length;have:=rZ gs true ofB k;have e:∃g,ofB[k]? =some g/\(0<=g->g.toNat<gs.length):=by
    rcases LZ b hk with⟨_,g,h1,h2⟩|⟨_,h1⟩
    ·exact⟨_,h1,λ_=>by omega⟩
    ·exact⟨_,h1,λh=>by omega⟩
   obtain⟨g,h1,h2⟩:=e;rw[cB h1,aB,CQ h2 (by grind),aB,uL,h1,Option.elim_some]
   cases Qn gs g with
   |true=>rw[aH rfl,aH rfl,lx]
   |false=>rw[aI pg,aI pg])
 rw[s1,aB,s2,aB];have hb1:=rZ gs false ofP ofP.length;have hb2:=rZ gs true ofB ofB.length;generalize hB:qc gs false ofP ofP.length++qc gs true ofB ofB.length=base;have hbase:base.length<=2500:=by grind
 have hs:CX pcs gs ofP ofB near=base++uC pcs ofP near pcs.length:=by grind [CX]
 refine XC ?_;refine WJ (XI (λi s=>s=base++uC pcs ofP near i) (by omega) (by simp[uC])<|λi s hi e=>?_)<|λs e=>?_
 ·subst e;have hx:pcs[i]? =some pcs[i]:=aM hi;have hpl:=Gr pcs ofP near i;have hpl:(uC pcs ofP near i).length<=2000*2000:=ou hpl<|Nat.mul_le_mul (by omega) hf
  have hri:pcs[i].eD.length<=2000/\∀q∈pcs[i].eD,dK q=true:=by
   grind [tE,cH]
  obtain⟨gi_,hgi,_⟩:=Gs b (k:=i) (by omega);refine WR hx ?_;rw[bF (by omega)];have hskip:rq pcs ofP near i (i+1)= []:=by
   have e0:rq pcs ofP near i 0= []:=by simp[rq]
   have:=yh (pcs:=pcs) (ofP:=ofP) (near:=near) (i:=i) (m:=0) (d:=i+1) (λk _ hk=>by
    unfold sO
    grind)
   grind
  refine WJ (Xr (n:=pcs.length) (λst=>st.2) (λk st=>i+1<=k/\st.1=base++uC pcs ofP near i++rq pcs ofP near i k) (Go:=λst=>st.1=base++uC pcs ofP near (i+1)) (Rt:=λ_=>False) ?_ ?_ (k0:=i+1) (by omega) rfl ⟨cJ _,by grind⟩ (by omega)) ?_
  ·rintro k⟨s,j⟩hk e⟨hik,hI⟩;dsimp only at e hI ⊢;subst e;subst hI;have hy:pcs[k]? =some pcs[k]:=aM hk;have h1l:=DI pcs ofP near i k;have hrk:pcs[k].eD.length<=2000/\∀q∈pcs[k].eD,dK q=true:=by
    grind [tE,cH]
   obtain⟨gk_,hgk,_⟩:=Gs b (k:=k) (by omega);have hmono:∀u v:Nat,(hv:v<pcs.length)->(huv:u<v)->pcs[u].cN<=pcs[v].cN:=λu v hv huv=>ox.1 hup u v (by omega) hv huv;rw[iG hk,aP];refine IS (x:=pcs[k].cN==pcs[i].cN) (by rw[cB hy,aB]) ?_
   cases hL:(pcs[k].cN==pcs[i].cN)with
   |false=>
    rw[aQ];refine W9 ?_;dsimp only;have hne:pcs[k].cN≠pcs[i].cN:=λe=>by rw[e,BEq.rfl]at hL;cases hL
    have h1:=hmono i k hk (by omega)
    have hsk:=yh (pcs:=pcs) (ofP:=ofP) (near:=near) (i:=i) (m:=k) (d:=pcs.length - k) (λj h2 h3=>by
     have hj:j<pcs.length:=by omega
     have h4:pcs[k].cN<=pcs[j].cN:=by
      by_cases e:k=j
      ·subst e;exact Int.le_refl _
      ·exact hmono k j hj (by omega)
     unfold sO
     rw[hx,aM hj,Option.elim_some,Option.elim_some,show(pcs[j].cN==pcs[i].cN)=false by rw[beq_eq_false_iff_ne];omega,Bool.false_and,Bool.and_false])
    rw[show k+(pcs.length - k)=pcs.length by omega]at hsk;rw[Al,hsk,lx]
   |true=>
    rw[aP];refine IS (x:=sO pcs ofP near i k) ?_ ?_
    ·rw[cB hgi,aB,cB hgk,aB];unfold sO;rw[hx,hy,Option.elim_some,Option.elim_some,hL,bQ (show i<k by omega),Bool.true_and,Bool.true_and,hgi,hgk]
     by_cases e:gi_=gk_
     ·subst e;rw[bne_self_eq_false,aQ,show decide (some (gi_:Int)≠some (gi_:Int))=false by simp,Bool.false_and]
     ·obtain⟨g,g1,g2⟩:=O5 (N:=N) (a:=pcs[i].eD) (b:=pcs[k].eD) (by omega) (by omega) hri.2 hrk.2;rw[show((gi_:Int) != (gk_:Int))=true by rw[bne_iff_ne];omega,aP,cB hy,aB,g1,aB,g2,show decide (some (gi_:Int)≠some (gk_:Int))=true by rw[dR];intro h;injection h with h;omega,Bool.true_and]
    ·cases hsP:sO pcs ofP near i k with
     |true=>
      rw[aP];refine WJ (P:=λs=>s=base++uC pcs ofP near i++rq pcs ofP near i (k+1)) (Xw (by simp only[eP,dX,List.length_nil];omega)<|OF ?_)<|λs hs=>W4 ⟨bF (by omega),by omega,hs⟩
      rw[vx,hsP,aH rfl,lx]
     |false=>
      rw[aQ,aB];refine W4 ⟨bF (by omega),by omega,?_⟩;dsimp only;rw[vx,hsP,aI pg]
  ·rintro⟨s,j⟩e⟨_,hI⟩;dsimp only at e hI ⊢;subst e;subst hI;rw[lL,aQ];refine IS (x:=false) rfl ?_;rw[aQ];exact W9 (by dsimp only;rw[Al,lx])
  ·intro o ho;refine Xa ho (λst hst=>OF hst)<|λr hr=>hr.elim
 ·subst e;rw[hs]
  by_cases hl:20000<(base++uC pcs ofP near pcs.length).length
  ·rw[aH hl,bQ (show(((base++uC pcs ofP near pcs.length).length:Nat):Int)>20000 by omega)];exact OF rfl
  ·rw[aI hl,bY (show ¬(((base++uC pcs ofP near pcs.length).length:Nat):Int)>20000 by omega)];exact OF rfl
end
theorem BN{bs:Z bV}{n:Nat}{x:aU}(h1:Rh x=false)(h2:BM bs n x=true)(h3:x.Open=false->x.A<x.B):pZ bs n [x]=0:=by
 unfold pZ
 grind [HW,decide,jH,bY,j7]
theorem sP{bs:Z bV}{n:Nat}:pZ bs n []=0:=rfl
noncomputable def wC(N:Nat)(a:gZ)(cI:Z (Z<|Z aA))(fK:Z Int)(fG:Z eB)(fl:Z aU):Z Int:=(fD N a.aN a.bO (bN 0 cI) (cU a.aN<|bN 0 cI) fK fG fl).getD []
def Ri(c d:Z Int):Bool:=(List.range c.length).all<|λi=>lE c i==lE d i
section
variable {N:Nat}{a:gZ}{ka:Z (Z aA)}{cI:Z (Z (Z aA))}{r:Nat->Nat}{gs:Z bZ}{ofP ofB fK:Z Int}{fG:Z eB}
theorem Gt(b:iF a ka cI r gs ofP ofB fK fG){fl:Z aU}(h0:pZ a.aN (bN 0 cI).length fl=0)(hN:nq N):
  fD N a.aN a.bO (bN 0 cI) (cU a.aN<|bN 0 cI) fK fG fl=some (wC N a cI fK fG fl)/\(wC N a cI fK fG fl).length=a.bO.length/\sN (wC N a cI fK fG fl):=by
 obtain⟨r2,c,up,fm,c1,c2,c3⟩:=Gq b h0 hN;have e:wC N a cI fK fG fl=c:=by grind [wC]
 rw[e];exact⟨c1,c3.len,c3.first⟩
theorem O7{c d:Z Int}(hc:c.length<=1000000000)(hl:d.length=c.length):tf N c d=some (Ri c d):=by
 unfold tf
 rw[qm (λk=>if lE c k=lE d k then none else some false) (by omega) (λk hk _=>by
  have h1:c[k]? =some c[k]:=aM hk;have h2:d[k]? =some (d[k]'(by omega)):=aM _;have n1:(bif c[k]<0 then some ((k:Nat):Int)else some c[k])=some (lE c k):=by
   unfold lE
   grind
  have n2:(bif(d[k]'(by omega))<0 then some ((k:Nat):Int)else some (d[k]'(by omega)))=some (lE d k):=by
   unfold lE
   grind
  rw[cB h1,aB,cB h2,aB,n1,aB,n2,aB]
  by_cases h:lE c k=lE d k
  ·rw[h,bne_self_eq_false,aH rfl];rfl
  ·rw[show(lE c k != lE d k)=true by grind,aI h];rfl),aB]
 unfold Ri
 cases hf:rQ c.length (λk=>if lE c k=lE d k then none else some false)with
 |none=>
  have e:(List.range c.length).all (λi=>lE c i==lE d i)=true:=mI.2 (λi hi=>by
   grind [j7])
  rw[e];rfl
 |some e=>
  obtain⟨k,hk,he,_⟩:=km.1 hf;split at he
  ·cases he
  rename_i hne;injection he with he
  subst he;have e:(List.range c.length).all (λi=>lE c i==lE d i)=false:=by
   grind
  rw[e];rfl
theorem O8{c d:Z Int}(hc:sN c)(hd:sN d)(hl:c.length=d.length)(h:Ri c d=true){i k:Nat}(hi:i<c.length)(hk:k<c.length)(hne:i≠k):j9 c i k=j9 d i k:=
 KT hc hd hl (λj hj=>by
  have:=mI.1 h j<|nb.2 hj
  grind) hi hk hne
theorem xv(b:iF a ka cI r gs ofP ofB fK fG){near:Int}{x:aU}(hx:x∈CX (bN 0 cI) gs ofP ofB near):pZ a.aN (bN 0 cI).length [x]=0:=by
 have hlp:=b.AK.of.lp;have hlb:=b.AK.of.lb;have inp:∀{n k:Nat},k<n->Rg n ((k:Nat):Int)=true:=λ{n k}h=>by
  grind [Rg]
 unfold CX at hx
 rcases dI.1 hx with hx|hx
 ·rcases dI.1 hx with hx|hx
  ·obtain⟨k,hk,rfl⟩:=dN.1 hx;have hk:=nb.1 (lu.1 hk).1;exact BN rfl (inp (by omega)) (λh=>by cases h)
  ·obtain⟨k,hk,rfl⟩:=dN.1 hx;obtain⟨h1,h2⟩:=lu.1 hk;have h1:=nb.1 h1;refine BN rfl ?_ (λh=>by cases h)
   grind [LZ,BM,cK,Qn]
 ·obtain⟨i,hi,hx⟩:=List.mem_flatMap.1 hx;obtain⟨k,hk,rfl⟩:=dN.1 hx;obtain⟨h1,h2⟩:=lu.1 hk;have h1:=nb.1 h1;have hi:=nb.1 hi;unfold sO at h2;rw[aM hi,aM h1,Option.elim_some,Option.elim_some,dD,dR]at h2;refine BN rfl ?_<|λ_=>?_
  ·grind [BM]
  grind
noncomputable def DJ(N:Nat)(a:gZ)(cI:Z (Z<|Z aA))(fK:Z Int)(fG:Z eB)(x:aU):Bool:=Ri (wC N a cI fK fG [x])<|wC N a cI fK fG []
end
def qC(t u:Test):Int:=if iq t.A u.A≠0 then iq t.A u.A else iq t.B u.B
def qd(a:gZ)(l:Z Test)(k:Nat):aT Int:=(l[k]?).bind λt=>
 if kY a t.A<0\/kY a t.B<0 then some 9 else if iq t.B t.A<=0 then some 8 else if 0<k/\((l[k - 1]?).elim false λu=>decide<|qC t u<=0)=true then some 8 else none
def r5(a:gZ)(l:Z Test):Int:=if 2000<l.length then 2 else(rQ l.length<|qd a l).getD 0
structure Ei (a:gZ) (t:Test):Prop where
 la:0<=kY a t.A
 lb:0<=kY a t.B
 lt:zG t.A t.B
theorem xw{a:gZ}{p:eK}(h:0<=kY a p):∃(k:Nat)(x:dA),kY a p=(k:Int)/\a.bO[k]? =some x/\lq x=p/\k<a.bO.length:=by
 grind [KL,bS]
theorem I5{a:gZ}{l:Z Test}(h:r5 a l=0):l.length<=2000/\(∀t∈l,Ei a t)/\∀(k:Nat)t u,0<k->l[k]? =some t->l[k - 1]? =some u->0<qC t u:=by
 unfold r5 at h;split at h
 ·omega
 rename_i hl;have hn:∀k,k<l.length->qd a l k=none:=by
  cases hf:rQ l.length (qd a l)with
  |none=>grind [j7]
  |some e=>
   grind [km,qd,aM]
 refine⟨by omega,λt ht=>?_,λk t u hk ht hu=>?_⟩
 ·obtain⟨k,hk,rfl⟩:=List.mem_iff_getElem.1 ht;have:=hn k hk;unfold qd at this;rw[aM hk,Option.bind_some]at this;split at this
  ·cases this
  rename_i h1;split at this
  ·cases this
  rename_i h2;exact⟨by omega,by omega,qR.1 (by omega)⟩
 grind [bS,qd]
def sw(a:gZ)(c:Z Int)(l:Z Test):Z Bool:=l.map<|λt=>j9 c (kY a t.A).toNat (kY a t.B).toNat
section
variable {N:Nat}
theorem Sk(u v:Int):uO N [u,v]=some (if u≠0 then u else v):=by
 unfold uO
 rw[Cm (l:=[u,v]) (λx=>if x≠0 then some x else none) (by simp) (λk x hx=>by
  rw[cB hx,aB]
  by_cases h:x=0
  ·subst h;rfl
  ·rw[show(x != 0)=true by simpa using h,aP,aH h];rfl),aB]
 grind [Lv,Fo.cs]
theorem EG(t u:Test):ji N t u=some (qC t u):=by
 simp[ji,qC,qJ,aB,Sk]
theorem KU{a:gZ}{e:Int}(he:e≠0)(h:jq N a=some (none,e))(l:Z Test):kh N a l=some (none,e):=by
 grind [kh,aB,E3]
end
section
variable {N:Nat}{a:gZ}{ka:Z (Z aA)}{cI:Z (Z (Z aA))}{r:Nat->Nat}{gs:Z bZ}{ofP ofB fK:Z Int}{fG:Z eB}
theorem Qo(b:iF a ka cI r gs ofP ofB fK fG)(h1:jq N a=some (some (a.aL,a.cS,a.aN,a.bO,ka,bN 0 cI,cU a.aN<|bN 0 cI,gs,ofP,ofB,fK,fG),0)){l:Z Test}(hl:l.length<=1048576)(hN:nq N):
  (r5 a l≠0/\kh N a l=some (none,r5 a l))\/(r5 a l=0/\kh N a l=some (some (a.aL,a.cS,a.aN,a.bO,ka,bN 0 cI,cU a.aN<|bN 0 cI,gs,ofP,ofB,fK,fG),0)):=by
 unfold kh;rw[h1,aB];simp only[E3,bne_self_eq_false,aQ]
 by_cases h2:2000<l.length
 ·grind [r5,bQ,decide]
 rw[bY (show ¬(l.length:Int)>2000 by omega),aQ]
 rw[qm (λk=>(qd a l k).map (λc=>(none,c))) (by omega) (λk hk _=>by
  have hx:l[k]? =some l[k]:=aM hk;have e1:((fX N a l[k].A).bind λx149=>bif x149<0 then some true else((fX N a l[k].B).bind λx153=>some<|decide<|x153<0))=some (decide (kY a l[k].A<0)||decide (kY a l[k].B<0)):=by
   rw[xt b.vt _ hN,xt b.vt _ hN,aB,aB]
   grind
  have e2:(bif decide ((k:Int)>0)then((idx l<|wrap .i64<|(k:Int) - 1).bind λx208=>(ji N l[k] x208).bind λx211=>some<|decide<|x211<=0)else some false)=some (decide<|0<k/\((l[k - 1]?).elim false λu=>decide<|qC l[k] u<=0)=true):=by
   by_cases h0:0<k
   ·grind [aM,bQ,jB,cB,aB,EG]
   grind
  rw[cB hx,aB,e1,aB];unfold qd;rw[hx,Option.bind_some]
  by_cases hA:kY a l[k].A<0\/kY a l[k].B<0
  ·rw[aH hA,show(decide (kY a l[k].A<0)||decide (kY a l[k].B<0))=true by grind];rfl
  rw[aI hA,show(decide (kY a l[k].A<0)||decide (kY a l[k].B<0))=false by grind,aQ,qJ,aB]
  by_cases hB:iq l[k].B l[k].A<=0
  ·rw[aH hB,bQ hB];rfl
  rw[aI hB,bY hB,aQ,e2,aB]
  by_cases hC:0<k/\((l[k - 1]?).elim false λu=>decide<|qC l[k] u<=0)=true
  ·rw[aH hC,bQ hC];rfl
  ·rw[aI hC,bY hC];rfl),aB,<-Oj]
 have hz:r5 a l=(rQ l.length<|qd a l).getD 0:=by grind [r5]
 cases hf:rQ l.length (qd a l)with
 |none=>
  rw[hf]at hz;exact .inr ⟨hz,rfl⟩
 |some e=>
  rw[hf]at hz;have hz:r5 a l=e:=hz;refine .inl ⟨?_,by rw[hz];rfl⟩
  grind [km,qd,aM]
theorem O9(b:iF a ka cI r gs ofP ofB fK fG){fl:Z aU}{c:Z Int}(hc:fD N a.aN a.bO (bN 0 cI) (cU a.aN<|bN 0 cI) fK fG fl=some c)(hcl:c.length=a.bO.length){l:Z Test}(hl:l.length<=1048576)(ht:∀t∈l,Ei a t)(hN:nq N):
  m9 N a.aL a.cS a.aN a.bO (bN 0 cI) (cU a.aN<|bN 0 cI) fK fG l fl=some (sw a c l):=by
 have hA:∀p,fX N (⟨a.aL,a.cS,a.aN,a.bO⟩:gZ) p=some (kY a p):=λp=>xt b.vt p hN;unfold m9;rw[hc,aB]
 rw[z5 (s:=([]:Z Bool)) (λk=>sw a c (l.take k)) (by omega) rfl (λk hk=>by
  have hx:l[k]? =some l[k]:=aM hk;obtain⟨t1,t2,_⟩:=ht _<|cH hk
  obtain⟨i,_,e1,_,_,hi⟩:=xw t1;obtain⟨j,_,e2,_,_,hj⟩:=xw t2;have ei:c[i]? =some (c[i]'(by omega)):=aM _;have ej:c[j]? =some (c[j]'(by omega)):=aM _;have hlen:(sw a c<|l.take k).length=k:=by unfold sw;grind
  have hap:∀x:Bool,app 1 (sw a c<|l.take k) [x]=some (sw a c (l.take k)++[x]):=λx=>iS (by grind);have hs:sw a c (l.take<|k+1)=sw a c (l.take k)++[j9 c i j]:=by
   unfold sw;rw[dH hk,eU,eV,List.map_nil,e1,e2,cK,cK]
  rw[cB hx,aB,hA,aB,hA,aB,e1,e2,cB ei,cB ej,aB,hs];unfold j9;rw[List.getD_eq_getElem?_getD,List.getD_eq_getElem?_getD,ei,ej,Option.getD_some,Option.getD_some]
  cases decide (c[i]'(by omega)>=0)with
  |true=>rw[aP,aB,aB,hap,aB,aB,Bool.true_and]
  |false=>rw[aQ,hap,aB,aB,Bool.false_and]),aB,dY]
end
section
variable {N:Nat}
theorem Gu{l m:Z Bool}(hl:l.length<=1000000000):kQ N l m=some (decide<|l=m):=by
 unfold kQ
 by_cases hn:l.length=m.length
 rotate_left
 ·rw[show((l.length:Int) != (m.length:Int))=true by grind,aP,bY<|λe=>hn (by rw[e])]
 rw[show((l.length:Int) != (m.length:Int))=false by rw[hn,bne_self_eq_false],aQ]
 rw[qm (λk=>if l[k]? =m[k]? then none else some false) (by omega) (λk hk _=>by
  have h1:l[k]? =some l[k]:=aM hk;have h2:m[k]? =some (m[k]'(by omega)):=aM _;rw[cB h1,aB,cB h2,aB,h1,h2]
  by_cases h:l[k]=m[k]'(by omega)
  ·rw[aH (by rw[h]),h,bne_self_eq_false];rfl
  ·rw[aI (λe=>h (by injection e)),show(l[k] != m[k]'(by omega))=true by grind];rfl),aB]
 cases hf:rQ l.length (λk=>if l[k]? =m[k]? then none else some false)with
 |none=>
  have e:l=m:=List.ext_getElem? λk=>by
   grind [j7,List.getElem?_eq_none]
  rw[bQ e];rfl
 |some e=>
  obtain⟨k,hk,he,_⟩:=km.1 hf;split at he
  ·cases he
  rename_i hne;injection he with he
  subst he;rw[bY<|λe=>hne (by rw[e])];rfl
theorem MP{α:Type}{l:Z α}{n:Nat}{x:α}(h:l[n]? =some x)(hn:n<=1000000000):vC l (n:Int) (wrap .i64<|(n:Int)+1)=some [x]:=by
 have hlt:=(bS.1 h).1;rw[bF (by omega)]
 grind [vC,cK,xx,aM]
end
noncomputable def kq(N:Nat)(a:gZ)(cI:Z (Z<|Z aA))(fK:Z Int)(fG:Z eB)(l:Z Test)(fl:Z aU):Z Bool:=sw a (wC N a cI fK fG fl) l
theorem H0(a:gZ)(c:Z Int)(l:Z Test):(sw a c l).length=l.length:=by simp[sw,dM]
theorem Am{N:Nat}{a:gZ}{cI:Z (Z<|Z aA)}{fK:Z Int}{fG:Z eB}{l:Z Test}{fl:Z aU}:(kq N a cI fK fG l fl).length=l.length:=H0 _ _ _
section
variable {N:Nat}{a:gZ}{ka:Z (Z aA)}{cI:Z (Z (Z aA))}{r:Nat->Nat}{gs:Z bZ}{ofP ofB fK:Z Int}{fG:Z eB}
theorem DK(b:iF a ka cI r gs ofP ofB fK fG){fl:Z aU}(h0:pZ a.aN (bN 0 cI).length fl=0){l:Z Test}(hl:l.length<=1048576)(ht:∀t∈l,Ei a t)(hN:nq N):
  m9 N a.aL a.cS a.aN a.bO (bN 0 cI) (cU a.aN<|bN 0 cI) fK fG l fl=some (kq N a cI fK fG l fl):=by
 obtain⟨c1,c2,_⟩:=Gt b h0 hN;exact O9 b c1 c2 hl ht hN
theorem Sm(b:iF a ka cI r gs ofP ofB fK fG){l:Z Test}(h1:kh N a l=some (some (a.aL,a.cS,a.aN,a.bO,ka,bN 0 cI,cU a.aN<|bN 0 cI,gs,ofP,ofB,fK,fG),0))(hl:l.length<=1048576)(ht:∀t∈l,Ei a t)(shown:Z Bool)(near:Int)(hN:nq N):
  qU N a l shown near=some (if near<0\/100000<near then([],1)else if 20000<(CX (bN 0 cI) gs ofP ofB near).length then([],2)else if shown.length≠l.length then([],3)else((CX (bN 0 cI) gs ofP ofB near).filter<|λx=>decide<|kq N a cI fK fG l [x]=shown,0)):=by
 unfold qU;rw[h1,aB];simp only[E3,bne_self_eq_false,aQ];rw[HZ b hN,aB]
 by_cases hn:near<0\/100000<near
 ·grind
 rw[aI hn,aI hn]
 by_cases hs:20000<(CX (bN 0 cI) gs ofP ofB near).length
 ·grind
 rw[aI hs,aI hs];simp only[bne_self_eq_false,aQ]
 by_cases hq:shown.length≠l.length
 ·grind
 have hq':shown.length=l.length:=by omega
 rw[aI hq,show((shown.length:Int) != ((l.length:Nat):Int))=false by rw[hq',bne_self_eq_false],aQ];generalize hS:CX (bN 0 cI) gs ofP ofB near=S at *
 rw[z5 (s:=([]:Z aU)) (λk=>(S.take k).filter (λx=>decide (kq N a cI fK fG l [x]=shown))) (by omega) rfl (λk hk=>by
  have hx:S[k]? =some S[k]:=aM hk;have hr:=xv b (near:=near) (x:=S[k]) (by grind);have hlen:((S.take k).filter<|λx=>decide<|kq N a cI fK fG l [x]=shown).length<=k:=ou (l4 _ _)<|List.length_take_le _ _
  rw[cB hx,aB,DK b hr hl ht hN,aB,Gu (by grind [Am]),aB,dH hk,sR]
  by_cases hh:kq N a cI fK fG l [S[k]]=shown
  ·grind [bQ,iS,dX,List.length_nil,aB,List.filter_cons_of_pos]
  grind),aB,dY]
end
section
variable (T:Nat->Nat->Bool)(n:Nat)
def zK(i k:Nat)(K:Z Nat):Nat:=(List.range k).countP (T i)+K.countP (T i)
def Sn(K:Z Nat)(k:Nat):Bool:=(List.range n).any<|λi=>T i k&&decide (zK T i (k+1) K=1)
variable {T n}
theorem BO(i k:Nat)(K:Z Nat):zK T i (k+1) K=zK T i k K+if T i k=true then 1 else 0:=by
 grind [zK,List.range_succ,List.countP_singleton]
theorem BP(i k:Nat)(K:Z Nat):zK T i k (k::K)=zK T i (k+1) K:=by
 grind [BO,zK]
structure Pa (T:Nat->Nat->Bool) (n m k:Nat) (K:Z Nat):Prop where
 up:K.Pairwise (· < ·)
 lo:∀j∈K,k<=j/\j<m
 all:∀i,i<n->(∃j,j<m/\T i j=true)->0<zK T i k K
 own:∀j∈K,∃i,i<n/\T i j=true/\zK T i k K=1
theorem Pa.step{m k:Nat}{K:Z Nat}(h:Pa T n m (k+1) K)(hk:k<m):Pa T n m k (if Sn T n K k=true then k::K else K):=by
 by_cases hn:Sn T n K k=true
 ·rw[aH hn];refine⟨qD.2 ⟨λj hj=>by have:=h.lo j hj;omega,h.up⟩,λj hj=>?_,λi hi hj=>?_,λj hj=>?_⟩
  ·rcases fJ.1 hj with rfl|hj
   ·omega
   ·have:=h.lo j hj;omega
  ·rw[BP];exact h.all i hi hj
  ·rcases fJ.1 hj with rfl|hj
   ·grind [Sn,l5,BP]
   ·obtain⟨i,h1,h2,h3⟩:=h.own j hj
    grind [BP]
 ·rw[aI hn];have hno:∀i,i<n->T i k=true->zK T i (k+1) K≠1:=λi hi ht e=>hn<|l5.2 ⟨i,nb.2 hi,by grind⟩
  refine⟨h.up,λj hj=>by have:=h.lo j hj;omega,λi hi hj=>?_,λj hj=>?_⟩
  ·have h1:=h.all i hi hj
   grind [BO]
  ·obtain⟨i,h1,h2,h3⟩:=h.own j hj
   grind [BO,List.countP_pos_iff,zK,List.range]
end
def MQ(n:Nat)(f:Nat->Int):Z Int:=(List.range n).map f
theorem An(n:Nat)(f:Nat->Int):(MQ n f).length=n:=by simp[MQ]
theorem I6{n:Nat}{f:Nat->Int}{i:Nat}(h:i<n):(MQ n f)[i]? =some (f i):=by unfold MQ;grind
theorem Ao{n:Nat}{f g:Nat->Int}(h:∀i,i<n->f i=g i):MQ n f=MQ n g:=List.map_congr_left λi hi=>h i<|nb.1 hi
theorem MR{n:Nat}{f g:Nat->Int}{i:Nat}{v:Int}(hv:i<n->v=g i)(hg:∀j,j<n->j≠i->f j=g j):(MQ n f).set i v=MQ n g:=by
 refine List.ext_getElem? λj=>?_
 grind [I6,List.getElem?_set_self,An,List.getElem?_set_ne,List.getElem?_eq_none,iU]
theorem Pb(n:Nat):List.replicate n (0:Int)=MQ n (λ_=>0):=by
 refine List.ext_getElem? λj=>?_
 grind [I6,List.getElem?_eq_none,An]
noncomputable def vz(N:Nat)(a:gZ)(cI:Z (Z<|Z aA))(gs:Z bZ)(ofP ofB fK:Z Int)(fG:Z eB)(near:Int):Z aU:=(CX (bN 0 cI) gs ofP ofB near).filter<|λx=> !DJ N a cI fK fG x
noncomputable def A7(f:aU->Z Bool)(F:Z aU):Z cP:=F.map<|λx=>⟨x,f x⟩
section
variable {N:Nat}{a:gZ}{ka:Z (Z aA)}{cI:Z (Z (Z aA))}{r:Nat->Nat}{gs:Z bZ}{ofP ofB fK:Z Int}{fG:Z eB}
theorem Ej{l:Z Test}{near e:Int}(he:e≠0)(h:kh N a l=some (none,e)):kx N a l near=some ([],[],e):=by
 grind [kx,aB,E3]
theorem L0(b:iF a ka cI r gs ofP ofB fK fG){l:Z Test}(h1:kh N a l=some (some (a.aL,a.cS,a.aN,a.bO,ka,bN 0 cI,cU a.aN<|bN 0 cI,gs,ofP,ofB,fK,fG),0))(hl:l.length<=1048576)(ht:∀t∈l,Ei a t)(near:Int)(hN:nq N):
  kx N a l near=some (if near<0\/100000<near then([],[],1)else if 20000<(CX (bN 0 cI) gs ofP ofB near).length then([],[],2)else(A7 (λx=>kq N a cI fK fG l [x])<|vz N a cI gs ofP ofB fK fG near,kq N a cI fK fG l [],0)):=by
 have hll:=b.vt.yO;unfold kx;rw[h1,aB];simp only[E3,bne_self_eq_false,aQ];rw[HZ b hN,aB]
 by_cases hn:near<0\/100000<near
 ·grind
 rw[aI hn,aI hn]
 by_cases hs:20000<(CX (bN 0 cI) gs ofP ofB near).length
 ·grind
 rw[aI hs,aI hs];simp only[bne_self_eq_false,aQ];obtain⟨c1,c2,c3⟩:=Gt b (fl:=[]) sP hN;rw[c1,aB];unfold vz;generalize hS:CX (bN 0 cI) gs ofP ofB near=S at *
 rw[z5 (s:=(wC N a cI fK fG [],([]:Z cP))) (λk=>(wC N a cI fK fG [],A7 (λx=>kq N a cI fK fG l [x]) ((S.take k).filter (λx=> !DJ N a cI fK fG x)))) (by omega) rfl (λk hk=>by
  have hx:S[k]? =some S[k]:=aM hk;have hr:=xv b (near:=near) (x:=S[k]) (by grind);obtain⟨d1,d2,d3⟩:=Gt b (fl:=[S[k]]) hr hN;have hlen:(A7 (λx=>kq N a cI fK fG l [x])<|(S.take k).filter<|λx=> !DJ N a cI fK fG x).length<=k:=by
   unfold A7;grind
  rw[cB hx,aB,d1,aB,O7 (by omega) (by rw[c2,d2]),aB,dH hk,sR];have eh:DJ N a cI fK fG S[k]=Ri (wC N a cI fK fG [S[k]]) (wC N a cI fK fG []):=rfl
  cases hh:Ri (wC N a cI fK fG [S[k]]) (wC N a cI fK fG [])with
  |false=>
   rw[jH,aP,DK b hr hl ht hN,aB,iS (by grind),aB,aB,List.filter_cons_of_pos (by grind),List.filter_nil];simp[A7,eU]
  |true=>grind),aB,dY,DK b sP hl ht hN,aB]
end
def Qp(u t:Test):Prop:=zG u.A t.A\/(u.A=t.A/\zG u.B t.B)
theorem KW{t u:Test}:0<qC t u↔Qp u t:=by
 unfold qC Qp
 by_cases h:iq t.A u.A=0
 ·have e:=nG.1 h;rw[aI (by simpa using h),qR];constructor
  ·exact λh=> .inr ⟨e.symm,h⟩
  ·rintro(h1|⟨_,h1⟩)
   ·rw[e]at h1;exact absurd h1<|zG.irrefl _
   ·exact h1
 ·rw[aH h,qR];constructor
  ·exact .inl
  ·rintro(h1|⟨e,_⟩)
   ·exact h1
   ·exact absurd (nG.2 e.symm) h
theorem Qp.trans{s t u:Test}(h1:Qp s t)(h2:Qp t u):Qp s u:=by
 rcases h1 with h1|⟨e1,h1⟩
 ·rcases h2 with h2|⟨e2,_⟩
  ·exact .inl<|h1.trans h2
  ·exact .inl<|e2▸h1
 ·rcases h2 with h2|⟨e2,h2⟩
  ·exact .inl<|e1▸h2
  ·exact .inr ⟨e1.trans e2,h1.trans h2⟩
section
variable {N:Nat}
theorem Gv{l m:Z aU}(hl:l.length<=4611686018427387904):mw N l m=some (decide<|l=m):=Df hl
end
def Rj(c:Z Int):Prop:=∀(i v:Nat),c[i]? =some (v:Int)->v<=i
theorem Gw{c:Z Int}(h:sN c)(hle:Rj c){i:Nat}(hi:i<c.length):(lE c i=(i:Int))\/∃v:Nat,v<i/\lE c i=(v:Int)/\j9 c i v=true/\c[i]? =some (v:Int)/\c[v]? =some (v:Int):=by
 have ei:c[i]? =some c[i]:=aM hi
 by_cases h0:c[i]<0
 ·left;unfold lE;grind
 ·obtain⟨v,e⟩:∃v:Nat,c[i]=(v:Int):=⟨c[i].toNat,by omega⟩;rw[e]at ei;have hv:=hle i v ei;have ev:=h.own i v ei
  grind [lE,j9,bQ]
theorem Pc{c:Z Int}(hle:Rj c){i v:Nat}(h:j9 c i v=true)(hi:i<c.length)(hv:v<c.length):∃w:Nat,c[i]? =some (w:Int)/\c[v]? =some (w:Int)/\w<=v/\w<=i:=by
 have ei:c[i]? =some c[i]:=aM hi;have ev:c[v]? =some c[v]:=aM hv;unfold j9 at h;rw[dD,dR,beq_iff_eq,List.getD_eq_getElem?_getD,List.getD_eq_getElem?_getD,ei,ev,Option.getD_some,Option.getD_some]at h;obtain⟨w,e⟩:∃w:Nat,c[i]=(w:Int):=⟨c[i].toNat,by omega⟩;rw[e]at ei;rw[<-h.2,e]at ev;exact⟨w,ei,ev,hle _ _ ev,hle _ _ ei⟩
theorem NK{c:Z Int}{i w:Nat}(h:c[i]? =some (w:Int)):lE c i=(w:Int):=by
 unfold lE;grind
theorem norm_le{c:Z Int}(h:sN c)(hle:Rj c){i:Nat}(hi:i<c.length):∃v:Nat,lE c i=(v:Int)/\v<=i:=by
 grind [Gw,hle]
theorem Gx{c d:Z Int}(hc:sN c)(hd:sN d)(lc:Rj c)(ld:Rj d)(hl:c.length=d.length)(h:∀i k,k<i->i<c.length->j9 c i k=j9 d i k){i:Nat}(hi:i<c.length):lE d i<=lE c i:=by
 grind [Gw,norm_le,Pc,NK]
theorem Qq{c d:Z Int}(hc:sN c)(hd:sN d)(lc:Rj c)(ld:Rj d)(hl:c.length=d.length):Ri c d=true↔∀i k,k<i->i<c.length->j9 c i k=j9 d i k:=by
 constructor
 ·grind [O8]
 ·intro h;unfold Ri;rw[mI];intro i hi;have hi:=nb.1 hi;have h1:=Gx hc hd lc ld hl h hi;have h2:=Gx hd hc ld lc hl.symm (λi k hk hi=>(h i k hk (by omega)).symm) (i:=i) (by omega)
  grind
section
variable {N:Nat}{a:gZ}{ka:Z (Z aA)}{cI:Z (Z (Z aA))}{r:Nat->Nat}{gs:Z bZ}{ofP ofB fK:Z Int}{fG:Z eB}
theorem Pd(b:iF a ka cI r gs ofP ofB fK fG){fl:Z aU}(h0:pZ a.aN (bN 0 cI).length fl=0)(hN:nq N):Rj (wC N a cI fK fG fl):=by
 obtain⟨r2,c,up,fm,c1,c2,c3⟩:=Gq b h0 hN;have e:wC N a cI fK fG fl=c:=by grind [wC]
 rw[e];exact c3.le
theorem Pe(b:iF a ka cI r gs ofP ofB fK fG){fl:Z aU}(h0:pZ a.aN (bN 0 cI).length fl=0)(hN:nq N):
  ∃r2,A6 ((bN 0 cI).length+a.aN.length) (Qm (bN 0 cI).length (cU a.aN<|bN 0 cI) fl) r2/\∀{i k:Nat}{x y:dA},a.bO[i]? =some x->a.bO[k]? =some y->
   (j9 (wC N a cI fK fG fl) i k=true↔∃u v,lX a.aN (bN 0 cI) fl x=some u/\lX a.aN (bN 0 cI) fl y=some v/\r2 u=r2 v):=by
 obtain⟨r2,c,up,fm,c1,c2,c3⟩:=Gq b h0 hN;have e:wC N a cI fK fG fl=c:=by grind [wC]
 rw[e];exact⟨r2,c2,λhx hy=>c3.conn hx hy⟩
end
def EH(r:Nat->Nat)(p q:Nat):Nat->Nat:=λx=>if r x=q then p else r x
theorem oq.rel{r:Nat->Nat}{E:Z (Nat×Nat)}(h:oq r E)(i k:Nat):oq (EH r (r i)<|r k) (E++[(i,k)]):=λp hp=>by
 rcases dI.1 hp with hp|hp
 ·unfold EH;rw[h p hp]
 ·simp at hp;subst hp;unfold EH;dsimp only;rw[aH rfl];split <;> rfl
theorem yN.rel{n:Nat}{r:Nat->Nat}{E:Z (Nat×Nat)}(h:yN n r E){i k:Nat}(hi:i<n)(hk:k<n):yN n (EH r (r i)<|r k) (E++[(i,k)]):=λS hS x y hx hy hr hSx=>by
 have hE:∀p∈E,S p.1↔S p.2:=λp hp=>hS p<|List.mem_append_left _ hp
 have hik:S i↔S k:=hS (i,k) (by simp);have key:=h S hE;unfold EH at hr
 by_cases h1:r x=r y
 ·exact key x y hx hy h1 hSx
 ·by_cases h2:r x=r k
  ·rw[aH h2]at hr
   by_cases h3:r y=r k
   ·exact absurd (h2.trans h3.symm) h1
   ·rw[aI h3]at hr;exact key i y hi hy hr<|hik.2<|key x k hx hk h2 hSx
  ·rw[aI h2]at hr
   by_cases h3:r y=r k
   ·rw[aH h3]at hr;exact key k y hk hy h3.symm<|hik.1<|key x i hx hi hr hSx
   ·rw[aI h3]at hr;exact absurd hr h1
def I7(t:Nat)(u:Z Int)(r:Nat->Nat):Prop:=u=(List.range t).map (λi=>((r i:Nat):Int))
theorem I7.len{t:Nat}{u:Z Int}{r:Nat->Nat}(h:I7 t u r):u.length=t:=by rw[h];simp
theorem I7.at{t:Nat}{u:Z Int}{r:Nat->Nat}(h:I7 t u r){i:Nat}(hi:i<t):u[i]? =some ((r i:Nat):Int):=by rw[h,gE,List.getElem?_range hi];rfl
structure CR (t:Nat) (L:Nat->Nat->Prop) (r:Nat->Nat):Prop where
 co:∀i j,L i j->r i=r j
 fi:∀S:Nat->Prop,(∀i j,L i j->(S i↔S j))->∀i j,i<t->j<t->r i=r j->S i->S j
theorem CR.uniq{t:Nat}{L:Nat->Nat->Prop}{r1 r2:Nat->Nat}(h1:CR t L r1)(h2:CR t L r2){i j:Nat}(hi:i<t)(hj:j<t):r1 i=r1 j↔r2 i=r2 j:=by
 have key:∀{r1 r2:Nat->Nat},CR t L r1->CR t L r2->r1 i=r1 j->r2 i=r2 j:=λ{r1 r2}h1 h2 e=>
  (h1.fi (λx=>r2 i=r2 x) (λa b hab=>by rw[h2.co a b hab]) i j hi hj e) rfl
 exact⟨key h1 h2,key h2 h1⟩
def Ap(l:Z Test)(k:Nat)(t:Test):Prop:=iq t.B t.A<=0\/(0<k/\((l[k - 1]?).elim false λu=>decide<|qC t u<=0)=true)
theorem NL{a:gZ}{l:Z Test}{k:Nat}{t:Test}(hx:l[k]? =some t):qd a l k=if kY a t.A<0\/kY a t.B<0 then some 9 else if Ap l k t then some 8 else none:=by
 unfold qd Ap
 grind
section
variable {N:Nat}
theorem Gy(p q:eK):iT N p q=some (decide<|zG p q):=by
 unfold iT;congr 1;rw[jQ,dR,jd,dD,Cl];rfl
theorem Gz(t u:Test):jy N t u=some (decide<|Qp t u):=by
 unfold jy;simp only[Gy,aB]
 grind [zG,Qp,bQ,aB,bY]
theorem GA{a:gZ}(hl:a.bO.length<=1000000)(p:eK)(hN:nq N):fE N a p=some (kY a p):=by
 refine XC ?_;unfold fE;refine WJ (Xr (n:=a.bO.length) (λs=>s) (λk _=>∀(j:Nat)x,j<k->a.bO[j]? =some x->decide (lq x=p)=false) (Go:=λ_=>kY a p = -1) (Rt:=λr=>r=kY a p) ?_ ?_ (cO _) rfl (λj x hj=>by omega) (by omega)) ?_
 ·rintro k s hk e hI;subst e;rw[iG hk,aP];have hx:a.bO[k]? =some a.bO[k]:=aM hk;refine IS (x:=decide<|lq a.bO[k]=p) ?_<|Xj (λh=>XJ ?_)<|λh=>W4 ⟨bF (by omega),λj x hj hjx=>?_⟩
  ·rw[cB hx,aB,aB,Mp,Mp]
   grind [bQ,Qh,bY]
  ·exact(J8 hx h hI).symm
  grind
 ·grind [W9,kY,J7,List.any_eq_false,dZ,bS]
 intro o ho;exact Xa ho (λs hs=>OF hs.symm)<|λr hr=>OF hr
theorem CS{a:gZ}{e:Int}(he:e≠0)(h:eM N a=some e)(l:Z Test):dC N a l=some e:=by
 grind [dC,aB]
theorem DL{a:gZ}(ha:a.bO.length<=1000000)(h:eM N a=some 0){l:Z Test}(hl:l.length<=1048576)(hN:nq N):dC N a l=some (r5 a l):=by
 refine XC ?_;unfold dC;refine IS h ?_;rw[bne_self_eq_false,aQ];unfold r5
 by_cases h2:2000<l.length
 ·grind [bQ,OF]
 rw[bY (show ¬(l.length:Int)>2000 by omega),aQ,aI h2];have hA:∀p,fE N a p=some (kY a p):=λp=>GA ha p hN;refine WJ (Xr (n:=l.length) (λs=>s) (λk _=>∀j,j<k->qd a l j=none) (Go:=λ_=>rQ l.length (qd a l)=none) (Rt:=λr=>rQ l.length (qd a l)=some r) ?_ ?_ (cO _) rfl (λj hj=>by omega) (by omega)) ?_
 ·rintro k s hk e hI;subst e;rw[iG hk,aP];have hx:l[k]? =some l[k]:=aM hk;have hte:=NL (a:=a) hx;generalize l[k]=t at hx hte;refine IS (x:=decide<|kY a t.A<0\/kY a t.B<0) ?_<|Xj (λh1=>XJ ?_)<|λh1=>?_
  ·grind [cB,aB,kY,bQ,bY]
  ·grind [km]
  rw[aI<|of_decide_eq_false h1]at hte;refine IS (x:=decide<|Ap l k t) ?_<|Xj (λh2=>XJ ?_)<|λh2=>W4 ⟨bF (by omega),λj hj=>?_⟩
  ·simp only[cB hx,aB,Gy,Gz];have hle:iq t.B t.A<=0↔¬zG t.A t.B:=by rw[<-qR];omega
   by_cases q:zG t.A t.B
   ·rw[bQ q,ku,aQ]
    by_cases h0:0<k
    ·have hp:k - 1<l.length:=by omega
     have hy:l[k - 1]? =some l[k - 1]:=aM hp;have hgt:qC t l[k - 1]<=0↔¬Qp l[k - 1] t:=by rw[<-KW];omega
     rw[bQ (show((k:Nat):Int)>0 by omega),aP,jB h0 (by omega),cB hy,aB]
     grind [Bool.not_eq_true',decide_eq_false_iff_not,Ap,hle]
    grind [Ap,hle,bY]
   grind [Ap,hle,bY,jH,bQ]
  ·grind [km]
  grind
 ·grind [W9,j7]
 intro o ho;exact Xa ho (λ_ h=>OF (by rw[h];rfl))<|λr hr=>OF (by rw[hr];rfl)
end
end Go.Gk
