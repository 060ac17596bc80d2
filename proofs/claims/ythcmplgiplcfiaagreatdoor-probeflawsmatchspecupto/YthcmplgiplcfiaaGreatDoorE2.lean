/-
  Helping texts: plain functions and plain laws. No statement of the seed is proved here.
-/
import Derived.Test.YthcmplgiplcfiaaGreatDoorE1
import Derived.Test.YthcmplgiplcfiaaGreatDoorA2
set_option linter.unusedVariables false
set_option linter.unusedSimpArgs false
set_option linter.unusedSectionVars false
namespace Go.Gk
open Go IntKind Classical
section
variable {N:Nat}
def Dr(a:jr):Prop:=∀x∈a.bM,x.Part.dN.length<=1048576/\x.dO.dN.length<=1048576
theorem Ef{a:jr}(h1:a.aJ.length<=1073741824)(h2:a.bM.length<=1073741824)(h3:Dr a)(hN:4194304<=N):lR N a=some (mz a):=by
 unfold lR mz
 by_cases h:1000<a.bM.length
 ·rw[bL (by omega),aK,aC h]
 ·have hw:wrap .i64 (((a.aJ.length:Nat):Int) - 1)=((a.aJ.length:Nat):Int) - 1:=fw (by omega) (by omega)
  rw[bG (by omega),aM,aD h,ru (kD a) (by omega) (λk hk _=>by
   have hx:a.bM[k]? =some a.bM[k]:=aO hk;have hs:=h3 _<|cL hk
   rw[cI hx,aB,Ay hs.1 hN,aB]
   have hle:kD a k=(if(o6 a.bM[k].Part&&isWord a.bM[k].dO)=true then
     if(gE a.bM[k].dJ 0 (((a.aJ.length:Nat):Int) - 1)&&tF a.bM[k].At)=true then
      if 0<k/\(∃y,a.bM[k - 1]? =some y/\gQ (kK a.bM[k]) (kK y)<=0)then some 8 else none
     else some 1
    else some 5):=by unfold kD;rw[hx];rfl
   rw[hle];have e1:((bif(!o6 a.bM[k].Part)then some true else((kh N a.bM[k].dO).bind λx225=>some<|!x225)):Option Bool)=some (!(o6 a.bM[k].Part&&isWord a.bM[k].dO)):=by
    rw[ui hs.2,aB]
    cases o6 a.bM[k].Part <;> rfl
   have e2:((jw N a.bM[k].dJ 0<|wrap .i64<|((a.aJ.length:Nat):Int) - 1).bind λx318=>bif(!x318)then some true else((kQ N a.bM[k].At).bind λx321=>some<|!x321))=some (!(gE a.bM[k].dJ 0 (((a.aJ.length:Nat):Int) - 1)&&tF a.bM[k].At)):=by
    rw[hw,zu,aB,BV,aB]
    cases gE a.bM[k].dJ 0 (((a.aJ.length:Nat):Int) - 1) <;> rfl
   show((bif(!o6 a.bM[k].Part)then some true else((kh N a.bM[k].dO).bind λx225=>some<|!x225)):Option Bool).bind _=_;rw[e1,aB]
   cases h4:(o6 a.bM[k].Part&&isWord a.bM[k].dO)with
   |false=>rfl
   |true=>
    rw[jz,aM,aC rfl];show(((jw N a.bM[k].dJ 0<|wrap .i64<|((a.aJ.length:Nat):Int) - 1).bind λx318=>bif(!x318)then some true else((kQ N a.bM[k].At).bind λx321=>some<|!x321))).bind _=_;rw[e2,aB]
    cases h5:(gE a.bM[k].dJ 0 (((a.aJ.length:Nat):Int) - 1)&&tF a.bM[k].At)with
    |false=>rfl
    |true=>
     rw[jz,aM,aC rfl]
     by_cases h0:0<k
     ·rw[bL (by omega),aK,jg h0 (by omega),mb _ _ (by omega:k - 1<a.bM.length)];simp only[Bo,aB,m9]
      by_cases h6:gQ (kK a.bM[k]) (kK a.bM[k - 1])<=0
      ·rw[bL h6,aC ⟨h0,_,aO (by omega:k - 1<a.bM.length),h6⟩];rfl
      ·rw[bG h6,aD (by
        rintro⟨_,y,hy,h7⟩;rw[aO (by omega:k - 1<a.bM.length)]at hy;injection hy with hy
        rw[<-hy]at h7;exact h6 h7)];rfl
     ·rw[bG (by omega),aD (λh=>h0 h.1)];rfl),aB]
  cases qg a.bM.length (kD a) <;> rfl
def kL(b:bT)(k:Int):Bool:=decide (b.cS<=k)&&decide (k<=b.To)
theorem Ds(b:bT)(k:Int):mh N b k=some (kL b k):=rfl
def kR(bs:List bT)(k:Int):List aI:=(bs.filter<|λb=>kL b k).map xc
structure k6 (bs:List bT):Prop where
 len:bs.length<=500
 ok:∀b∈bs,sm b=true/\ga (xc b)=true
structure wt (r hs:List aI) (s:List aA):Prop where
 can:fJ (s.map cJ)
 cover:∀x y,w9 (s.map cJ) x y=(uL r x y&& !uL hs x y)
 lim:zC (vv r++vv hs) (kb r++kb hs) (s.map cJ)
theorem Bp{bs:List bT}(h:k6 bs)(k:Int):(kR bs k).length<=500:=by
 unfold kR;rw[dA];have:=pA (λb=>kL b k) bs;have:=h.len;omega
theorem tG{bs:List bT}(h:k6 bs)(k:Int):∀r∈kR bs k,DV r/\ga r=true:=by
 intro r hr;unfold kR at hr;obtain⟨b,hb,rfl⟩:=dH.1 hr;have:=h.ok b (j7.1 hb).1;exact⟨Nl this.1 this.2,this.2⟩
theorem wt.small{r hs:List aI}{s:List aA}(h:wt r hs s)(h1:∀x∈r,DV x)(h2:∀x∈hs,DV x):(∀c∈vv r++vv hs,small c)/\∀c∈kb r++kb hs,small c:=by
 constructor
 ·intro c hc
  rcases cR.1 hc with h|h
  ·obtain⟨x,hx,rfl|rfl⟩:=vx.1 h
   ·exact(h1 x hx).s1
   ·exact(h1 x hx).s2
  ·obtain⟨x,hx,rfl|rfl⟩:=vx.1 h
   ·exact(h2 x hx).s1
   ·exact(h2 x hx).s2
 ·intro c hc
  rcases cR.1 hc with h|h
  ·obtain⟨x,hx,rfl|rfl⟩:=mw.1 h
   ·exact(h1 x hx).s3
   ·exact(h1 x hx).s4
  ·obtain⟨x,hx,rfl|rfl⟩:=mw.1 h
   ·exact(h2 x hx).s3
   ·exact(h2 x hx).s4
theorem ym{s:List aA}{X Y:List Int}{A:Nat}(hc:fJ (s.map cJ))(h:zC X Y (s.map cJ))(hX:X.length<=A)(hY:Y.length<=A):s.length<=A/\(∀b∈s,b.Xs.length<=A)/\(aU s).length<=A*A:=by
 have h1:s.length<=A:=by have:=h.len hc;rw[dA]at this;omega
 have h2:∀b∈s,b.Xs.length<=A:=λb hb=>by
  have:=h.row hc (b:=cJ b)<|dH.2 ⟨b,hb,rfl⟩
  have e:(cJ b).xs=b.Xs:=rfl;rw[e]at this;omega
 exact⟨h1,h2,Dc h1 h2⟩
theorem Eg{r hs:List aI}(h1:r.length<=2000)(h2:∀x∈r,DV x)(h3:hs.length<=500)(h4:∀x∈hs,DV x)(hN:4398046511104<=N){β:Type}{f:List aA->Option β}{Q:β->Prop}(k:∀s,wt r hs s->Ok (f s) Q):
  Ok ((i5 N r).bind λx378=>(i5 N hs).bind λx380=>(mi N x378 x380).bind f) Q:=by
 refine Sr (qX (N:=N) (by omega) h2 (by omega))<|λs hs1=>?_
 refine Sr (qX (N:=N) (by omega) h4 (by omega))<|λt ht=>?_
 have hz:∀c∈kb r++kb hs,small c:=by
  intro c hc
  rcases cR.1 hc with h|h
  ·obtain⟨x,hx,rfl|rfl⟩:=mw.1 h
   ·exact(h2 x hx).s3
   ·exact(h2 x hx).s4
  ·obtain⟨x,hx,rfl|rfl⟩:=mw.1 h
   ·exact(h4 x hx).s3
   ·exact(h4 x hx).s4
 refine Sr (JY (X:=vv r++vv hs) (Y:=kb r++kb hs) hs1.can ht.can (hs1.lim.mono (λc h=>List.mem_append_left _ h) (λc h=>List.mem_append_left _ h)) (ht.lim.mono (λc h=>List.mem_append_right _ h) (λc h=>List.mem_append_right _ h))
  (by rw[dK,m7,m7];omega) (by rw[dK,ko,ko];omega) hz hN) (λu hu=>?_)
 exact k u ⟨hu.can,λx y=>by rw[hu.cover,hs1.cover,ht.cover],hu.lim⟩
def cE:Nat->List (List<|List aA)->List aH
 |_,[]=>[]
 |k,ps::r=>ps.map (λp=>⟨((k:Nat):Int),p,aU p⟩)++cE (k+1) r
theorem wu(ps:List (List aA)):∀(r:List (List<|List aA))(k:Nat),cE k (r++[ps])=cE k r++ps.map (λp=>⟨((k+r.length:Nat):Int),p,aU p⟩)
 | [],k=>by unfold cE;simp[cE]
 |q::r,k=>by
  show _++cE (k+1) (r++[ps])=(_++cE (k+1) r)++_;rw[wu ps r<|k+1,lL];congr 3;simp only[dX];rw[show k+(r.length+1)=k+1+r.length by omega]
theorem Dt{s p:List aA}{ps:List (List aA)}{r:Nat->Nat}{X Y:List Int}(h:ug s r ps)(hc:fJ (s.map cJ))(hl:zC X Y (s.map cJ))(hX:∀c∈X,small c)(hY:∀c∈Y,small c)(hp:p∈ps):
  ∃j k:Nat,ps[j]? =some p/\(bU (aU s).length r)[j]? =some k/\tD (o5 (aU s) (aU s).length r k) p/\zC X Y (p.map cJ):=by
 obtain⟨j,hj⟩:=dZ hp;have hjl:=(bD.1 hj).1;rw[h.len]at hjl;have hh:(bU (aU s).length r)[j]? =some (bU (aU s).length r)[j]:=aO hjl;have hs:=h.each j _ p hh hj;refine⟨j,_,hj,hh,hs,hs.lim.mono (λc hcx=>?_)<|λc hcx=>?_⟩
 ·obtain⟨x,hx,hxc⟩:=vx.1 hcx;obtain⟨i,_,_,hi⟩:=m8.1 hx;have:=De hc hl hX hY x<|fQ hi
  rcases hxc with rfl|rfl
  ·exact this.2.1.1
  ·exact this.2.1.2
 ·obtain⟨x,hx,hxc⟩:=mw.1 hcx;obtain⟨i,_,_,hi⟩:=m8.1 hx;have:=De hc hl hX hY x<|fQ hi
  rcases hxc with rfl|rfl
  ·exact this.2.2.1
  ·exact this.2.2.2
structure xP (cs:List (List aI)) (bs:List bT) (k:Nat) (kS:List (List aA)) (dS:List (List (List aA))):Prop where
 len:kS.length=k
 Bq:dS.length=k
 dr:∀(i:Nat)r s,i<k->cs[i]? =some r->kS[i]? =some s->wt r (kR bs ((i:Nat):Int)) s
 pt:∀(i:Nat)s ps,i<k->kS[i]? =some s->dS[i]? =some ps->∃u,ug s u ps
 xd:(cE 0 dS).length<=k*25000000
theorem ug.xd{s:List aA}{u:Nat->Nat}{ps:List (List aA)}(h:ug s u ps):ps.length<=(aU s).length:=by
 rw[h.len];exact mx _ _
theorem Ig{cs:List (List aI)}{bs:List bT}(hcs:cs.length<=16)(hc:∀r∈cs,r.length<=2000/\∀x∈r,DV x)(hb:k6 bs)(hN:4398046511104<=N):
  Ok (ld N cs bs [] []) (λx=>∃dS,xP cs bs cs.length x.2.1 dS/\x.2.2=cE 0 dS/\(x.1=true↔(∀s∈x.2.1,(aU s).length<=2000)/\x.2.2.length<=2000)):=by
 unfold ld
 refine Sr (P:=λ(st:List (List aA)×List aH×Bool)=>∃dS,xP cs bs cs.length st.1 dS/\st.2.1=cE 0 dS/\(st.2.2=true↔∀s∈st.1,(aU s).length<=2000)) (Ts (λ(k:Nat)(st:List (List aA)×List aH×Bool)=>∃dS,xP cs bs k st.1 dS/\st.2.1=cE 0 dS/\(st.2.2=true↔∀s∈st.1,(aU s).length<=2000)) (by omega)
  ⟨[],⟨rfl,rfl,λi r s hi=>by omega,λi s ps hi=>by omega,by simp[cE]⟩,rfl,by simp⟩ (λk st hk hI=>?_)) ?_
 ·obtain⟨kS,pcs,okk⟩:=st;obtain⟨dS,D,e1,e2⟩:=hI;dsimp only at D e1 e2 ⊢;subst e1;have hkx:cs[k]? =some cs[k]:=aO hk;obtain⟨hr1,hr2⟩:=hc _<|cL hk
  refine Sy hkx ?_;refine Sr (P:=λt=>t=kR bs ((k:Nat):Int)) (Ok.mono (Ts (λj t=>t=kR (bs.take j) ((k:Nat):Int)) (by have:=hb.len;omega) rfl<|λj t hj e=>?_) (λt e=>by rw[e,eK]))<|λt e=>?_
  ·subst e;refine Ti hj<|IT (Ds _ _) ?_
   have hts:bs.take (j+1)=bs.take j++[bs[j]]:=eI hj;have hgb:=hb.ok _<|cL hj
   have hl:(kR (bs.take j) ((k:Nat):Int)).length<=500:=by
    unfold kR;rw[dA];have:=pA (λb=>kL b ((k:Nat):Int))<|bs.take j
    rw[cQ]at this;have:=hb.len;omega
   cases ht:kL bs[j] ((k:Nat):Int)with
   |false=>
    rw[aM];refine IT rfl<|Sh ?_
    unfold kR;rw[hts,lM];simp[ht]
   |true=>
    rw[aK];refine IT (x:=kR (bs.take j) ((k:Nat):Int)++[xc bs[j]]) (by rw[ot hgb.1,aB,lS (by simp;omega),aB])<|Sh ?_
    unfold kR;rw[hts,lM,eG];simp[ht]
  ·subst e;have hho:=tG hb ((k:Nat):Int);have hhl:=Bp hb ((k:Nat):Int);refine Eg hr1 hr2 hhl (λx hx=>(hho x hx).1) hN<|λs hs=>?_
   obtain⟨sx,sy⟩:=hs.small hr2<|λx hx=>(hho x hx).1
   obtain⟨z1,z2,z3⟩:=ym (A:=5000) hs.can hs.lim (by rw[dK,m7,m7];omega) (by rw[dK,ko,ko];omega);have hmany:=Mr (N:=N) (s:=s) (by omega) (λb hb=>by have:=z2 b hb;omega) (by omega);refine IT (x:=(okk&&decide ((aU s).length<=2000),s)) ?_ ?_
   ·cases okk with
    |false=>rfl
    |true=>
     rw[aK,hmany,aB,Bool.true_and];rw[show decide ((((aU s).length:Nat):Int)<=2000)=decide ((aU s).length<=2000)from decide_eq_decide.2 (by omega)]
   dsimp only;refine Td (by rw[D.len];simp;omega) ?_;refine Sr (Ib (N:=N) hs.can hs.lim sx sy (by omega) (λb hb=>by have:=z2 b hb;omega) (by omega) hN) ?_;rintro ps⟨u,hu⟩;have hfew:=hu.xd;have hk16:k*25000000<=16*25000000:=Nat.mul_le_mul_right _ (by omega);have hDf:=D.xd;refine Sr (P:=λt=>t=cE 0 dS++ps.map (λp=>(⟨((k:Nat):Int),p,aU p⟩:aH))) (Ok.mono (Ts (λj t=>t=cE 0 dS++(ps.take j).map (λp=>(⟨((k:Nat):Int),p,aU p⟩:aH))) (by omega) (by simp)<|λj t hj e=>?_) (λt e=>by rw[e,eK]))<|λt e=>Sh ?_
   ·subst e;have hjx:ps[j]? =some ps[j]:=aO hj;refine Sy hjx ?_;obtain⟨_,_,_,_,oA,hpl⟩:=Dt hu hs.can hs.lim sx sy<|cL hj
    obtain⟨y1,y2,y3⟩:=ym (A:=5000) oA.can hpl (by rw[dK,m7,m7];omega) (by rw[dK,ko,ko];omega);refine IT (Dd (vA oA.can) (by omega) (λb hb=>by have:=y2 b hb;omega) (by omega))<|Td ?_<|Sh ?_
    ·simp only[dK,dA,cQ,List.length_singleton];omega
    ·rw[eI hj,eG,lL];rfl
   ·subst e;refine⟨dS++[ps],⟨by simp[D.len],by simp[D.Bq],λi r s' hi hr hs'=>?_,λi s' ps' hi hs' hps'=>?_,?_⟩,?_,?_⟩
    ·dsimp only at hs'
     by_cases hik:i<k
     ·rw[gX (by rw[D.len];exact hik)]at hs';exact D.dr i r s' hik hr hs'
     ·have:i=k:=by omega
      subst this;rw[ir (by rw[D.len];omega),D.len,Nat.sub_self]at hs';simp at hs';subst hs';rw[hkx]at hr;injection hr with hr;subst hr
      exact hs
    ·dsimp only at hs'
     by_cases hik:i<k
     ·rw[gX (by rw[D.len];exact hik)]at hs';rw[gX (by rw[D.Bq];exact hik)]at hps';exact D.pt i s' ps' hik hs' hps'
     ·have:i=k:=by omega
      subst this;rw[ir (by rw[D.len];omega),D.len,Nat.sub_self]at hs';rw[ir (by rw[D.Bq];omega),D.Bq,Nat.sub_self]at hps';simp at hs' hps';subst hs';subst hps';exact⟨u,hu⟩
    ·rw[wu,dK,dA];omega
    ·dsimp only;rw[wu,D.Bq,jm]
    ·dsimp only;rw[bX,e2,bJ];constructor
     ·rintro⟨h1,h2⟩s' hs'
      rcases cR.1 hs' with h|h
      ·exact h1 s' h
      ·simp at h;subst h;exact h2
     ·intro h;exact⟨λs' hs'=>h s'<|List.mem_append_left _ hs',h s (by simp)⟩
 ·rintro⟨kS,pcs,okk⟩⟨dS,D,e1,e2⟩;dsimp only at D e1 e2 ⊢;subst e1;refine Sr (P:=λb=>b=true↔(∀s∈kS,(aU s).length<=2000)/\(cE 0 dS).length<=2000) (SP (λh=>Sh ?_)<|λh=>Sh ?_)<|λb hb=>Sh ⟨dS,D,rfl,hb⟩
  ·rw[bJ];constructor
   ·intro h';exact⟨e2.1 h,by omega⟩
   ·rintro⟨_,h'⟩;omega
  ·constructor
   ·intro h';cases h'
   ·rintro⟨h',_⟩;rw[e2.2 h']at h;cases h
end
section
variable {N:Nat}
section
variable {α:Type}
def qe(P:α->Bool)(l:List α)(n:Nat):List Nat:=(List.range n).filter<|λk=>(l[k]?).any P
theorem zv{P:α->Bool}{l:List α}{n:Nat}{x:α}(h:l[n]? =some x):qe P l (n+1)=if P x=true then qe P l n++[n]else qe P l n:=by
 unfold qe;rw[List.range_succ,lM]
 by_cases hp:P x=true
 ·rw[aC hp];simp[h,hp]
 ·rw[aD hp];simp[h,hp]
theorem Bs(P:α->Bool)(l:List α)(n:Nat):(qe P l n).length<=n:=by
 have:=pA (λk=>(l[k]?).any P)<|List.range n
 rw[List.length_range]at this;exact this
theorem J5{P:α->Bool}{l:List α}{n k:Nat}:k∈qe P l n↔k<n/\(l[k]?).any P=true:=by unfold qe;simp
theorem AB{β:Type}{l:List α}(P:α->Bool)(g:Nat->β):qg l.length (λk=>(l[k]?).bind λx=>if P x=true then some (g k)else none)=(l.findIdx? P).map g:=by
 cases h:l.findIdx? P with
 |none=>
  rw[List.findIdx?_eq_none_iff]at h;refine kA.2 λk hk=>?_;rw[aO hk];have:=h _<|cL hk
  simp[this]
 |some j=>
  obtain⟨hj,hp,hn⟩:=List.findIdx?_eq_some_iff_getElem.1 h;refine jY.2 ⟨j,hj,by rw[aO hj];simp[hp],λi hi=>?_⟩;rw[aO (by omega)];have:=hn i hi;simp[this]
end
def ints(l:List Nat):List Int:=l.map λi=>((i:Nat):Int)
theorem rJ(l m:List Nat):ints (l++m)=ints l++ints m:=eG
theorem mA(l:List Nat):(ints l).length=l.length:=dA _
theorem rK{l:List Nat}{x:Int}:x∈ints l↔∃i∈l,x=((i:Nat):Int):=by
 unfold ints;rw[dH];constructor
 ·rintro⟨i,h1,h2⟩;exact⟨i,h1,h2.symm⟩
 ·rintro⟨i,h1,h2⟩;exact⟨i,h1,h2.symm⟩
def sN(p0 p1:aI):Bool:=(((decide (p0.X0<p1.X1)&&decide (p1.X0<p0.X1))&&((p0.Y1==p1.Y0)||(p1.Y1==p0.Y0)))||((decide (p0.Y0<p1.Y1)&&decide (p1.Y0<p0.Y1))&&((p0.X1==p1.X0)||(p1.X1==p0.X0))))
def iR(b:bT)(p:aH):Bool:=b.eP&&(kL b p.dJ&&p.iq.any (λr=>sN r<|xc b))
def cP(bs:List bT)(pcs:List aH):List (List Int):=bs.map λb=>ints<|qe (iR b) pcs pcs.length
theorem uj{l:List aI}{φ:aI->Option Bool}(p:aI->Bool)(hl:l.length<=4611686018427387904)(h:∀x∈l,φ x=some (p x)):iL N l φ=some (l.any p):=
 u9 p hl h
theorem Lg{bs:List bT}{pcs:List aH}(hb:k6 bs)(hp:pcs.length<=1073741824)(hr:∀p∈pcs,p.iq.length<=1073741824):lf N bs pcs []=some (cP bs pcs):=by
 refine Tm ?_;have hbl:=hb.len;unfold lf;refine Sr (Ts (λk st=>st=cP (bs.take k) pcs) (by omega) rfl<|λk st hk e=>?_)<|λst e=>Sh (by rw[e,eK])
 subst e;have hg:=hb.ok _<|cL hk
 refine Ti hk ?_;refine Sr (P:=λt=>t=ints (qe (iR bs[k]) pcs pcs.length)) (Ts (λj t=>t=ints (qe (iR bs[k]) pcs j)) (by omega) rfl<|λj t hj e=>?_)<|λt e=>?_
 ·subst e;have hjx:pcs[j]? =some pcs[j]:=aO hj;have hl:=Bs (iR bs[k]) pcs j;refine Sy hjx ?_;refine IT (x:=iR bs[k] pcs[j]) ?_ ?_
  ·unfold iR
   cases bs[k].eP with
   |false=>rfl
   |true=>
    rw[aK,Ds,aB,Bool.true_and]
    cases kL bs[k] pcs[j].dJ with
    |false=>rfl
    |true=>
     rw[aK,uj (λr=>sN r (xc bs[k])) (by have:=hr _ (cL hj);omega) (λr _=>by
      unfold lx;rw[ot hg.1];rfl),aB,Bool.true_and]
  ·rw[zv hjx]
   cases ht:iR bs[k] pcs[j]with
   |false=>rw[aM,aD (by simp)];exact IT rfl (Sh rfl)
   |true=>
    rw[aK,aC rfl];refine IT (x:=ints (qe (iR bs[k]) pcs j)++[((j:Nat):Int)]) (by rw[lS (by rw[mA];simp;omega),aB])<|Sh ?_
    rw[rJ];rfl
 ·subst e;refine Td ?_<|Sh ?_
  ·unfold cP;simp;omega
  ·unfold cP;rw[eI hk,eG];rfl
def BX(r:List aI)(p:j6):Bool:=r.any<|λx=>decide (p.X>=x.X0)&&(decide (p.X<x.X1)&&(decide (p.Y>=x.Y0)&&decide (p.Y<x.Y1)))
theorem AD{r:List aI}{p:j6}(hl:r.length<=4611686018427387904):lG N r p=some (BX r p):=by
 unfold lG
 rw[uj (λx=>decide (p.X>=x.X0)&&(decide (p.X<x.X1)&&(decide (p.Y>=x.Y0)&&decide (p.Y<x.Y1)))) hl (λx _=>by
  unfold mI
  cases decide (p.X>=x.X0) <;> cases decide (p.X<x.X1) <;> cases decide (p.Y>=x.Y0) <;> rfl)];rfl
def l7(l:cX)(b:bT):Bool:=b.eP&&(kL b l.dJ&&BX [xc b] l.At)
def lz(l:cX)(p:aH):Bool:=(p.dJ==l.dJ)&&BX p.iq l.At
def qj(bs:List bT)(pcs:List aH)(l:cX):Option dP:=match bs.findIdx? (l7 l)with
 |some k=>some ⟨true,((k:Nat):Int)⟩
 |none=>(pcs.findIdx? (lz l)).map λk=>⟨false,((k:Nat):Int)⟩
theorem Lh{bs:List bT}{pcs:List aH}(hb:k6 bs)(hp:pcs.length<=1073741824)(hr:∀p∈pcs,p.iq.length<=1073741824)(l:cX):
  lj N bs pcs l=some ((qj bs pcs l).getD ⟨false,0⟩,(qj bs pcs l).isSome):=by
 have hbl:=hb.len;unfold lj
 rw[ru (λk=>(bs[k]?).bind λx=>if l7 l x=true then some ((⟨true,((k:Nat):Int)⟩:dP),true)else none) (by omega) (λk hk _=>by
  have hkx:bs[k]? =some bs[k]:=aO hk;have hg:=hb.ok _<|cL hk
  rw[cI hkx,aB,hkx,ot hg.1,aB,aB,AD (by simp)];unfold l7
  cases bs[k].eP with
  |false=>rfl
  |true=>
   show(((bif kL bs[k] l.dJ then _ else _:Option Bool)).bind _)=_
   cases kL bs[k] l.dJ with
   |false=>rfl
   |true=>
    cases BX [xc bs[k]] l.At <;> rfl),aB,AB (l7 l) (λk=>((⟨true,((k:Nat):Int)⟩:dP),true))]
 unfold qj
 cases bs.findIdx? (l7 l)with
 |some k=>rfl
 |none=>
  show((uu pcs.length _ ()).bind _)=_
  rw[ru (λk=>(pcs[k]?).bind λx=>if lz l x=true then some ((⟨false,((k:Nat):Int)⟩:dP),true)else none) (by omega) (λk hk _=>by
   have hkx:pcs[k]? =some pcs[k]:=aO hk;rw[cI hkx,aB,hkx,aB,AD (by have:=hr _<|cL hk;omega)];unfold lz
   cases pcs[k].dJ==l.dJ with
   |false=>rfl
   |true=>cases BX pcs[k].iq l.At <;> rfl),aB,AB (lz l) (λk=>((⟨false,((k:Nat):Int)⟩:dP),true))]
  cases pcs.findIdx? (lz l) <;> rfl
def Lk(n:Nat)(tch:List (List Int))(i j:Nat):Prop:=∃(k:Nat)(l:List Int),tch[k]? =some l/\((i:Nat):Int)∈l/\j=n+k
structure Ci (n m:Nat) (tch:List (List Int)) (r:Nat->Nat):Prop where
 le:∀i,i<n+m->r i<=i
 rr:∀i,i<n+m->r (r i)=r i
 co:∀i j,Lk n tch i j->r i=r j
 fi:∀S:Nat->Prop,(∀i j,Lk n tch i j->(S i↔S j))->∀i j,i<n+m->j<n+m->r i=r j->S i->S j
theorem ET{n m:Nat}{tch:List (List Int)}(hm:tch.length=m)(ht:∀l∈tch,l.length<=1073741824/\∀x∈l,∃i:Nat,i<n/\x=((i:Nat):Int))(hn:n<=1073741824)(hm2:m<=1073741824){up:List Int}(hu:UF (n+m) up (λi=>i))(hN:4398046511104<=N):
  Ok (mU tch.length (λ(k34:Nat)(s35:List Int)=>((idx tch (k34:Int)).bind λx89=>(mU x89.length (λ(k92:Nat)(s93:List Int)=>((idx x89 (k92:Int)).bind λx107=>(eV N s93 x107<|wrap .i64<|(n:Int)+(k34:Int)).bind λx109=>some x109:Option (List Int))) s35).bind λs93=>some s93:Option (List Int))) up)
   (λup'=>∃r,UF (n+m) up' r/\Ci n m tch r):=by
 have base:Ok (mU tch.length (λ(k34:Nat)(s35:List Int)=>((idx tch (k34:Int)).bind λx89=>(mU x89.length (λ(k92:Nat)(s93:List Int)=>((idx x89 (k92:Int)).bind λx107=>(eV N s93 x107<|wrap .i64<|(n:Int)+(k34:Int)).bind λx109=>some x109:Option (List Int))) s35).bind λs93=>some s93:Option (List Int))) up)
   (λup'=>∃r E,UF (n+m) up' r/\nE r E/\w6 (n+m) r E/\(∀p∈E,Lk n tch p.1 p.2)/\∀(k:Nat)l(i:Nat),k<tch.length->tch[k]? =some l->((i:Nat):Int)∈l->(i,n+k)∈E):=by
  refine Ts (λq up'=>∃r E,UF (n+m) up' r/\nE r E/\w6 (n+m) r E/\(∀p∈E,Lk n tch p.1 p.2)/\∀(k:Nat)l(i:Nat),k<q->tch[k]? =some l->((i:Nat):Int)∈l->(i,n+k)∈E) (by omega)
   ⟨_,_,hu,nE.id,w6.id _,λp hp=>(by cases hp),λk l i hk=>by omega⟩ (λq up' hq hI=>?_)
  obtain⟨r,E,h1,h2,h3,h4,h5⟩:=hI;have hqx:tch[q]? =some tch[q]:=aO hq;obtain⟨hl1,hl2⟩:=ht _<|cL hq
  refine Sy hqx ?_;rw[wrap_add (by omega)]
  refine Sr (Ts (λt up'=>∃r E,UF (n+m) up' r/\nE r E/\w6 (n+m) r E/\(∀p∈E,Lk n tch p.1 p.2)/\(∀(k:Nat)l(i:Nat),k<q->tch[k]? =some l->((i:Nat):Int)∈l->(i,n+k)∈E)/\∀i:Nat,((i:Nat):Int)∈tch[q].take t->(i,n+q)∈E) (by omega)
   ⟨r,E,h1,h2,h3,h4,h5,λi hi=>by simp at hi⟩ (λt up' htl hI=>?_)) (λup' hI=>Sh ?_)
  ·obtain⟨r,E,h1,h2,h3,h4,h5,h6⟩:=hI;refine Ti htl ?_;obtain⟨i,hi,e⟩:=hl2 _<|cL htl
   rw[e];obtain⟨u2,a1,a2⟩:=I9 (N:=N) h1 (i:=i) (k:=n+q) (by omega) (by omega) (by omega);refine IT a1<|Sh ⟨_,_,a2,h2.join i (n+q)<|h1.rr i (by omega),h3.join (by omega) (by omega),λp hp=>?_,λk l j hk hl hj=>List.mem_append_left _<|h5 k l j hk hl hj,λj hj=>?_⟩
   ·rcases cR.1 hp with hp|hp
    ·exact h4 p hp
    ·simp at hp;subst hp;exact⟨q,tch[q],hqx,by rw[<-e];exact cL htl,rfl⟩
   ·rw[eI htl,cR]at hj
    rcases hj with hj|hj
    ·exact List.mem_append_left _<|h6 j hj
    ·rw[kp,e]at hj;have:j=i:=by omega
     subst this;simp
  ·obtain⟨r,E,h1,h2,h3,h4,h5,h6⟩:=hI;refine⟨r,E,h1,h2,h3,h4,λk l i hk hl hi=>?_⟩
   by_cases hkq:k<q
   ·exact h5 k l i hkq hl hi
   ·have:k=q:=by omega
    subst this;rw[hqx]at hl;injection hl with hl;subst hl
    exact h6 i (by rw[eK];exact hi)
 obtain⟨up',e,r,E,h1,h2,h3,h4,h5⟩:=base;have hE:∀i j,Lk n tch i j->(i,j)∈E:=λi j⟨k,l,hl,hi,hj⟩=>by
  rw[hj];exact h5 k l i (bD.1 hl).1 hl hi
 exact⟨up',e,r,h1,h1.le,h1.rr,λi j h=>h2 (i,j)<|hE i j h,λS hS i j hi hj=>h3 S (λp hp=>hS p.1 p.2<|h4 p hp) i j hi hj⟩
def tH(bs:List bT)(j:Nat):Bool:=(bs[j]?).any<|λb=>b.eP
def gP(n:Nat)(c:List Nat):List Nat:=c.filter<|λi=>decide<|i<n
def gB(bs:List bT)(n:Nat)(c:List Nat):List Nat:=(c.filter<|λi=> !decide (i<n)&&tH bs (i - n)).map<|λi=>i - n
def Hd(bs:List bT)(n:Nat)(c:List Nat):Bool:=decide<|0<(gP n c).length+(gB bs n c).length
def Nm(bs:List bT)(n:Nat)(c:List Nat):cK:=⟨ints<|gP n c,ints<|gB bs n c,[]⟩
theorem Jd(n:Nat)(c:List Nat)(i:Nat):gP n (c++[i])=if i<n then gP n c++[i]else gP n c:=by
 unfold gP;rw[lM];split <;> rename_i h <;> simp[h]
theorem Je(bs:List bT)(n:Nat)(c:List Nat)(i:Nat):gB bs n (c++[i])=if i<n then gB bs n c else if tH bs (i - n)=true then gB bs n c++[i - n]else gB bs n c:=by
 unfold gB;rw[lM,eG];split
 ·rename_i h;simp[h]
 ·rename_i h;split <;> rename_i h2 <;> simp[h,h2]
theorem Ih(n:Nat)(c:List Nat):(gP n c).length<=c.length:=pA _ _
theorem Ii(bs:List bT)(n:Nat)(c:List Nat):(gB bs n c).length<=c.length:=by unfold gB;rw[dA];exact pA _ _
def live(bs:List bT)(n t:Nat)(r:Nat->Nat)(hs:List Nat):List Nat:=hs.filter<|λh=>Hd bs n<|cls t r h
def mB(bs:List bT)(n t:Nat)(r:Nat->Nat)(hs:List Nat):List cK:=(live bs n t r hs).map<|λh=>Nm bs n<|cls t r h
theorem EU(bs:List bT)(n t:Nat)(r:Nat->Nat)(hs:List Nat)(h:Nat):live bs n t r (hs++[h])=if Hd bs n (cls t r h)=true then live bs n t r hs++[h]else live bs n t r hs:=by
 unfold live;rw[lM];split <;> rename_i h2 <;> simp[h2]
theorem vB(bs:List bT)(n t:Nat)(r:Nat->Nat)(hs:List Nat):(mB bs n t r hs).length=(live bs n t r hs).length:=by unfold mB;rw[dA]
def gi(bs:List bT)(n t:Nat)(r:Nat->Nat)(h:Nat):Nat:=(live bs n t r<|(bU t r).takeWhile<|λx=>decide<|x≠h).length
theorem yQ{l:List Nat}(hn:l.Nodup){k h:Nat}(hk:l[k]? =some h):l.takeWhile (λx=>decide<|x≠h)=l.take k:=by
 induction l generalizing k with
 |nil=>simp at hk
 |cons a l ih=>
  cases k with
  |zero=>simp at hk;subst hk;simp
  |succ k=>
   have hk:l[k]? =some h:=by simpa using hk
   have hne:a≠h:=λe=>(List.nodup_cons.1 hn).1 (by rw[e];exact fQ hk);rw[List.takeWhile_cons,aC (by simpa using hne),List.take_succ_cons,ih (List.nodup_cons.1 hn).2 hk]
theorem sO(bs:List bT)(n t:Nat)(r:Nat->Nat)(hs:List Nat):(live bs n t r hs).length<=hs.length:=pA _ _
theorem Jf{bs:List bT}{n t:Nat}{r:Nat->Nat}{h:Nat}(hh:h∈bU t r)(hne:Hd bs n (cls t r h)=true):gi bs n t r h<(live bs n t r<|bU t r).length/\(live bs n t r<|bU t r)[gi bs n t r h]? =some h:=by
 obtain⟨k,hk⟩:=dZ hh;have hkl:=(bD.1 hk).1;unfold gi;rw[yQ (oq t r) hk];have e:bU t r=(bU t r).take k++h::(bU t r).drop (k+1):=by
  have h1:=(List.take_append_drop k<|bU t r).symm;rw[vN hkl,(bD.1 hk).2]at h1;exact h1
 have e2:live bs n t r (bU t r)=live bs n t r ((bU t r).take k)++h::live bs n t r ((bU t r).drop<|k+1):=by
  conv=>lhs;rw[e]
  unfold live;rw[lM,List.filter_cons,aC hne]
 constructor
 ·rw[e2];simp
 ·rw[e2];simp
end
section
variable {N:Nat}
theorem Bt{l:List Nat}(h:l.Nodup){i j a:Nat}(hi:l[i]? =some a)(hj:l[j]? =some a):i=j:=
 (List.getElem_inj (h₀:=(bD.1 hi).1) (h₁:=(bD.1 hj).1) h).1 (by rw[(bD.1 hi).2,(bD.1 hj).2])
theorem rh{n i k:Nat}{r:Nat->Nat}:i∈cls n r k↔i<n/\r i=k:=by unfold cls;simp
theorem J6(n:Nat)(r:Nat->Nat)(k:Nat):(cls n r k).Nodup:=List.Nodup.sublist List.filter_sublist List.nodup_range
structure P7 (bs:List bT) (n m:Nat) (r:Nat->Nat) (hs:List Nat) (ofP ofB:List Int):Prop where
 lp:ofP.length=n
 lb:ofB.length=m
 pc:∀i,i<n->r i∈hs->ofP[i]? =some ((gi bs n (n+m) r (r i):Nat):Int)
 bo:∀j,j<m->r (n+j)∈hs->ofB[j]? =some (if tH bs j=true then((gi bs n (n+m) r (r<|n+j):Nat):Int)else -1)
theorem He{bs:List bT}{n m:Nat}{r:Nat->Nat}(hm:bs.length=m)(hn:n<=1073741824)(hm2:m<=1073741824){op ob:List Int}(hop:op.length=n)(hob:ob.length=m)
  {body:Nat->List cK×List Int×List Int->Option (List cK×List Int×List Int)}
  (hbody:body=(λ(k123:Nat)(s124:List cK×List Int×List Int)=>((idx (tE (n+m) r) (k123:Int)).bind λx455=>(mU x455.length (λ(k458:Nat)(s459:List Int×List Int×List Int×List Int)=>((idx x455 (k458:Int)).bind λx556=>(bif decide (x556<(n:Int))then((idx s459.1 x556).bind λx580=>(app 8 s459.2.2.1 ([x556]:List Int)).bind λx582=>some (s459.1.set (Int.toNat x556) (s124.1.length:Int),s459.2.1,x582,s459.2.2.2))else((idx bs<|wrap .i64<|x556 -(n:Int)).bind λx584=>(bif x584.eP then((idx s459.2.1<|wrap .i64<|x556 -(n:Int)).bind λx594=>(app 8 s459.2.2.2 ([wrap .i64<|x556 -(n:Int)]:List Int)).bind λx596=>some (s459.2.1.set (Int.toNat<|wrap .i64<|x556 -(n:Int)) (s124.1.length:Int),x596))else((idx s459.2.1<|wrap .i64<|x556 -(n:Int)).bind λx598=>some (s459.2.1.set (Int.toNat<|wrap .i64<|x556 -(n:Int))<|-1,s459.2.2.2))).bind λs592=>some (s459.1,s592.1,s459.2.2.1,s592.2))).bind λs577=>some (s577.1,s577.2.1,s577.2.2.1,s577.2.2.2):Option (List Int×List Int×List Int×List Int))) (s124.2.1,s124.2.2,([]:List Int),([]:List Int))).bind λs459=>(bif decide (wrap .i64 ((s459.2.2.1.length:Int)+(s459.2.2.2.length:Int))>0)then((app 72 s124.1 [(⟨s459.2.2.1,s459.2.2.2,([]:List dO)⟩:cK)]).bind λx610=>some x610)else some s124.1).bind λs606=>some (s606,s459.1,s459.2.1):Option (List cK×List Int×List Int)))):
  Ok (mU (tE (n+m) r).length body ([],op,ob)) (λst=>st.1=mB bs n (n+m) r (bU (n+m) r)/\P7 bs n m r (bU (n+m) r) st.2.1 st.2.2):=by
 subst hbody;have hsl:(tE (n+m) r).length=(bU (n+m) r).length:=by unfold tE;simp
 have hhl:=mx (n+m) r;refine Ok.mono (Ts (λ(k:Nat)(st:List cK×List Int×List Int)=>st.1=mB bs n (n+m) r ((bU (n+m) r).take k)/\P7 bs n m r ((bU (n+m) r).take k) st.2.1 st.2.2) (by omega) ⟨rfl,hop,hob,λi hi h=>by simp at h,λj hj h=>by simp at h⟩<|λk st hk hI=>?_) (λst h=>by rw[hsl,eK]at h;exact h);obtain⟨gs,ofP,ofB⟩:=st;obtain⟨e1,I⟩:=hI;dsimp only at e1 I ⊢;subst e1;rw[hsl]at hk;have hkx:(bU (n+m) r)[k]? =some (bU (n+m) r)[k]:=aO hk;have hts:(bU (n+m) r).take (k+1)=(bU (n+m) r).take k++[(bU (n+m) r)[k]]:=eI hk;have hgk:gi bs n (n+m) r (bU (n+m) r)[k]=(mB bs n (n+m) r<|(bU (n+m) r).take k).length:=by
  unfold gi;rw[yQ (oq _ _) hkx,vB]
 generalize hh:(bU (n+m) r)[k]=h at *;have hsx:(tE (n+m) r)[k]? =some (ints<|cls (n+m) r h):=by unfold tE;rw[fL,hkx];rfl
 refine Sy hsx ?_;have hcl:=Cw (n+m) r h;rw[mA];have hgl:(mB bs n (n+m) r<|(bU (n+m) r).take k).length<=n+m:=by
  rw[vB];have:=sO bs n (n+m) r<|(bU (n+m) r).take k
  rw[cQ]at this;omega
 have hold:∀i∈cls (n+m) r h,∀i',r i'∈(bU (n+m) r).take k->i≠i':=λi hi i' hi' e=>by
  subst e;rw[(rh.1 hi).2]at hi';obtain⟨j,hj⟩:=dZ hi';have hjk:j<k:=by have:=(bD.1 hj).1;rw[cQ]at this;omega
  rw[List.getElem?_take_of_lt hjk]at hj;have:=Bt (oq (n+m) r) hj hkx;omega
 refine Sr (P:=λs'=>P7 bs n m r ((bU (n+m) r).take (k+1)) s'.1 s'.2.1/\s'.2.2.1=ints (gP n (cls (n+m) r h))/\s'.2.2.2=ints (gB bs n (cls (n+m) r h))) (Ok.mono (Ts
  (λ(t:Nat)(s':List Int×List Int×List Int×List Int)=>P7 bs n m r ((bU (n+m) r).take k) s'.1 s'.2.1/\s'.2.2.1=ints (gP n ((cls (n+m) r h).take t))/\s'.2.2.2=ints (gB bs n ((cls (n+m) r h).take t))/\
   (∀i∈(cls (n+m) r h).take t,i<n->s'.1[i]? =some ((gi bs n (n+m) r h:Nat):Int))/\∀i∈(cls (n+m) r h).take t,¬i<n->s'.2.1[i - n]? =some (if tH bs (i - n)=true then((gi bs n (n+m) r h:Nat):Int)else -1)) (by omega)
   ⟨I,rfl,rfl,λi hi=>by simp at hi,λi hi=>by simp at hi⟩ (λt s' ht hI'=>?_)) ?_) ?_
 ·obtain⟨oP,oB,pp,bb⟩:=s';obtain⟨J,e2,e3,J1,J2⟩:=hI';dsimp only at J e2 e3 J1 J2 ⊢;subst e2;subst e3;have htx:(ints<|cls (n+m) r h)[t]? =some (((cls (n+m) r h)[t]:Nat):Int):=by unfold ints;rw[fL,aO ht];rfl
  refine Sy htx ?_;have htt:(cls (n+m) r h).take (t+1)=(cls (n+m) r h).take t++[(cls (n+m) r h)[t]]:=eI ht;have hcm:=cL ht;have hdist:∀i∈(cls (n+m) r h).take t,i≠(cls (n+m) r h)[t]:=λi hi e=>by
   obtain⟨j,hj⟩:=dZ hi;have hjt:j<t:=by have:=(bD.1 hj).1;rw[cQ]at this;omega
   rw[List.getElem?_take_of_lt hjt]at hj;have:=Bt (J6 (n+m) r h) hj (by rw[e];exact aO ht);omega
  generalize (cls (n+m) r h)[t]=c at *;obtain⟨hc1,hc2⟩:=rh.1 hcm;have hgp:=Ih n<|(cls (n+m) r h).take t
  have hgb:=Ii bs n<|(cls (n+m) r h).take t
  rw[cQ]at hgp hgb
  by_cases hcn:c<n
  ·rw[bL (by omega:((c:Nat):Int)<((n:Nat):Int)),aK];refine Sr (P:=λx=>x=(oP.set c ((gi bs n (n+m) r h:Nat):Int),oB,ints (gP n<|(cls (n+m) r h).take t)++[((c:Nat):Int)],ints<|gB bs n<|(cls (n+m) r h).take t)) ?_ ?_
   ·refine Ti (by rw[J.lp];exact hcn)<|Td (by rw[mA];simp;omega)<|Sh ?_
    rw[cA,hgk]
   ·rintro _ rfl;refine Sh ⟨⟨by simp[J.lp],J.lb,λi hi hr=>?_,J.bo⟩,?_,?_,λi hi hin=>?_,λi hi hin=>?_⟩
    ·dsimp only;rw[pG (by rw[J.lp];exact hcn),aD<|λe=>hold c hcm i hr e.symm];exact J.pc i hi hr
    ·dsimp only;rw[htt,Jd,aC hcn,rJ];rfl
    ·dsimp only;rw[htt,Je,aC hcn]
    ·dsimp only;rw[pG (by rw[J.lp];exact hcn)];split
     ·rfl
     ·rename_i hne;rw[htt]at hi
      rcases cR.1 hi with hi|hi
      ·exact J1 i hi hin
      ·exact absurd (by simpa using hi) hne
    ·rw[htt]at hi
     rcases cR.1 hi with hi|hi
     ·exact J2 i hi hin
     ·have:i=c:=by simpa using hi
      subst this;exact absurd hcn hin
  ·rw[bG (by omega:¬((c:Nat):Int)<((n:Nat):Int)),aM];have hw:wrap .i64 (((c:Nat):Int) -((n:Nat):Int))=((c - n:Nat):Int):=by rw[fw (by omega) (by omega)];omega
   have hcm2:c - n<bs.length:=by omega
   have hpl:tH bs (c - n)=bs[c - n].eP:=by unfold tH;rw[aO hcm2];rfl
   rw[hw];refine Sr (P:=λx=>x=(oP,oB.set (c - n) (if tH bs (c - n)=true then((gi bs n (n+m) r h:Nat):Int)else -1),ints<|gP n<|(cls (n+m) r h).take t,ints<|gB bs n<|(cls (n+m) r h).take t++[c])) ?_ ?_
   ·refine Ti hcm2 ?_;rw[Je,aD hcn,hpl]
    cases hp:bs[c - n].eP with
    |true=>
     rw[aK,aC rfl,aC rfl];refine IT (x:=(oB.set (c - n) ((gi bs n (n+m) r h:Nat):Int),ints<|gB bs n ((cls (n+m) r h).take t)++[c - n])) ?_<|Sh rfl
     rw[mb _ _ (by rw[J.lb];omega),aB,lS (by rw[mA];simp;omega),aB,cA,hgk,rJ];rfl
    |false=>
     rw[aM,aD (by simp),aD (by simp)];refine IT (x:=(oB.set (c - n)<|-1,ints<|gB bs n<|(cls (n+m) r h).take t)) ?_<|Sh rfl
     rw[mb _ _ (by rw[J.lb];omega),aB,cA]
   ·rintro _ rfl;refine Sh ⟨⟨J.lp,by simp[J.lb],J.pc,λj hj hr=>?_⟩,?_,?_,λi hi hin=>?_,λi hi hin=>?_⟩
    ·dsimp only;rw[pG (by rw[J.lb];omega),aD<|λe=>hold c hcm (n+j) hr (by omega)];exact J.bo j hj hr
    ·dsimp only;rw[htt,Jd,aD hcn]
    ·dsimp only;rw[htt]
    ·rw[htt]at hi
     rcases cR.1 hi with hi|hi
     ·exact J1 i hi hin
     ·have:i=c:=by simpa using hi
      subst this;exact absurd hin hcn
    ·dsimp only;rw[pG (by rw[J.lb];omega)];split
     ·rename_i e;rw[e]
     ·rename_i hne;rw[htt]at hi
      rcases cR.1 hi with hi|hi
      ·exact J2 i hi hin
      ·exact absurd (by have:i=c:=(by simpa using hi);rw[this]) hne
 ·rintro⟨oP,oB,pp,bb⟩⟨J,e2,e3,J1,J2⟩;dsimp only at J e2 e3 J1 J2 ⊢;rw[eK]at e2 e3 J1 J2;refine⟨⟨J.lp,J.lb,λi hi hr=>?_,λj hj hr=>?_⟩,e2,e3⟩
  ·rw[hts]at hr
   rcases cR.1 hr with hr|hr
   ·exact J.pc i hi hr
   ·have hr:r i=h:=by simpa using hr
    rw[hr];exact J1 i (rh.2 ⟨by omega,hr⟩) hi
  ·rw[hts]at hr
   rcases cR.1 hr with hr|hr
   ·exact J.bo j hj hr
   ·have hr:r (n+j)=h:=by simpa using hr
    rw[hr];have:=J2 (n+j) (rh.2 ⟨by omega,hr⟩) (by omega);rwa[Nat.add_sub_cancel_left]at this
 ·rintro⟨oP,oB,pp,bb⟩⟨J,e2,e3⟩;dsimp only at J e2 e3 ⊢;subst e2;subst e3;have hgp:=Ih n<|cls (n+m) r h
  have hgb:=Ii bs n<|cls (n+m) r h
  rw[mA,mA,wrap_add (by omega)];have hgs:mB bs n (n+m) r ((bU (n+m) r).take<|k+1)=if Hd bs n (cls (n+m) r h)=true then mB bs n (n+m) r ((bU (n+m) r).take k)++[Nm bs n<|cls (n+m) r h]else mB bs n (n+m) r ((bU (n+m) r).take k):=by
   unfold mB;rw[hts,EU];split
   ·rw[eG];rfl
   ·rfl
  refine Sr (P:=λx=>x=mB bs n (n+m) r ((bU (n+m) r).take<|k+1)) (SP (λhb=>?_)<|λhb=>Sh ?_)<|λx e=>Sh ⟨e,J⟩
  ·have hne:Hd bs n (cls (n+m) r h)=true:=bL (by have:=of_decide_eq_true hb;omega);refine Td (by simp;omega)<|Sh ?_
   rw[hgs,aC hne];rfl
  ·have hne:¬Hd bs n (cls (n+m) r h)=true:=λh'=>by
    have h1:=of_decide_eq_true h';have h2:=of_decide_eq_false hb;omega
   rw[hgs,aD hne]
end
section
variable {N:Nat}
def eF(n:Nat)(h:dP):Nat:=if h.bT=true then n+h.Number.toNat else h.Number.toNat
structure EV (bs:List bT) (n m:Nat) (h:dP):Prop where
 num:∃k:Nat,h.Number=((k:Nat):Int)/\(h.bT=true->k<m/\tH bs k=true)/\(h.bT=false->k<n)
theorem Bu{bs:List bT}{pcs:List aH}{l:cX}{h:dP}(hh:qj bs pcs l=some h):EV bs pcs.length bs.length h:=by
 unfold qj at hh
 cases hf:bs.findIdx? (l7 l)with
 |some k=>
  rw[hf]at hh;injection hh with hh;subst hh
  obtain⟨hk,hp,_⟩:=List.findIdx?_eq_some_iff_getElem.1 hf;refine⟨k,rfl,λ_=>⟨hk,?_⟩,λh=>by cases h⟩;unfold l7 at hp;unfold tH;rw[aO hk];rw[bX]at hp;exact hp.1
 |none=>
  rw[hf]at hh;dsimp only at hh;rw[tX]at hh;obtain⟨k,hk,rfl⟩:=hh;obtain⟨hk,_⟩:=List.findIdx?_eq_some_iff_getElem.1 hk;exact⟨k,rfl,λh=>(by cases h),λ_=>hk⟩
def uM(bs:List bT)(pcs:List aH)(r:Nat->Nat)(l:cX):Option Nat:=(qj bs pcs l).map λh=>gi bs pcs.length (pcs.length+bs.length) r<|r<|eF pcs.length h
def Eh(bs:List bT)(pcs:List aH)(r:Nat->Nat)(l:cX):Int:=match uM bs pcs r l with|some g=>((g:Nat):Int)|none=> -1
def gR(gs:List cK)(lg:cX->Option Nat)(ls:List cX):List cK:=gs.mapIdx<|λg x=>{x with gS:=(ls.filter<|λl=>decide<|lg l=some g).map kK}
theorem kc{gs:List cK}{lg:cX->Option Nat}{ls:List cX}{g:Nat}:(gR gs lg ls)[g]? =(gs[g]?).map λx=>{x with gS:=(ls.filter<|λl=>decide<|lg l=some g).map kK}:=by
 unfold gR;rw[List.getElem?_mapIdx]
theorem AE(gs:List cK)(lg:cX->Option Nat)(ls:List cX):(gR gs lg ls).length=gs.length:=by unfold gR;rw[List.length_mapIdx]
theorem yR{gs:List cK}{lg:cX->Option Nat}{ls:List cX}{l:cX}(h:lg l=none):gR gs lg (ls++[l])=gR gs lg ls:=by
 apply List.ext_getElem?;intro g;rw[kc,kc];congr 2;funext x;rw[lM];simp[h]
theorem AF{gs:List cK}{lg:cX->Option Nat}{ls:List cX}{l:cX}{k:Nat}{x:cK}(h:lg l=some k)(hx:(gR gs lg ls)[k]? =some x):
  (gR gs lg ls).set k {x with gS:=x.gS++[kK l]}=gR gs lg (ls++[l]):=by
 apply List.ext_getElem?;intro g;have hk:=(bD.1 hx).1;rw[fY]
 by_cases e:k=g
 ·subst e;rw[aC rfl,aC hk,kc];rw[kc,tX]at hx;obtain⟨y,hy,rfl⟩:=hx;rw[hy,lM];simp[h]
 ·rw[aD e,kc,kc];congr 2;funext x;rw[lM];have:¬(lg l=some g):=by rw[h];intro h';injection h' with h';exact e h'
  simp[this]
theorem Jg{bs:List bT}{n t:Nat}{r:Nat->Nat}{i:Nat}(hi:i<n)(ht:i<t):Hd bs n (cls t r<|r i)=true:=by
 unfold Hd;rw[bJ];have:i∈gP n (cls t r<|r i):=j7.2 ⟨rh.2 ⟨ht,rfl⟩,by simpa using hi⟩;have:=List.length_pos_of_mem this;omega
theorem Jh{bs:List bT}{n t:Nat}{r:Nat->Nat}{j:Nat}(hp:tH bs j=true)(ht:n+j<t):Hd bs n (cls t r<|r<|n+j)=true:=by
 unfold Hd;rw[bJ];have:j∈gB bs n (cls t r<|r<|n+j):=dH.2 ⟨n+j,j7.2 ⟨rh.2 ⟨ht,rfl⟩,by simp[hp]⟩,by omega⟩;have:=List.length_pos_of_mem this;omega
structure Ij (bs:List bT) (ls:List cX) (pcs:List aH) (r:Nat->Nat) (gs:List cK) (ofP ofB l9:List Int) (lZ:List dP):Prop where
 conn:Ci pcs.length bs.length (cP bs pcs) r
 gs:gs=gR (mB bs pcs.length (pcs.length+bs.length) r<|bU (pcs.length+bs.length) r) (uM bs pcs r) ls
 of:P7 bs pcs.length bs.length r (bU (pcs.length+bs.length) r) ofP ofB
 l9:l9=ls.map (Eh bs pcs r)
 lZ:lZ=ls.map (λl=>(qj bs pcs l).getD ⟨false,0⟩)
theorem xQ{bs:List bT}{pcs:List aH}(hp:pcs.length<=1073741824):∀l∈cP bs pcs,l.length<=1073741824/\∀x∈l,∃i:Nat,i<pcs.length/\x=((i:Nat):Int):=by
 intro l hl;unfold cP at hl;obtain⟨b,_,rfl⟩:=dH.1 hl;have:=Bs (iR b) pcs pcs.length;refine⟨by rw[mA];omega,λx hx=>?_⟩;obtain⟨i,hi,rfl⟩:=rK.1 hx;exact⟨i,(J5.1 hi).1,rfl⟩
theorem FJ{bs:List bT}{ls:List cX}{pcs:List aH}(hb:k6 bs)(hp:pcs.length<=1000000000)(hr:∀p∈pcs,p.iq.length<=1073741824)(hl:ls.length<=1073741824)(hN:4398046511104<=N):
  Ok (gZ N bs ls pcs (cP bs pcs) [] [] [] []) (λx=>∃r,Ij bs ls pcs r x.1 x.2.1 x.2.2.1 x.2.2.2.1 x.2.2.2.2):=by
 have hbl:=hb.len;unfold gZ;rw[wrap_add (by omega)];obtain⟨up0,u1,u2⟩:=xK (N:=N) (n:=pcs.length+bs.length) (by omega);refine IT u1 ?_;refine Sr (ET (n:=pcs.length) (m:=bs.length) (by unfold cP;simp) (xQ (by omega)) (by omega) (by omega) u2 hN) ?_;rintro up1⟨r,v1,v2⟩;refine IT (pE 0 (by omega))<|IT (pE 0 (by omega)) ?_
 obtain⟨up2,w1,_⟩:=Ms (N:=N) v1 (by omega) (by omega);refine IT w1 ?_;refine Sr (He (bs:=bs) (n:=pcs.length) (m:=bs.length) (r:=r) rfl (by omega) (by omega) (op:=List.replicate pcs.length 0) (ob:=List.replicate bs.length 0) (by simp) (by simp) rfl) ?_;rintro⟨gs,ofP,ofB⟩⟨e1,I⟩;dsimp only at e1 I ⊢;subst e1;have hgl:(mB bs pcs.length (pcs.length+bs.length) r<|bU (pcs.length+bs.length) r).length<=pcs.length+bs.length:=by
  rw[vB];have:=sO bs pcs.length (pcs.length+bs.length) r<|bU (pcs.length+bs.length) r
  have:=mx (pcs.length+bs.length) r;omega
 refine Sr (Ts (λ(k:Nat)(st:List cK×List Int×List Int×List Int×List dP)=>st=(gR (mB bs pcs.length (pcs.length+bs.length) r<|bU (pcs.length+bs.length) r) (uM bs pcs r)<|ls.take k,ofP,ofB,(ls.take k).map<|Eh bs pcs r,(ls.take k).map<|λl=>(qj bs pcs l).getD ⟨false,0⟩)) (by omega) ?_<|λk st hk e=>?_) ?_
 ·congr 1;unfold gR;apply List.ext_getElem?;intro g;rw[List.getElem?_mapIdx];unfold mB;rw[fL]
  cases(live bs pcs.length (pcs.length+bs.length) r<|bU (pcs.length+bs.length) r)[g]? <;> rfl
 ·subst e;dsimp only;have hts:ls.take (k+1)=ls.take k++[ls[k]]:=eI hk;refine Ti hk<|IT (Lh hb (by omega) hr _) ?_
  dsimp only;refine Sr (P:=λx=>x=(gR (mB bs pcs.length (pcs.length+bs.length) r<|bU (pcs.length+bs.length) r) (uM bs pcs r)<|ls.take k++[ls[k]],Eh bs pcs r ls[k])) ?_ ?_
  ·cases hh:qj bs pcs ls[k]with
   |none=>
    refine Sh ?_;have h1:uM bs pcs r ls[k]=none:=by unfold uM;rw[hh];rfl
    rw[yR h1];unfold Eh;rw[h1]
   |some h=>
    have h1:uM bs pcs r ls[k]=some (gi bs pcs.length (pcs.length+bs.length) r<|r<|eF pcs.length h):=by unfold uM;rw[hh];rfl
    have h2:Eh bs pcs r ls[k]=((gi bs pcs.length (pcs.length+bs.length) r (r<|eF pcs.length h):Nat):Int):=by unfold Eh;rw[h1]
    obtain⟨q,q1,q2,q3⟩:=(Bu hh).num;have hix:eF pcs.length h<pcs.length+bs.length/\Hd bs pcs.length (cls (pcs.length+bs.length) r<|r<|eF pcs.length h)=true/\i6 N ofP ofB h=some ((gi bs pcs.length (pcs.length+bs.length) r (r<|eF pcs.length h):Nat):Int):=by
     unfold i6 eF;rw[q1,cA]
     cases hbo:h.bT with
     |true=>
      obtain⟨q4,q5⟩:=q2 hbo;rw[aK,aC rfl];refine⟨by omega,Jh q5 (by omega),?_⟩;have:=I.bo q q4<|j5.2 ⟨by have:=v2.le (pcs.length+q) (by omega);omega,v2.rr _ (by omega)⟩
      rw[aC q5]at this;rw[cI this,aB]
     |false=>
      have q4:=q3 hbo;rw[aM,aD (by simp)];refine⟨by omega,Jg q4 (by omega),?_⟩;have:=I.pc q q4<|j5.2 ⟨by have:=v2.le q (by omega);omega,v2.rr _ (by omega)⟩
      rw[cI this,aB]
    obtain⟨i1,i2,i3⟩:=hix;have hgi:=Jf (r:=r) (t:=pcs.length+bs.length) (bs:=bs) (n:=pcs.length) (h:=r<|eF pcs.length h) (j5.2 ⟨by have:=v2.le _ i1;omega,v2.rr _ i1⟩) i2;have hgx:gi bs pcs.length (pcs.length+bs.length) r (r<|eF pcs.length h)<(gR (mB bs pcs.length (pcs.length+bs.length) r<|bU (pcs.length+bs.length) r) (uM bs pcs r)<|ls.take k).length:=by
     rw[AE,vB];exact hgi.1
    rw[h2];dsimp only[Option.getD,Option.isSome];rw[aK];refine IT i3 ?_;generalize gi bs pcs.length (pcs.length+bs.length) r (r<|eF pcs.length h)=g at *;refine Ti hgx<|IT (Bo _) ?_
    have hpl:((gR (mB bs pcs.length (pcs.length+bs.length) r<|bU (pcs.length+bs.length) r) (uM bs pcs r)<|ls.take k)[g]).gS.length<=ls.length:=by
     have:=kc (gs:=mB bs pcs.length (pcs.length+bs.length) r<|bU (pcs.length+bs.length) r) (lg:=uM bs pcs r) (ls:=ls.take k) (g:=g);rw[aO hgx]at this;have:=this.symm;rw[tX]at this;obtain⟨y,_,hy⟩:=this;rw[<-hy,dA];have:=pA (λl=>decide<|uM bs pcs r l=some g)<|ls.take k
     rw[cQ]at this;omega
    refine Td (by simp;omega)<|Ti hgx<|Sh ?_
    rw[cA];congr 1;exact AF h1<|aO hgx
  ·rintro _ rfl;dsimp only;refine Td (by simp;omega)<|Td (by simp;omega)<|Sh ?_
   rw[hts,eG,eG];rfl
 ·rintro st rfl;dsimp only;rw[eK];exact Sh ⟨r,v2,rfl,I,rfl,rfl⟩
end
section
variable {N:Nat}
theorem Bv{p:aH}:∀{dS:List (List<|List aA)}{k:Nat},p∈cE k dS->∃(i:Nat)(ps:List (List aA))(q:List aA),dS[i]? =some ps/\q∈ps/\p= ⟨((k+i:Nat):Int),q,aU q⟩
 | [],k,h=>by cases h
 |ps::dS,k,h=>by
  rcases cR.1 h with h|h
  ·obtain⟨q,hq,rfl⟩:=dH.1 h;exact⟨0,ps,q,rfl,hq,rfl⟩
  ·obtain⟨i,ps',q,h1,h2,h3⟩:=Bv h;refine⟨i+1,ps',q,by simpa using h1,h2,?_⟩;rw[h3,show k+1+i=k+(i+1)by omega]
structure ri (a:jr):Prop where
 xd:0<a.aJ.length/\a.aJ.length<=16
 RN:∀r∈a.aJ,jL r=0
 out:jL a.cN=0
 many:a.cN.length+(a.aJ.map List.length).sum<=2000
 AG:jH a=0
 uk:mz a=0
theorem ri.gb{a:jr}(h:ri a):k6 a.aQ:=⟨(nu h.AG).1,λb hb=>⟨((nu h.AG).2 b hb).1,((nu h.AG).2 b hb).2.1⟩⟩
theorem ri.cs{a:jr}(h:ri a):∀r∈a.aJ,r.length<=2000/\∀x∈r,DV x:=λr hr=>Dq (rI.1<|h.RN r hr).1
structure AH (a:jr) (kS:List (List aA)) (dS:List (List (List aA))) (p:aH) (i:Nat) (r:List aI) (s:List aA) (ps:List (List aA)) (u:Nat->Nat) (j k:Nat):Prop where
 Sf:a.aJ[i]? =some r
 kS:kS[i]? =some s
 dS:dS[i]? =some ps
 dr:wt r (kR a.aQ ((i:Nat):Int)) s
 pt:ug s u ps
 at_:ps[j]? =some p.Set
 head:(bU (aU s).length u)[j]? =some k
 set:tD (o5 (aU s) (aU s).length u k) p.Set
 lim:zC (vv r++vv (kR a.aQ ((i:Nat):Int))) (kb r++kb (kR a.aQ ((i:Nat):Int))) (p.Set.map cJ)
 P8:p.dJ=((i:Nat):Int)
 P9:p.iq=aU p.Set
theorem Li{a:jr}{kS:List (List aA)}{dS:List (List<|List aA)}(hg:ri a)(hD:xP a.aJ a.aQ a.aJ.length kS dS){p:aH}(hp:p∈cE 0 dS):∃i r s ps u j k,AH a kS dS p i r s ps u j k:=by
 obtain⟨i,ps,q,h1,h2,rfl⟩:=Bv hp;have hil:i<a.aJ.length:=by have:=(bD.1 h1).1;rw[hD.Bq]at this;exact this
 have hc:a.aJ[i]? =some a.aJ[i]:=aO hil;have hd:kS[i]? =some (kS[i]'(by rw[hD.len];exact hil)):=aO _;have hdr:=hD.dr i _ _ hil hc hd;obtain⟨u,hu⟩:=hD.pt i _ ps hil hd h1;obtain⟨sx,sy⟩:=hdr.small (hg.cs _<|cL hil).2<|λx hx=>(tG hg.gb _ x hx).1
 obtain⟨j,k,g1,g2,g3,g4⟩:=Dt hu hdr.can hdr.lim sx sy h2;exact⟨i,_,_,ps,u,j,k,hc,hd,h1,hdr,hu,g1,g2,g3,g4,by rw[jm],rfl⟩
theorem AH.Ha{a:jr}{kS:List (List aA)}{dS:List (List<|List aA)}(hg:ri a){p:aH}{i:Nat}{r:List aI}{s:List aA}{ps:List (List aA)}{u:Nat->Nat}{j k:Nat}(h:AH a kS dS p i r s ps u j k):
  p.Set.length<=5000/\(∀b∈p.Set,b.Xs.length<=5000)/\p.iq.length<=5000*5000:=by
 have h1:=(hg.cs r<|fQ h.Sf).1;have h2:=Bp hg.gb ((i:Nat):Int);rw[h.P9];exact ym (A:=5000) h.set.can h.lim (by rw[dK,m7,m7];omega) (by rw[dK,ko,ko];omega)
def AJ(a0 a1 b0 b1:Int):Bool:=decide (b0<a1)&&decide (a0<b1)
def Hf(a b:aI):Bool:=AJ a.X0 a.X1 b.X0 b.X1&&AJ a.Y0 a.Y1 b.Y0 b.Y1
theorem Du{a0 a1 b0 b1:Int}(h1: -1000000<=a0/\a0<=1000000)(h2: -1000000<=a1/\a1<=1000000)(h3: -1000000<=b0/\b0<=1000000)(h4: -1000000<=b1/\b1<=1000000):∃n,nj N a0 a1 b0 b1=some n/\0<=n/\(n=0↔AJ a0 a1 b0 b1=true):=by
 unfold nj AJ;have e1:wrap .i64 (b0 - a1)=b0 - a1:=fw (by omega) (by omega);have e2:wrap .i64 (a0 - b1)=a0 - b1:=fw (by omega) (by omega);have e3:wrap .i64 (b0 - a1+1)=b0 - a1+1:=fw (by omega) (by omega);have e4:wrap .i64 (a0 - b1+1)=a0 - b1+1:=fw (by omega) (by omega);rw[e1,e2,e3,e4];refine⟨_,rfl,?_,?_⟩
 ·repeat' split
  all_goals omega
 ·rw[bX,bJ,bJ]
  repeat' split
  all_goals omega
theorem N6{a b:aI}(h1:ga a=true)(h2:ga b=true):∃n,uV N a b=some n/\(n=0↔Hf a b=true):=by
 have b1:=ou h1;have b2:=ou h2;obtain⟨n,n1,n2,n3⟩:=Du (N:=N) (a0:=a.X0) (a1:=a.X1) (b0:=b.X0) (b1:=b.X1) (by omega) (by omega) (by omega) (by omega);obtain⟨m,m1,m2,m3⟩:=Du (N:=N) (a0:=a.Y0) (a1:=a.Y1) (b0:=b.Y0) (b1:=b.Y1) (by omega) (by omega) (by omega) (by omega);unfold uV Hf;rw[n1,aB,m1,aB];refine⟨_,rfl,?_⟩;rw[bX,<-n3,<-m3];split <;> omega
def tI(x y:bT):Bool:=(decide (x.cS<=y.To)&&decide (y.cS<=x.To))&&Hf (xc x) (xc y)
def sq(a:jr):Prop:=∃(i k:Nat)(x y:bT),k<i/\a.aQ[i]? =some x/\a.aQ[k]? =some y/\tI x y=true
noncomputable def vC(r:List aI):Option Int:=if jL r≠0 then some (jL r)else none
noncomputable def Ei(a:jr):Int:=if 2000<a.cN.length+(a.aJ.map List.length).sum then 2 else if jH a≠0 then jH a else if mz a≠0 then mz a else if sq a then 12 else 0
noncomputable def J7(a:jr):Int:=match a.aJ.findSome? vC with|some e=>e|none=>if jL a.cN≠0 then jL a.cN else Ei a
noncomputable def kM(a:jr):Int:=if a.aJ.length=0 then 9 else if 16<a.aJ.length then 2 else J7 a
def Om(kS:List (List aA))(dS:List (List<|List aA)):Prop:=(∀s∈kS,(aU s).length<=2000)/\(cE 0 dS).length<=2000
abbrev Dv:=List (List aI)×List aI×List bT×List cX×List (List aA)×List aH×List (List Int)×List cK×List Int×List Int×List Int×List dP
def Nn(a:jr)(x:Option Dv×Int):Prop:=
 (kM a≠0/\x=(none,kM a))\/(kM a=0/\ri a/\¬sq a/\∃kS dS,xP a.aJ a.aQ a.aJ.length kS dS/\
  ((¬Om kS dS/\x=(none,2))\/(Om kS dS/\∃r gs ofP ofB l9 lZ,Ij a.aQ a.bM (cE 0 dS) r gs ofP ofB l9 lZ/\
   x=(some (a.aJ,a.cN,a.aQ,a.bM,kS,cE 0 dS,cP a.aQ (cE 0 dS),gs,ofP,ofB,l9,lZ),0))))
structure vD (a:jr):Prop where
 cs:a.aJ.length<=1048576
 each:∀r∈a.aJ,r.length<=1048576
 out:a.cN.length<=1048576
 bs:a.aQ.length<=1048576
 ls:a.bM.length<=1048576
 nm:Dr a
theorem Hg{a:jr}(h:bk a<=1048576):vD a:=by
 rw[KZ]at h;have h1:=xq a.aJ;have h2:=xq a.cN;have h3:=xq a.aQ;have h4:=xq a.bM;refine⟨by omega,λr hr=>?_,by omega,by omega,by omega,λx hx=>?_⟩
 ·have:=H0 hr;have:=xq r;omega
 ·have:=H0 hx;rw[I2,KT,KT]at this;omega
theorem Bw{a:jr}(hs:vD a)(hN:4398046511104<=N):Ok (fF N a) (Nn a):=by
 unfold fF;have pe:∀e:Int,e≠0->kM a=e->Ok (some ((none:Option Dv),e)) (Nn a):=λe he h=>Sh<|.inl ⟨by rw[h];exact he,by rw[h]⟩
 have c1:=hs.cs;refine SP (λh=>?_)<|λh=>?_
 ·have:a.aJ.length=0:=by have:=beq_iff_eq.1 h;omega
  exact pe 9 (by omega) (by unfold kM;rw[aC this])
 have h0:¬a.aJ.length=0:=by rw[beq_eq_false_iff_ne]at h;omega
 refine SP (λh=>?_)<|λh=>?_
 ·have h1:16<a.aJ.length:=by have:=of_decide_eq_true h;omega
  exact pe 2 (by omega) (by unfold kM;rw[aD h0,aC h1])
 have h1:¬16<a.aJ.length:=by have:=of_decide_eq_false h;omega
 have pe1:kM a=J7 a:=by unfold kM;rw[aD h0,aD h1]
 have hso:=hs.out;have sumle:∀k,k<=a.aJ.length->((a.aJ.take k).map List.length).sum<=k*1048576:=by
  intro k
  induction k with
  |zero=>intro _;simp
  |succ k ih=>
   intro hk;have:=ih (by omega);have h2:=hs.each _<|cL (show k<a.aJ.length by omega)
   rw[eI (by omega),eG,List.sum_append];simp only[eL,List.map_nil,List.sum_cons,List.sum_nil];rw[Nat.add_mul];omega
 refine Sr (UA (Go:=λs:Int=>s=((a.cN.length+(a.aJ.map List.length).sum:Nat):Int)/\∀r∈a.aJ,jL r=0) (Rt:=λx:Option Dv×Int=>∃e,e≠0/\x=(none,e)/\a.aJ.findSome? vC=some e)
  (λ(k:Nat)(s:Int)=>s=((a.cN.length+((a.aJ.take k).map List.length).sum:Nat):Int)/\∀r∈a.aJ.take k,jL r=0) (by omega) ⟨by simp,λr hr=>by simp at hr⟩ (λk s hk hI=>?_) (λs hI=>by rw[eK]at hI;exact hI)) ?_
 ·obtain⟨e,hI⟩:=hI;subst e;have hkx:a.aJ[k]? =some a.aJ[k]:=aO hk;have hts:a.aJ.take (k+1)=a.aJ.take k++[a.aJ[k]]:=eI hk;have he:=hs.each _<|cL hk
  refine Sy hkx<|IT (xO (by omega) hN) ?_
  refine SP (λh=>Tn ?_)<|λh=>SJ ?_
  ·have h:jL a.aJ[k]≠0:=by simpa using h
   refine⟨_,h,rfl,?_⟩;rw[List.findSome?_eq_some_iff];refine⟨a.aJ.take k,a.aJ[k],a.aJ.drop<|k+1,?_,by unfold vC;rw[aC h],λr hr=>by unfold vC;rw[aD (by simpa using hI r hr)]⟩;rw[<-vN hk,List.take_append_drop]
  ·have h:jL a.aJ[k]=0:=by simpa using h
   have:=sumle k (by omega);have hk16:k*1048576<=16*1048576:=Nat.mul_le_mul_right _ (by omega);refine⟨?_,λr hr=>?_⟩
   ·rw[wrap_add (by omega),hts,eG,List.sum_append];simp only[eL,List.map_nil,List.sum_cons,List.sum_nil];congr 1;omega
   ·rw[hts]at hr
    rcases cR.1 hr with hr|hr
    ·exact hI r hr
    ·simp at hr;subst hr;exact h
 intro o ho;refine SV ho ?_ ?_
 rotate_left
 ·rintro x⟨e,he,rfl,hf⟩;exact pe e he (by rw[pe1];unfold J7;rw[hf])
 rintro s⟨rfl,hreg⟩;have Qg:a.aJ.findSome? vC=none:=List.findSome?_eq_none_iff.2 λr hr=>by unfold vC;rw[aD (by simpa using hreg r hr)]
 have pe2:kM a=if jL a.cN≠0 then jL a.cN else Ei a:=by rw[pe1];unfold J7;rw[Qg]
 refine IT (xO (by omega) hN) ?_;refine SP (λh=>?_)<|λh=>?_
 ·have h:jL a.cN≠0:=by simpa using h
  exact pe _ h (by rw[pe2,aC h])
 have hout:jL a.cN=0:=by simpa using h
 have pe3:kM a=Ei a:=by rw[pe2,aD (by simpa using hout)]
 refine SP (λh=>?_)<|λh=>?_
 ·have h:2000<a.cN.length+(a.aJ.map List.length).sum:=by have:=of_decide_eq_true h;omega
  exact pe 2 (by omega) (by rw[pe3];unfold Ei;rw[aC h])
 have hmany:¬2000<a.cN.length+(a.aJ.map List.length).sum:=by have:=of_decide_eq_false h;omega
 have hbs:=hs.bs;have hls:=hs.ls;refine IT (Ee (by omega) (by omega) (by omega)) ?_;refine SP (λh=>?_)<|λh=>?_
 ·have h:jH a≠0:=by simpa using h
  exact pe _ h (by rw[pe3];unfold Ei;rw[aD hmany,aC h])
 have hbo:jH a=0:=by simpa using h
 refine IT (Ef (by omega) (by omega) hs.nm (by omega)) ?_;refine SP (λh=>?_)<|λh=>?_
 ·have h:mz a≠0:=by simpa using h
  exact pe _ h (by rw[pe3];unfold Ei;rw[aD hmany,aD (by simpa using hbo),aC h])
 have hla:mz a=0:=by simpa using h
 have hg:ri a:=⟨by omega,hreg,hout,by omega,hbo,hla⟩;have pe4:kM a=if sq a then 12 else 0:=by rw[pe3];unfold Ei;rw[aD hmany,aD (by simpa using hbo),aD (by simpa using hla)]
 refine Sr (UA (Go:=λ_:Unit=>¬sq a) (Rt:=λx:Option Dv×Int=>x=(none,12)/\sq a)
  (λ(k:Nat)(_:Unit)=>∀(i j:Nat)(x y:bT),i<k->j<i->a.aQ[i]? =some x->a.aQ[j]? =some y->¬tI x y=true) (by omega) (λi j x y h=>by omega) (λk s hk hI=>?_) (λs hI=>?_)) ?_
 ·have hkx:a.aQ[k]? =some a.aQ[k]:=aO hk;refine Sy hkx<|IT (tk _ k (by omega)) ?_
  have hgk:=hg.gb.ok _<|cL hk
  refine Sr (UA (Go:=λ_:Unit=>∀(j:Nat)(y:bT),j<k->a.aQ[j]? =some y->¬tI a.aQ[k] y=true) (Rt:=λx:Option Dv×Int=>x=(none,12)/\sq a)
   (λ(t:Nat)(_:Unit)=>∀(j:Nat)(y:bT),j<t->a.aQ[j]? =some y->¬tI a.aQ[k] y=true) (by rw[cQ];omega) (λj y h=>by omega) (λt s ht hI2=>?_) (λs hI2 j y hj hy=>hI2 j y (by rw[cQ];omega) hy)) ?_
  ·have htk:t<k:=by rw[cQ]at ht;omega
   have htx:(a.aQ.take k)[t]? =some a.aQ[t]:=by rw[List.getElem?_take_of_lt htk];exact aO (by omega)
   have hgt:=hg.gb.ok _<|cL (show t<a.aQ.length by omega)
   refine Sy htx ?_;refine IT (x:=tI a.aQ[k] a.aQ[t]) ?_ ?_
   ·unfold tI
    cases hc:(decide (a.aQ[k].cS<=a.aQ[t].To)&&decide (a.aQ[t].cS<=a.aQ[k].To))with
    |false=>rfl
    |true=>
     obtain⟨n,n1,n2⟩:=N6 (N:=N) hgk.2 hgt.2;rw[aK,ot hgk.1,aB,ot hgt.1,aB,n1,aB,Bool.true_and];congr 1;rw[dY,beq_iff_eq];exact n2
   ·refine SP (λh=>Tn ⟨rfl,k,t,_,_,htk,hkx,aO (by omega),h⟩)<|λh=>SJ λj y hj hy=>?_
    by_cases e:j<t
    ·exact hI2 j y e hy
    ·have:j=t:=by omega
     subst this;rw[aO (by omega)]at hy;injection hy with hy
     rw[<-hy,h];simp
  ·intro o ho;refine SV ho (λs hI2=>SJ λi j x y hi hj hx hy=>?_)<|λx hx=>Tn hx
   by_cases e:i<k
   ·exact hI i j x y e hj hx hy
   ·have:i=k:=by omega
    subst this;rw[hkx]at hx;injection hx with hx
    rw[<-hx];exact hI2 j y hj hy
 ·rintro⟨i,j,x,y,hj,hx,hy,hc⟩;exact hI i j x y (bD.1 hx).1 hj hx hy hc
 intro o ho;refine SV ho ?_ ?_
 rotate_left
 ·rintro x⟨rfl,hc⟩;exact pe 12 (by omega) (by rw[pe4,aC hc])
 intro _ hncl;have pe5:kM a=0:=by rw[pe4,aD hncl]
 refine Sr (Ig (N:=N) (by omega) hg.cs hg.gb hN) ?_;rintro⟨okk,kS,pcs⟩⟨dS,D,e1,e2⟩;dsimp only at D e1 e2 ⊢;subst e1;refine SP (λh=>Sh<|.inr ⟨pe5,hg,hncl,kS,dS,D, .inl ⟨λhf=>?_,rfl⟩⟩)<|λh=>?_
 ·have:=e2.2 hf;rw[this]at h;cases h
 ·have hf:Om kS dS:=e2.1 (by cases okk <;> simp_all);have hpr:∀p∈cE 0 dS,p.iq.length<=1073741824:=λp hp=>by
   obtain⟨i,r,s,ps,u,j,k,hP⟩:=Li hg D hp;have:=(hP.Ha hg).2.2;omega
  have hf2:=hf.2;refine IT (Lg hg.gb (by omega) hpr) ?_;refine Sr (FJ (N:=N) hg.gb (by omega) hpr (by omega) hN) ?_;rintro⟨gs,ofP,ofB,l9,lZ⟩⟨r,hC⟩;exact Sh<|.inr ⟨pe5,hg,hncl,kS,dS,D, .inr ⟨hf,r,gs,ofP,ofB,l9,lZ,hC,rfl⟩⟩
end
section
variable {N:Nat}
theorem Ji{w:Nat}{g:Nat->Nat}{a:Nat}:∀{ks:List Nat},ks.Nodup->a∈ks->(ks.map<|λk=>(if a=k then w else 0)+g k).sum=w+(ks.map g).sum
 | [],_,h=>by cases h
 |k::ks,hn,h=>by
  have hn':=List.nodup_cons.1 hn;simp only[eL,List.sum_cons]
  by_cases e:a=k
  ·subst e;rw[aC rfl];have:ks.map (λk=>(if a=k then w else 0)+g k)=ks.map g:=List.map_congr_left λx hx=>by
    rw[aD<|λe=>hn'.1 (by rw[e];exact hx),jm]
   rw[this];omega
  ·rw[aD e,Ji hn'.2 (by rcases dI.1 h with h|h;exact absurd h e;exact h)];omega
theorem Hh{α:Type}{ks:List Nat}(hn:ks.Nodup)(f w:α->Nat):∀{l:List α},(∀x∈l,f x∈ks)->(ks.map<|λk=>((l.filter<|λx=>decide<|f x=k).map w).sum).sum=(l.map w).sum
 | [],_=>by
  have:∀ks:List Nat,(ks.map<|λ_=>0).sum=0:=λks=>by
   induction ks with
   |nil=>rfl
   |cons k ks ih=>simp only[eL,List.sum_cons,ih]
  simpa using this ks
 |x::l,h=>by
  have ih:=Hh hn f w (l:=l) λy hy=>h y<|iT _ hy
  have:ks.map (λk=>(((x::l).filter<|λx=>decide<|f x=k).map w).sum)=ks.map (λk=>(if f x=k then w x else 0)+((l.filter<|λx=>decide<|f x=k).map w).sum):=List.map_congr_left λk _=>by
   rw[List.filter_cons]
   by_cases e:f x=k
   ·rw[aC (by simpa using e),aC e,eL,List.sum_cons]
   ·rw[aD (by simpa using e),aD e,jm]
  rw[this,Ji hn<|h x (by simp),ih,eL,List.sum_cons]
def Jj(s:List aA):j6:=match s with|b::_=>⟨b.Xs.headD 0,b.Y0⟩| []=>⟨0,0⟩
theorem AH.ne{a:jr}{kS:List (List aA)}{dS:List (List<|List aA)}{p:aH}{i:Nat}{r:List aI}{s:List aA}{ps:List (List aA)}{u:Nat->Nat}{j k:Nat}(h:AH a kS dS p i r s ps u j k):p.Set≠[]:=by
 intro e;have hh:=j5.1<|fQ h.head
 have hx:(aU s)[k]? =some (aU s)[k]:=aO hh.1;have hm:(aU s)[k]∈o5 (aU s) (aU s).length u k:=m8.2 ⟨k,hh.1,hh.2,hx⟩;obtain⟨b,hb,q,hq,hr⟩:=s8<|fQ hx
 have hbm:cJ b∈s.map cJ:=dH.2 ⟨b,hb,rfl⟩;have hq1:=H7 (h.dr.can.each _ hbm).2.2.1 q hq;have hb1:=(h.dr.can.each _ hbm).1;have hc:=h.set.cover q.1 b.Y0;rw[e]at hc;have:uL (o5 (aU s) (aU s).length u k) q.1 b.Y0=true:=jG.2 ⟨_,hm,by rw[hr];exact⟨⟨Int.le_refl _,hq1⟩,Int.le_refl _,hb1⟩⟩;rw[this]at hc
 cases hc
structure l8 (a:jr) (kS:List (List aA)) (dS:List (List (List aA))) (r:Nat->Nat) (gs:List cK) (ofP ofB l9:List Int) (lZ:List dP):Prop where
 xR:ri a
 Sg:¬sq a
 dr:xP a.aJ a.aQ a.aJ.length kS dS
 xd:Om kS dS
 Np:Ij a.aQ a.bM (cE 0 dS) r gs ofP ofB l9 lZ
inductive N7 (N:Nat) (a:jr):Prop
 |err (e:Int) (he:e≠0) (h:fF N a=some (none,e))
 |ok {kS:List (List aA)} {dS:List (List (List aA))} {r:Nat->Nat} {gs:List cK} {ofP ofB l9:List Int} {lZ:List dP} (b:l8 a kS dS r gs ofP ofB l9 lZ)
  (h:fF N a=some (some (a.aJ,a.cN,a.aQ,a.bM,kS,cE 0 dS,cP a.aQ<|cE 0 dS,gs,ofP,ofB,l9,lZ),0))
theorem opened{a:jr}(hs:vD a)(hN:4398046511104<=N):N7 N a:=by
 obtain⟨x,hx,hI⟩:=Bw (N:=N) hs hN
 rcases hI with⟨he,rfl⟩|⟨_,hg,hcl,kS,dS,D,⟨_,rfl⟩|⟨hf,r,gs,ofP,ofB,l9,lZ,hC,rfl⟩⟩
 ·exact .err _ he hx
 ·exact .err 2 (by omega) hx
 ·exact .ok ⟨hg,hcl,D,hf,hC⟩ hx
end
section
variable {S R:Type}
theorem Tb{body:S->Option (Fl S R)}{N n:Nat}{s:S}(ι:S->Int)(Inv:Nat->S->Prop){Go:S->Prop}{Rt:R->Prop}
  (h1:∀k s,k<n->ι s=((k:Nat):Int)->Inv k s->Ok (body s) (LJ (λs'=>ι s'=((k+1:Nat):Int)/\Inv (k+1) s') Go Rt))
  (h2:∀s,ι s=((n:Nat):Int)->Inv n s->Ok (body s) (LJ (λ_=>False) Go Rt))
  {k0:Nat} (hk:k0<=n) (hi:ι s=((k0:Nat):Int)) (h0:Inv k0 s) (hn:n<N):Ok (Gk.jt body N s) (P0 Go Rt):=by
 refine Tw (λs=>∃k:Nat,k<=n/\ι s=((k:Nat):Int)/\Inv k s) (λs=>n -(ι s).toNat) ?_ ⟨k0,hk,hi,h0⟩ (by omega);rintro s⟨k,hk,e,hI⟩
 by_cases hlt:k<n
 ·refine(h1 k s hlt e hI).mono ?_;rintro(s'|s'|r)hp
  ·have hp1:ι s'=((k+1:Nat):Int):=hp.1;exact⟨⟨k+1,hlt,hp.1,hp.2⟩,by rw[e,hp1];simp only[cA];omega⟩
  ·exact hp
  ·exact hp
 ·have:k=n:=by omega
  subst this;refine(h2 s e hI).mono ?_;rintro(s'|s'|r)hp
  ·exact hp.elim
  ·exact hp
  ·exact hp
theorem kd{k n:Nat}(h:k<n):decide (((k:Nat):Int)<((n:Nat):Int))=true:=bL (by omega)
theorem lW(n:Nat):decide (((n:Nat):Int)<((n:Nat):Int))=false:=bG (by omega)
theorem AK{k n:Nat}(h:n<=k):decide (((k:Nat):Int)<((n:Nat):Int))=false:=bG (by omega)
end
theorem sP{α:Type}{p:α->Bool}:∀{l:List α}{k:Nat},(∀(j:Nat)x,j<k->l[j]? =some x->p x=true)->(∀x,l[k]? =some x->p x=false)->l.takeWhile p=l.take k/\l.dropWhile p=l.drop k
 | [],k,_,_=>by simp
 |y::l,0,_,h2=>by
  have:=h2 y rfl;rw[List.takeWhile_cons,List.dropWhile_cons,this];simp
 |y::l,k+1,h1,h2=>by
  have h:=h1 0 y (by omega) rfl;obtain⟨e1,e2⟩:=sP (l:=l) (k:=k) (λj x hj hx=>h1 (j+1) x (by omega) hx)<|λx hx=>h2 x hx
  rw[List.takeWhile_cons,List.dropWhile_cons,h,aC rfl,aC rfl,e1,e2];simp
section
variable {N:Nat}
def sQ(l:List Int)(c:Int):List Int:=if c∈l then l else l.takeWhile (λx=>decide<|x<c)++c::l.dropWhile (λx=>decide<|x<c)
theorem AL(l:List Int)(c:Int):(sQ l c).length<=l.length+1:=by
 unfold sQ;split
 ·omega
 ·have:(l.takeWhile<|λx=>decide<|x<c).length+(l.dropWhile<|λx=>decide<|x<c).length=l.length:=by rw[<-dK,List.takeWhile_append_dropWhile]
  rw[dK,dX];omega
theorem Dw{l:List Int}{c x:Int}:x∈sQ l c↔x∈l\/x=c:=by
 unfold sQ;split
 ·rename_i h;exact⟨.inl,λh'=>h'.elim id λe=>e▸h⟩
 ·have:x∈l↔x∈l.takeWhile (λx=>decide<|x<c)\/x∈l.dropWhile (λx=>decide<|x<c):=by rw[<-cR,List.takeWhile_append_dropWhile]
  rw[cR,dI,this];constructor
  ·rintro(h|h|h)
   ·exact .inl<|.inl h
   ·exact .inr h
   ·exact .inl<|.inr h
  ·rintro((h|h)|h)
   ·exact .inl h
   ·exact .inr<|.inr h
   ·exact .inr<|.inl h
theorem Jk{l:List Int}(h:kf l)(c:Int):∀x∈l.dropWhile (λx=>decide<|x<c),c<=x:=by
 induction l with
 |nil=>intro x hx;cases hx
 |cons a l ih=>
  rw[List.dropWhile_cons]
  by_cases ha:a<c
  ·rw[aC (by simpa using ha)];exact ih h.tail
  ·rw[aD (by simpa using ha)];intro x hx
   rcases dI.1 hx with rfl|hx
   ·omega
   ·have:=h.head x hx;omega
theorem Mu(l:List Int)(c:Int):∀x∈l.takeWhile (λx=>decide<|x<c),x<c:=by
 induction l with
 |nil=>intro x hx;cases hx
 |cons a l ih=>
  rw[List.takeWhile_cons]
  by_cases ha:a<c
  ·rw[aC (by simpa using ha)];intro x hx
   rcases dI.1 hx with rfl|hx
   ·exact ha
   ·exact ih x hx
  ·rw[aD (by simpa using ha)];intro x hx;cases hx
theorem vE{l:List Int}{c:Int}(h:kf l):kf (sQ l c):=by
 unfold sQ;split
 ·exact h
 ·rename_i hc;have hs:=h;rw[<-List.takeWhile_append_dropWhile (p:=λx=>decide<|x<c) (l:=l)]at hs;unfold kf at hs ⊢;rw[oz]at hs ⊢;refine⟨hs.1,py.2 ⟨λx hx=>?_,hs.2.1⟩,λx hx y hy=>?_⟩
  ·have h1:=Jk h c x hx;have h2:x≠c:=λe=>hc (by rw[<-e,<-List.takeWhile_append_dropWhile (p:=λx=>decide<|x<c) (l:=l)];exact List.mem_append_right _ hx);omega
  ·have h1:=Mu l c x hx
   rcases dI.1 hy with rfl|hy
   ·exact h1
   ·have:=Jk h c y hy;omega
def lB(l:List Int):List Int:=l.foldl sQ []
theorem wv:∀(cs l:List Int),kf l->kf (cs.foldl sQ l)/\(∀x,x∈cs.foldl sQ l↔x∈l\/x∈cs)/\(cs.foldl sQ l).length<=l.length+cs.length
 | [],l,h=>⟨h,λx=>by simp,by simp⟩
 |c::cs,l,h=>by
  obtain⟨h1,h2,h3⟩:=wv cs (sQ l c)<|vE h
  refine⟨h1,λx=>?_,?_⟩
  ·rw[List.foldl_cons,h2,Dw,dI,or_assoc]
  ·rw[List.foldl_cons,dX];have:=AL l c;omega
theorem oT(l:List Int):kf (lB l):=(wv l [] kN).1
theorem Bx{l:List Int}{x:Int}:x∈lB l↔x∈l:=by
 have:=(wv l [] kN).2.1 x;unfold lB;rw[this];simp
theorem vF(l:List Int):(lB l).length<=l.length:=by
 have:=(wv l [] kN).2.2;unfold lB;simpa using this
theorem xS(l:List Int)(c d:Int):lB (l++[c,d])=sQ (sQ (lB l) c) d:=by unfold lB;rw[List.foldl_append];rfl
theorem Ik{a b:Nat}(h:a+b<=4611686018427387904):wrap .i64 (Int.tdiv (wrap .i64<|((a:Nat):Int)+((b:Nat):Int)) 2)=(((a+b) / 2:Nat):Int):=by
 rw[wrap_add h,Int.tdiv_eq_ediv_of_nonneg (by omega),fw (by omega) (by omega)];omega
theorem yn{l:List Int}{c:Int}(h:kf l)(hl:l.length<=1099511627776)(hN:4398046511104<=N):f9 N l c=some (sQ l c):=by
 refine Tm ?_;unfold f9
 refine Sr (Tw (Go:=λst:Int×Int=>∃a:Nat,st.1=((a:Nat):Int)/\a<=l.length/\(∀(j:Nat)x,j<a->l[j]? =some x->x<c)/\(∀(j:Nat)x,a<=j->l[j]? =some x->c<=x)) (Rt:=λ_=>True)
  (λst=>∃a b:Nat,st=(((a:Nat):Int),((b:Nat):Int))/\a<=b/\b<=l.length/\(∀(j:Nat)x,j<a->l[j]? =some x->x<c)/\(∀(j:Nat)x,b<=j->l[j]? =some x->c<=x))
  (λst=>(st.2 - st.1).toNat) ?_ ⟨0,l.length,rfl,by omega,bZ _,λj x hj=>by omega,λj x hj hx=>by have:=(bD.1 hx).1;omega⟩ (by simp only;omega)) ?_
 ·rintro st⟨a,b,rfl,hab,hb,h1,h2⟩;dsimp only
  by_cases hlt:a<b
  ·have hm:(a+b) / 2<l.length:=by omega
   have hx:l[(a+b) / 2]? =some l[(a+b) / 2]:=aO hm;rw[kd hlt,aK,Ik (by omega)];refine Sy hx ?_
   by_cases hc:l[(a+b) / 2]<c
   ·rw[bL hc,aK,aB];refine SJ ⟨⟨(a+b) / 2+1,b,?_,by omega,hb,λj x hj hx'=>?_,h2⟩,?_⟩
    ·rw[bK (by omega)]
    ·by_cases e:j=(a+b) / 2
     ·subst e;rw[hx]at hx';injection hx' with hx';omega
     ·have:=h.lt (i:=j) (j:=(a+b) / 2) (by omega) hx' hx;omega
    ·rw[bK (by omega)];simp only;omega
   ·rw[bG hc,aM,aB];refine SJ ⟨⟨a,(a+b) / 2,rfl,by omega,by omega,h1,λj x hj hx'=>?_⟩,by simp only;omega⟩
    by_cases e:j=(a+b) / 2
    ·subst e;rw[hx]at hx';injection hx' with hx';omega
    ·have:=h.lt (i:=(a+b) / 2) (j:=j) (by omega) hx hx';omega
  ·rw[AK (by omega),aM];exact SU ⟨a,rfl,by omega,h1,λj x hj hx=>h2 j x (by omega) hx⟩
 intro o ho;refine SV ho ?_<|λr hr=>r.elim
 rintro⟨st1,st2⟩⟨a,ha,hle,h1,h2⟩;dsimp only at ha ⊢;subst ha;have hin:l[a]? =some c->sQ l c=l:=λhx=>by unfold sQ;rw[aC<|fQ hx]
 have hout:l[a]? ≠some c->sQ l c=l.take a++c::l.drop a:=λhx=>by
  have hc:c∉l:=λhc=>by
   obtain⟨j,hj⟩:=dZ hc
   by_cases h3:j<a
   ·have:=h1 j c h3 hj;omega
   ·by_cases e:j=a
    ·subst e;exact hx hj
    ·have h5:a<l.length:=by have:=(bD.1 hj).1;omega
     have h6:l[a]? =some l[a]:=aO h5;have h7:=h.lt (i:=a) (j:=j) (by omega) h6 hj;have h8:=h2 a _ (bZ _) h6;omega
  unfold sQ;rw[aD hc];obtain⟨e1,e2⟩:=sP (p:=λx=>decide<|x<c) (l:=l) (k:=a) (λj x hj hx'=>bL<|h1 j x hj hx')<|λx hx'=>bG (by have:=h2 a x (bZ _) hx';omega)
  rw[e1,e2]
 have hrest:l[a]? ≠some c->Ok ((uv l 0 ((a:Nat):Int)).bind λx49=>(app 8 ([]:List Int) x49).bind λx51=>(app 8 x51 ([c]:List Int)).bind λx54=>(uv l ((a:Nat):Int) ((l.length:Nat):Int)).bind λx56=>(app 8 x54 x56).bind λx58=>some x58) (λr=>r=sQ l c):=λhx=>by
  have htk:(l.take a).length=a:=by rw[cQ];omega
  refine IT (tk l a hle)<|Td (by simp only[List.length_nil];omega)<|Td (by rw[List.nil_append];simp only[dX,List.length_nil];omega)<|IT (ry l a hle)<|Td ?_<|Sh ?_
  ·rw[List.nil_append,dK,jl];simp only[dX,List.length_nil];omega
  ·rw[hout hx];simp
 by_cases hlt:a<l.length
 ·have hx:l[a]? =some l[a]:=aO hlt;rw[kd hlt,aK,cI hx,aB,aB];refine SP (λhb=>Sh ?_)<|λhb=>hrest ?_
  ·rw[beq_iff_eq]at hb;rw[hin (by rw[hx,hb])]
  ·rw[beq_eq_false_iff_ne]at hb;rw[hx];intro e;injection e with e;exact hb e
 ·rw[AK (by omega),aM,aB,aM];exact hrest (by rw[List.getElem?_eq_none (by omega)];intro e;cases e)
theorem Hi(l m:List aI):kb (l++m)=kb l++kb m:=List.flatMap_append
theorem Dx{l:List aI}(hl:l.length<=268435456)(hN:4398046511104<=N):iJ N l=some (lB<|kb l):=by
 refine Tm ?_;unfold iJ;refine Sr (Tb (n:=l.length) (λs=>s.2) (λk s=>s.1=lB (kb<|l.take k)) (Go:=λs=>s.1=lB (kb l)) (Rt:=λ_=>False) ?_ ?_ (cZ _) rfl rfl (by omega)) ?_
 ·rintro k⟨out,i⟩hk e hI;dsimp only at e hI ⊢;subst e;subst hI;rw[kd hk,aK];have hx:l[k]? =some l[k]:=aO hk;have h1:=vF<|kb<|l.take k
  rw[ko,cQ]at h1;have h2:=AL (lB<|kb<|l.take k) l[k].Y0;refine Sy hx<|Sy hx<|IT (yn (oT _) (by omega) hN)<|IT (yn (vE<|oT _) (by omega) hN)<|SJ ⟨bK (by omega),?_⟩
  rw[eI hk,Hi];exact(xS _ _ _).symm
 ·rintro⟨out,i⟩e hI;dsimp only at e hI ⊢;subst e;rw[lW,aM];exact SU (by rw[eK]at hI;exact hI)
 intro o ho;exact SV ho (λs hs=>Sh hs)<|λr hr=>hr.elim
def sp(s:aG):Int×Int:=(s.from_,s.to)
theorem Lj:∀{l m:List aG},l.map sp=m.map sp->l=m
 | [],[],_=>rfl
 | [],_::_,h=>by cases h
 |_::_,[],h=>by cases h
 |⟨a,b⟩::l,⟨c,d⟩::m,h=>by
  rw[eL,eL]at h;injection h with h1 h2
  unfold sp at h1;injection h1 with h3 h4
  simp only at h3 h4;rw[h3,h4,Lj h2]
theorem wx(a b:Int):(if b<a then b else a)=min a b:=by split <;> omega
theorem wy(a b:Int):(if a<b then b else a)=max a b:=by split <;> omega
theorem EW{l:List aG}{s:aG}(hl:l.length<=268435456)(hN:4398046511104<=N):Ok (ja N l s) (λr=>r.map sp=mO (l.map sp) (sp s)):=by
 unfold ja;have hget:∀(j:Nat)(x:Int×Int),(l.map sp)[j]? =some x->∃y,l[j]? =some y/\x=sp y:=λj x h=>by
  rw[fL]at h
  cases hy:l[j]? with
  |none=>rw[hy]at h;cases h
  |some y=>rw[hy]at h;injection h with h;exact⟨y,rfl,h.symm⟩
 refine Sr (Tw (Go:=λst:List aG×Int=>∃k:Nat,st=(l.take k,((k:Nat):Int))/\k<=l.length/\(∀(j:Nat)x,j<k->l[j]? =some x->x.to<s.from_)/\(∀x,l[k]? =some x->¬x.to<s.from_)) (Rt:=λ_=>False)
  (λst=>∃k:Nat,st=(l.take k,((k:Nat):Int))/\k<=l.length/\∀(j:Nat)x,j<k->l[j]? =some x->x.to<s.from_) (λst=>l.length - st.2.toNat) ?_ ⟨0,by simp,by omega,λj x hj=>by omega⟩ (by simp;omega)) ?_
 ·rintro st⟨k,rfl,hk,hI⟩;dsimp only
  by_cases hlt:k<l.length
  ·have hx:l[k]? =some l[k]:=aO hlt;rw[kd hlt,aK,cI hx,aB,aB];refine SP (λhb=>?_)<|λhb=>?_
   ·have hb:=of_decide_eq_true hb;refine IT rfl<|Td ?_<|SJ ⟨⟨k+1,?_,hlt,?_⟩,?_⟩
    ·rw[cQ];simp only[dX,List.length_nil];omega
    ·rw[bK (by omega),eI hlt]
    ·intro j x hj hx'
     by_cases e:j=k
     ·subst e;rw[hx]at hx';injection hx' with hx';rw[<-hx'];exact hb
     ·exact hI j x (by omega) hx'
    ·rw[bK (by omega)];simp only[cA];omega
   ·have hb:=of_decide_eq_false hb;exact SU ⟨k,rfl,hk,hI,λx hx'=>by rw[hx]at hx';injection hx' with hx';rw[<-hx'];exact hb⟩
  ·rw[AK (by omega),aM,aB,aM];exact SU ⟨k,rfl,hk,hI,λx hx'=>by have:=(bD.1 hx').1;omega⟩
 intro o ho;refine SV ho ?_<|λr hr=>hr.elim
 rintro st⟨k,rfl,hk,hI,hE⟩;dsimp only
 obtain⟨e1,e2⟩:=sP (p:=λa:Int×Int=>decide (a.2<(sp s).1)) (l:=l.map sp) (k:=k) (λj x hj hx=>by
  obtain⟨y,hy,rfl⟩:=hget j x hx
  exact bL (hI j y hj hy)) (λx hx=>by
  obtain⟨y,hy,rfl⟩:=hget k x hx
  exact bG (hE y hy))
 refine Sr (Tw (Go:=λst:aG×Int=>∃i:Nat,st.2=((i:Nat):Int)/\i<=l.length/\lE (sp s) ((l.drop k).map sp)=(sp st.1,(l.drop i).map sp)) (Rt:=λ_=>False)
  (λst=>∃i:Nat,st.2=((i:Nat):Int)/\i<=l.length/\lE (sp s) ((l.drop k).map sp)=lE (sp st.1) ((l.drop i).map sp)) (λst=>l.length - st.2.toNat) ?_ ⟨k,rfl,hk,rfl⟩ (by simp only[cA];omega)) ?_
 ·rintro⟨s',i'⟩⟨i,e,hi,hm⟩;dsimp only at e hm ⊢;subst e
  by_cases hlt:i<l.length
  ·have hx:l[i]? =some l[i]:=aO hlt;have hd:(l.drop i).map sp=sp l[i]::(l.drop<|i+1).map sp:=by rw[vN hlt,eL]
   rw[kd hlt,aK,cI hx,aB,aB];refine SP (λhb=>?_)<|λhb=>?_
   ·have hb:=of_decide_eq_true hb;refine IT rfl<|IT rfl<|SJ ⟨⟨i+1,bK (by omega),hlt,?_⟩,?_⟩
    ·rw[hm,hd]
     conv=>lhs;unfold lE
     rw[aC (show(sp l[i]).1<=(sp s').2 from hb),wx,wy];rfl
    ·dsimp only;rw[bK (by omega)];simp only[cA];omega
   ·have hb:=of_decide_eq_false hb;refine SU ⟨i,rfl,hi,?_⟩;rw[hm,hd]
    conv=>lhs;unfold lE
    rw[aD (show ¬(sp l[i]).1<=(sp s').2 from hb)]
  ·rw[AK (by omega),aM,aB,aM];refine SU ⟨i,rfl,hi,?_⟩;rw[hm,List.drop_eq_nil_of_le (by omega)];rfl
 intro o ho;refine SV ho ?_<|λr hr=>hr.elim
 rintro⟨s',i'⟩⟨i,e,hi,hm⟩;dsimp only at e hm ⊢;subst e;refine Td ?_<|IT (ry l i hi)<|Td ?_<|Sh ?_
 ·rw[cQ];simp only[dX,List.length_nil];omega
 ·rw[dK,cQ,jl];simp only[dX,List.length_nil];omega
 ·unfold mO;rw[e1,e2,<-List.map_take,<-List.map_drop,hm];simp
theorem Dy:∀(l:List (Int×Int))(s:Int×Int),(lE s l).2.length<=l.length
 | [],s=>bZ _
 |a::l,s=>by
  unfold lE;split
  ·have:=Dy l (min s.1 a.1,max s.2 a.2);rw[dX];omega
  ·exact bZ _
theorem BZ(l:List (Int×Int))(s:Int×Int):(mO l s).length<=l.length+1:=by
 unfold mO;have h1:=Dy (l.dropWhile λa=>decide<|a.2<s.1) s;have h2:(l.takeWhile<|λx=>decide<|x.2<s.1).length+(l.dropWhile<|λx=>decide<|x.2<s.1).length=l.length:=by rw[<-dK,List.takeWhile_append_dropWhile]
 rw[dK,dX];omega
def kE(y:Int)(out:List (Int×Int))(r:aI):List (Int×Int):=if r.Y0<=y/\y<r.Y1 then mO out (r.X0,r.X1)else out
def lX(l:List aI)(y:Int):List (Int×Int):=l.foldl (kE y) []
theorem J8(l:List aI)(r:aI)(y:Int):lX (l++[r]) y=kE y (lX l y) r:=by unfold lX;rw[List.foldl_append];rfl
theorem B0(y:Int):∀(l:List aI)(out:List (Int×Int)),(l.foldl (kE y) out).length<=out.length+l.length
 | [],out=>by simp
 |r::l,out=>by
  rw[List.foldl_cons,dX];have h1:=B0 y l<|kE y out r
  have h2:(kE y out r).length<=out.length+1:=by
   unfold kE;split
   ·exact BZ _ _
   ·omega
  omega
theorem tJ(l:List aI)(y:Int):(lX l y).length<=l.length:=by
 have:=B0 y l [];unfold lX;simpa using this
theorem AM(y:Int):∀(l:List aI)(out:List (Int×Int)),(∀r∈l,r.X0<r.X1)->kf (dR out)->kf (dR<|l.foldl (kE y) out)/\∀x,j3 (l.foldl (kE y) out) x=(j3 out x||uL l x y)
 | [],out,_,h=>⟨h,λx=>by simp[uL]⟩
 |r::l,out,hr,h=>by
  have h0:=hr r (by simp);rw[List.foldl_cons];have hst:kf (dR<|kE y out r)/\∀x,j3 (kE y out r) x=(j3 out x||((decide (r.X0<=x)&&decide (x<r.X1))&&(decide (r.Y0<=y)&&decide (y<r.Y1)))):=by
   unfold kE
   by_cases hy:r.Y0<=y/\y<r.Y1
   ·rw[aC hy];obtain⟨j1,j2⟩:=Au (l:=out) (s:=(r.X0,r.X1)) h h0;refine⟨j1,λx=>?_⟩;rw[j2,bL hy.1,bL hy.2,Bool.or_comm];simp
   ·rw[aD hy];refine⟨h,λx=>?_⟩;have:(decide (r.Y0<=y)&&decide (y<r.Y1))=false:=by rw[Bool.and_eq_false_iff,decide_eq_false_iff_not,decide_eq_false_iff_not];omega
    rw[this];simp
  obtain⟨m1,m2⟩:=AM y l (kE y out r) (λr' hr'=>hr r'<|iT _ hr') hst.1;refine⟨m1,λx=>?_⟩;rw[m2,hst.2,Bool.or_assoc];rfl
theorem vG{l:List aI}(h:∀r∈l,r.X0<r.X1)(y:Int):kf (dR<|lX l y)/\∀x,j3 (lX l y) x=uL l x y:=by
 obtain⟨h1,h2⟩:=AM y l [] h kN;exact⟨h1,λx=>by rw[show j3 (lX l y) x=_ from h2 x,show j3 [] x=false from rfl,Bool.false_or]⟩
theorem yS{y y':Int}:∀(l:List aI)(out:List (Int×Int)),(∀r∈l,(r.Y0<=y/\y<r.Y1)↔(r.Y0<=y'/\y'<r.Y1))->l.foldl (kE y) out=l.foldl (kE y') out
 | [],out,_=>rfl
 |r::l,out,h=>by
  rw[List.foldl_cons,List.foldl_cons,yS l _<|λr' hr'=>h r'<|iT _ hr'];congr 1;unfold kE;have:=h r (by simp)
  by_cases h1:r.Y0<=y/\y<r.Y1
  ·rw[aC h1,aC<|this.1 h1]
  ·rw[aD h1,aD<|λh2=>h1<|this.2 h2]
theorem Il{l:List aI}{y y':Int}(h:∀r∈l,(r.Y0<=y/\y<r.Y1)↔(r.Y0<=y'/\y'<r.Y1)):lX l y=lX l y':=yS l [] h
theorem Ll{l:List aI}{y:Int}(h:∀r∈l,¬(r.Y0<=y/\y<r.Y1)):lX l y= []:=by
 have:∀(l:List aI)(out:List (Int×Int)),(∀r∈l,¬(r.Y0<=y/\y<r.Y1))->l.foldl (kE y) out=out:=by
  intro l
  induction l with
  |nil=>intro out _;rfl
  |cons r l ih=>
   intro out h;rw[List.foldl_cons,ih _<|λr' hr'=>h r'<|iT _ hr'];unfold kE;rw[aD<|h r (by simp)]
 exact this l [] h
theorem FK{l:List aI}{y:Int}(hl:l.length<=134217728)(hN:4398046511104<=N):Ok (iI N l y) (λr=>r.map sp=lX l y):=by
 unfold iI;refine Sr (Tb (n:=l.length) (λs=>s.2) (λk s=>s.1.map sp=lX (l.take k) y) (Go:=λs=>s.1.map sp=lX l y) (Rt:=λ_=>False) ?_ ?_ (cZ _) rfl rfl (by omega)) ?_
 ·rintro k⟨out,i⟩hk e hI;dsimp only at e hI ⊢;subst e;rw[kd hk,aK];have hx:l[k]? =some l[k]:=aO hk;have hlen:out.length<=l.length:=by
   have h1:=tJ (l.take k) y;rw[<-hI,dA,cQ]at h1;omega
  rw[cI hx,aB];have hst:lX (l.take<|k+1) y=kE y (lX (l.take k) y) l[k]:=by rw[eI hk,J8]
  have hno:¬(l[k].Y0<=y/\y<l[k].Y1)->Ok ((some out).bind λs141=>some (Fl.nx (s141,wrap .i64<|((k:Nat):Int)+1):Fl (List aG×Int) Empty)) (LJ (λs'=>s'.2=((k+1:Nat):Int)/\s'.1.map sp=lX (l.take<|k+1) y) (λs=>s.1.map sp=lX l y)<|λ_=>False):=λhy=>by
   rw[aB];refine SJ ⟨bK (by omega),?_⟩;rw[hst];unfold kE;rw[aD hy];exact hI
  by_cases h1:l[k].Y0<=y
  ·rw[bL h1,aK,aB,aB]
   by_cases h2:y<l[k].Y1
   ·rw[bL h2,aK];refine Sr (P:=λr:List aG=>r.map sp=lX (l.take<|k+1) y) (IT rfl<|IT rfl<|Sr (EW (by omega) hN)<|λr hr=>Sh ?_)<|λr hr=>SJ ⟨bK (by omega),hr⟩
    rw[hr,hI,hst];unfold kE;rw[aC ⟨h1,h2⟩];rfl
   ·rw[bG h2,aM];exact hno<|λh=>h2 h.2
  ·rw[bG h1,aM,aB,aM];exact hno<|λh=>h1 h.1
 ·rintro⟨out,i⟩e hI;dsimp only at e hI ⊢;subst e;rw[lW,aM];exact SU (by rw[eK]at hI;exact hI)
 intro o ho;exact SV ho (λs hs=>Sh hs)<|λr hr=>hr.elim
theorem Bz{l:List aG}{x:Int}(hl:l.length<=1099511627776)(hN:4398046511104<=N):g9 N l x=some (j3 (l.map sp) x):=by
 refine Tm ?_;unfold g9;have hm:∀b:Bool,(j3 (l.map sp) x=b↔(l.any λs=>decide (s.from_<=x)&&decide (x<s.to))=b):=λb=>by unfold j3;rw[List.any_map];rfl
 refine Sr (Tb (n:=l.length) (λs=>s) (λk s=>∀(j:Nat)y,j<k->l[j]? =some y->¬(y.from_<=x/\x<y.to)) (Go:=λs=>j3 (l.map sp) x=false) (Rt:=λr=>r=j3 (l.map sp) x) ?_ ?_ (cZ _) rfl (λj y hj=>by omega) (by omega)) ?_
 ·rintro k i hk e hI;subst e;rw[kd hk,aK];have hx:l[k]? =some l[k]:=aO hk;rw[cI hx,aB]
  have hno:¬(l[k].from_<=x/\x<l[k].to)->Ok (some (Fl.nx (wrap .i64 (((k:Nat):Int)+1)):Fl Int Bool)) (LJ (λs'=>s'=((k+1:Nat):Int)/\∀(j:Nat)y,j<k+1->l[j]? =some y->¬(y.from_<=x/\x<y.to)) (λs=>j3 (l.map sp) x=false) (λr=>r=j3 (l.map sp) x)):=λhy=>SJ ⟨bK (by omega),λj y hj hjy=>by
   by_cases e:j=k
   ·subst e;rw[hx]at hjy;injection hjy with hjy;rw[<-hjy];exact hy
   ·exact hI j y (by omega) hjy⟩
  by_cases h1:l[k].from_<=x
  ·rw[bL h1,aK,aB,aB]
   by_cases h2:x<l[k].to
   ·rw[bL h2,aK];refine Tn ?_;symm;rw[hm,kq];exact⟨l[k],cL hk,by rw[bL h1,bL h2];rfl⟩
   ·rw[bG h2,aM];exact hno<|λh=>h2 h.2
  ·rw[bG h1,aM,aB,aM];exact hno<|λh=>h1 h.1
 ·rintro i e hI;subst e;rw[lW,aM];refine SU ?_;rw[hm,List.any_eq_false];intro y hy;obtain⟨j,hj⟩:=dZ hy;have:=hI j y (bD.1 hj).1 hj;rw[jy,Bool.and_eq_false_iff,decide_eq_false_iff_not,decide_eq_false_iff_not];omega
 intro o ho;exact SV ho (λs hs=>Sh hs.symm)<|λr hr=>Sh hr
end
section
variable {α:Type}[DecidableEq α]{N:Nat}
def Nq(N:Nat)(p0 p1:List α):Option Bool:=
 bif(p0.length:Int) != (p1.length:Int)then some false else((jt (λ(s32:Int)=>(bif decide (s32<(p0.length:Int))then((idx p0 s32).bind λx45=>(idx p1 s32).bind λx48=>bif(!(decide<|x45=x48))then some (.rt false)else some (.nx<|wrap .i64<|s32+1))else(some<|.br s32):Option (Fl Int Bool))) N 0).bind λo51=>o51.cs (λ(s32:Int)=>some true)<|λr=>some r)
theorem Hj{l m:List α}(hl:l.length<=1099511627776)(hN:4398046511104<=N):Nq N l m=some (decide<|l=m):=by
 refine Tm ?_;unfold Nq
 by_cases he:l.length=m.length
 ·rw[show(((l.length:Nat):Int) != ((m.length:Nat):Int))=false by rw[he];simp,aM];refine Sr (Tb (n:=l.length) (λs=>s) (λk s=>∀j,j<k->l[j]? =m[j]?) (Go:=λs=>l=m) (Rt:=λr=>r=false/\l≠m) ?_ ?_ (cZ _) rfl (λj hj=>by omega) (by omega)) ?_
  ·rintro k i hk e hI;subst e;have hx:l[k]? =some l[k]:=aO hk;have hy:m[k]? =some (m[k]'(by omega)):=aO _;rw[kd hk,aK];refine Sy hx<|Sy hy<|SP (λhb=>Tn ⟨rfl,λe=>?_⟩)<|λhb=>SJ ⟨bK (by omega),λj hj=>?_⟩
   ·have h1:some l[k]=some (m[k]'(by omega)):=hx.symm.trans<|(by rw[e]:l[k]? =m[k]?).trans hy
    injection h1 with h1
    rw[h1]at hb;simp at hb
   ·by_cases e:j=k
    ·subst e;rw[hx,hy];simpa using hb
    ·exact hI j (by omega)
  ·rintro i e hI;subst e;rw[lW,aM];refine SU<|List.ext_getElem? λj=>?_
   by_cases hj:j<l.length
   ·exact hI j hj
   ·rw[List.getElem?_eq_none (by omega),List.getElem?_eq_none (by omega)]
  intro o ho;exact SV ho (λs hs=>Sh (bL hs).symm)<|λr hr=>Sh (by rw[hr.1,bG hr.2])
 ·rw[show(((l.length:Nat):Int) != ((m.length:Nat):Int))=true by rw[bne_iff_ne];omega,aK];exact Sh (bG λh=>he (by rw[h])).symm
end
section
variable {N:Nat}
theorem FL{l m:List aI}(hl:l.length<=1099511627776)(hN:4398046511104<=N):kz N l m=some (decide<|l=m):=Hj hl hN
theorem FM{l m:List aG}(hl:l.length<=1099511627776)(hN:4398046511104<=N):ky N l m=some (decide<|l=m):=Hj hl hN
def uQ(b:aP):Bd:=⟨b.from_,b.to,dR<|b.jK.map sp⟩
theorem J9{l:List (Int×Int)}:dR l= []↔l= []:=by
 cases l with
 |nil=>exact⟨λ_=>rfl,λ_=>rfl⟩
 |cons s l=>exact⟨λh=>(by cases h),λh=>(by cases h)⟩
theorem Ka{l m:List aG}:dR (l.map sp)=dR (m.map sp)↔l=m:=⟨λh=>Lj<|EM h,λh=>by rw[h]⟩
theorem Im{l:List aP}{b:aP}(hlt:b.from_<b.to)(hl:l.length<=1073741824)(hs:∀c∈l,c.jK.length<=1099511627776)(hN:4398046511104<=N):
  Ok (gI N l b) (λr=>r.map uQ=kC (l.map uQ) (uQ b)):=by
 unfold gI kC
 by_cases h0:b.jK= []
 ·rw[show(((b.jK.length:Nat):Int)==0)=true by rw[h0];rfl,aK,aC<|.inl (by unfold uQ;rw[h0];rfl)];exact Sh rfl
 ·rw[show(((b.jK.length:Nat):Int)==0)=false by rw[beq_eq_false_iff_ne];intro h;exact h0<|List.eq_nil_of_length_eq_zero (by omega),aM];have hne:¬((uQ b).xs= []\/(uQ b).y1<=(uQ b).y0):=by
   rintro(h|h)
   ·have h:=J9.1 h;exact h0<|List.map_eq_nil_iff.1 h
   ·have h:b.to<=b.from_:=h;omega
  rw[aD hne]
  rcases List.eq_nil_or_concat l with rfl|⟨A,c,hA⟩
  ·rw[show decide (((([]:List aP).length:Nat):Int)>0)=false by decide,aM,aB,aM];exact Td (by simp)<|Sh rfl
  ·rw[List.concat_eq_append]at hA;subst hA;have hlen:(A++[c]).length=A.length+1:=by simp
   have hwp:wrap .i64 ((((A++[c]).length:Nat):Int) - 1)=((A.length:Nat):Int):=by rw[C9 (by omega) (by omega),hlen];rfl
   have hlast:(A++[c])[A.length]? =some c:=by simp
   rw[hwp,bL (by omega),aK,cI hlast,aB,aB,FM (by have:=hs c (by simp);omega) hN,aB,aB,cA];have hl2:((A++[c]).map uQ).getLast? =some (uQ c):=by simp
   have hd2:((A++[c]).map uQ).dropLast=A.map uQ:=by simp
   rw[hl2,hd2];dsimp only
   by_cases h1:c.to=b.from_/\c.jK=b.jK
   ·rw[aC (show(uQ c).y1=(uQ b).y0/\(uQ c).xs=(uQ b).xs from⟨h1.1,by unfold uQ;rw[h1.2]⟩),show(c.to==b.from_)=true by rw[h1.1];simp,aK,bL h1.2,aB,aK];refine Sh ?_;rw[List.set_append_right _ _<|bZ _,Nat.sub_self];simp[uQ]
   ·rw[aD (show ¬((uQ c).y1=(uQ b).y0/\(uQ c).xs=(uQ b).xs)from λh=>h1 ⟨h.1,Ka.1 h.2⟩)];have e2:(bif c.to==b.from_ then some (decide<|c.jK=b.jK)else some false)=some false:=by
     by_cases h2:c.to=b.from_
     ·rw[show(c.to==b.from_)=true by rw[h2];simp,aK,bG<|λh=>h1 ⟨h2,h⟩]
     ·rw[show(c.to==b.from_)=false by simpa using h2,aM]
    rw[e2,aB,aM];exact Td (by rw[hlen];simp;omega)<|Sh (by simp)
theorem Lm{s:List Bd}{b c:Bd}(h:c∈kC s b):c.xs=b.xs\/∃d∈s,c.xs=d.xs:=by
 unfold kC at h;split at h
 ·exact .inr ⟨c,h,rfl⟩
 ·split at h
  ·rename_i d hd;split at h
   ·rcases cR.1 h with h|h
    ·exact .inr ⟨c,List.dropLast_subset _ h,rfl⟩
    ·simp at h;exact .inr ⟨d,List.mem_of_getLast? hd,by rw[h]⟩
   ·rcases cR.1 h with h|h
    ·exact .inr ⟨c,h,rfl⟩
    ·simp at h;exact .inl (by rw[h])
  ·simp at h;exact .inl (by rw[h])
theorem sR{f:Int->List Int}{B:Nat}(hf:∀y,(f y).length<=B):∀(ss:List (Int×Int))(out:List Bd),(∀c∈out,c.xs.length<=B)->(∀c∈nD f ss out,c.xs.length<=B)/\(nD f ss out).length<=out.length+ss.length
 | [],out,h=>⟨h,by simp[nD]⟩
 |s::ss,out,h=>by
  obtain⟨h1,h2⟩:=sR hf ss (kC out ⟨s.1,s.2,f s.1⟩) (λc hc=>by
   rcases Lm hc with h3|⟨d,hd,h3⟩
   ·rw[h3];exact hf _
   ·rw[h3];exact h d hd)
  refine⟨h1,?_⟩;have:=JV out ⟨s.1,s.2,f s.1⟩;show(nD f ss<|kC out ⟨s.1,s.2,f s.1⟩).length<=_;rw[dX];omega
theorem ov:∀(ys:List Int),(lr ys).length=ys.length - 1
 | []=>rfl
 | [_]=>rfl
 |a::b::l=>by
  show(lr<|b::l).length+1=_;rw[ov<|b::l];simp
theorem Dz:∀(ys:List Int)(k:Nat)(h:k+1<ys.length),(lr ys)[k]? =some (ys[k],ys[k+1])
 | [],k,h=>by simp at h
 | [_],k,h=>by simp at h
 |a::b::l,0,h=>rfl
 |a::b::l,k+1,h=>by
  have:=Dz (b::l) k (by simp at h ⊢;omega);show(lr<|b::l)[k]? =_;rw[this];rfl
theorem Hk(f:Int->List Int)(ss:List (Int×Int))(s:Int×Int)(out:List Bd):nD f (ss++[s]) out=kC (nD f ss out) ⟨s.1,s.2,f s.1⟩:=by unfold nD;rw[List.foldl_append];rfl
theorem DA{ys:List Int}(hy:kf ys){f:Int->List Int}{B:Nat}(hf:∀y,(f y).length<=B)(hB:B<=1099511627776)(hys:ys.length<=1073741824){out:List aP}{k:Nat}(h1:1<=k)(hk:k<ys.length)
  (hI:out.map uQ=nD f ((lr ys).take<|k - 1) []) {r:List aG} (hr:dR (r.map sp)=f (ys[k - 1]'(by omega))) (hN:4398046511104<=N):
  Ok (gI N out ⟨ys[k - 1]'(by omega),ys[k],r⟩) (λo=>o.map uQ=nD f ((lr ys).take k) []):=by
 have hlt:ys[k - 1]'(by omega)<ys[k]:=nF.1 hy (k - 1) k (by omega) hk (by omega);obtain⟨s1,s2⟩:=sR hf ((lr ys).take<|k - 1) [] (λc hc=>by cases hc);have hol:out.length<=ys.length:=by
  have:(out.map uQ).length<=ys.length:=by
   rw[hI];have h3:=ov ys;rw[cQ]at s2;simp only[List.length_nil]at s2;omega
  rwa[dA]at this
 refine(Im hlt (by omega) (λc hc=>?_) hN).mono λo ho=>?_
 ·have h3:(uQ c).xs.length<=B:=s1 _ (by rw[<-hI];exact dH.2 ⟨c,hc,rfl⟩);have h4:(uQ c).xs.length=2*c.jK.length:=by unfold uQ;rw[kZ,dA]
  omega
 ·have hg:=Dz ys (k - 1) (by omega);have hts:(lr ys).take k=(lr ys).take (k - 1)++[(ys[k - 1]'(by omega),ys[k])]:=by
   have hl:k - 1<(lr ys).length:=by rw[ov];omega
   have e:=eI hl;rw[show k - 1+1=k by omega]at e;rw[e];congr 1;rw[aO hl]at hg;injection hg with hg
   rw[hg];simp only[show k - 1+1=k by omega]
  rw[ho,hI,hts,Hk];congr 1;unfold uQ;simp only[hr]
def r6(b:aP):List aI:=b.jK.map λs=>⟨s.from_,b.from_,s.to,b.to⟩
def mQ(l:List aP):List aI:=l.flatMap r6
theorem Hl:∀(l:List (Int×Int)),Db (dR l)=l
 | []=>rfl
 |s::l=>by rw[j4];show(s.1,s.2)::Db (dR l)=_;rw[Hl l]
theorem BA:∀{l:List aP}{s:List aA},l.map uQ=s.map cJ->mQ l=aU s
 | [],[],_=>rfl
 | [],_::_,h=>by cases h
 |_::_,[],h=>by cases h
 |b::l,c::s,h=>by
  rw[eL,eL]at h;injection h with h1 h2
  have e:=BA h2;show r6 b++mQ l=oh c++aU s;rw[e];congr 1;unfold uQ cJ at h1;injection h1 with g1 g2 g3
  unfold r6 oh;rw[<-g3,Hl,g1,g2,List.map_map];rfl
theorem Hm(l:List aP)(b:aP):mQ (l++[b])=mQ l++r6 b:=by unfold mQ;rw[List.flatMap_append];simp
theorem Jl{l:List aP}(hl:l.length<=1099511627776)(hs:∀b∈l,b.jK.length<=1099511627776)(hr:(mQ l).length<=1099511627776)(hN:4398046511104<=N):jU N l=some (mQ l):=by
 refine Tm ?_;unfold jU;refine Sr (Tb (n:=l.length) (λs=>s.2) (λk s=>s.1=mQ (l.take k)) (Go:=λs=>s.1=mQ l) (Rt:=λ_=>False) ?_ ?_ (cZ _) rfl rfl (by omega)) ?_
 ·rintro k⟨out,i⟩hk e hI;dsimp only at e hI ⊢;subst e;subst hI;rw[kd hk,aK];have hx:l[k]? =some l[k]:=aO hk;have hsl:=hs _<|cL hk
  have hts:mQ (l.take<|k+1)=mQ (l.take k)++r6 l[k]:=by rw[eI hk,Hm]
  have hlen:(mQ<|l.take k).length+l[k].jK.length<=(mQ l).length:=by
   have h1:(mQ l).length=(mQ<|l.take<|k+1).length+(mQ<|l.drop<|k+1).length:=by
    rw[<-dK];unfold mQ;rw[<-List.flatMap_append,List.take_append_drop]
   have h2:(r6 l[k]).length=l[k].jK.length:=by unfold r6;rw[dA]
   rw[hts,dK,h2]at h1;omega
  refine Sr (Tb (n:=l[k].jK.length) (λs=>s.2) (λj s=>s.1=mQ (l.take k)++(r6 l[k]).take j) (Go:=λs=>s.1=mQ (l.take<|k+1)) (Rt:=λ_=>False) ?_ ?_ (cZ _) rfl (by simp) (by omega)) ?_
  ·rintro j⟨o2,i2⟩hj e hI;dsimp only at e hI ⊢;subst e;subst hI;have hy:l[k].jK[j]? =some l[k].jK[j]:=aO hj;have hjr:j<(r6 l[k]).length:=by unfold r6;rw[dA];exact hj
   refine Sy hx ?_;rw[kd hj,aK];refine Sy hx<|Sy hy<|Sy hx<|Sy hx<|Sy hy<|Sy hx<|Td ?_<|SJ ⟨bK (by omega),?_⟩
   ·rw[dK,cQ];simp only[dX,List.length_nil];omega
   ·dsimp only;rw[lL];congr 1;rw[eI hjr];congr 1;simp[r6]
  ·rintro⟨o2,i2⟩e hI;dsimp only at e hI ⊢;subst e;subst hI;refine Sy hx ?_;rw[lW,aM];refine SU ?_;dsimp only;rw[hts];congr 1;exact mF (by unfold r6;rw[dA];omega)
  intro o ho;exact SV ho (λs hs=>SJ ⟨bK (by omega),hs⟩)<|λr hr=>hr.elim
 ·rintro⟨out,i⟩e hI;dsimp only at e hI ⊢;subst e;rw[lW,aM];exact SU (by rw[eK]at hI;exact hI)
 intro o ho;exact SV ho (λs hs=>Sh hs)<|λr hr=>hr.elim
theorem BB{l:List aI}{ys:List Int}(hm:∀r∈l,r.Y0∈ys/\r.Y1∈ys){s:Int×Int}{y:Int}(hs:s∈lr ys)(hy:kf ys)(h1:s.1<=y)(h2:y<s.2):lX l y=lX l s.1:=Il λr hr=>by
 obtain⟨m1,m2⟩:=hm r hr;obtain⟨_,_,_,h⟩:=sZ hy s hs
 rcases h _ m1 with h3|h3 <;> rcases h _ m2 with h4|h4 <;> constructor <;> intro h5 <;> omega
theorem FN{l:List aI}{ys:List Int}(hm:∀r∈l,r.Y0∈ys/\r.Y1∈ys){y:Int}(h:(∀c∈ys,y<c)\/(∀c∈ys,c<=y)):lX l y= []:=Ll λr hr hc=>by
 obtain⟨m1,m2⟩:=hm r hr
 rcases h with h|h
 ·have:=h _ m1;omega
 ·have:=h _ m2;omega
theorem FO{l:List aI}:∀r∈l,r.Y0∈lB (kb l)/\r.Y1∈lB (kb l):=λr hr=>⟨Bx.2<|mw.2 ⟨r,hr, .inl rfl⟩,Bx.2<|mw.2 ⟨r,hr, .inr rfl⟩⟩
theorem Ln(l:List aI):(lB<|kb l).length<=2*l.length:=by
 have:=vF<|kb l
 rwa[ko]at this
theorem wz{l:List aI}{s:List aA}(hc:fJ (s.map cJ))(hcov:∀x y,w9 (s.map cJ) x y=uL l x y)(hl:l.length<=10000000)(hok:∀r∈l,r.X0<r.X1)(hr:(aU s).length<=1099511627776)(hN:4398046511104<=N):
  fW N l=some (aU s):=by
 refine Tm ?_;unfold fW;refine IT (Dx (by omega) hN) ?_;have hyl:=Ln l;have hyi:=oT<|kb l
 have hf:∀y,kf (dR<|lX l y)/\(dR<|lX l y).length % 2=0:=λy=>⟨(vG hok y).1,by rw[kZ];omega⟩;have hfl:∀y,(dR<|lX l y).length<=20000000:=λy=>by rw[kZ];have:=tJ l y;omega
 obtain⟨b1,b2⟩:=BU (f:=λy=>dR<|lX l y) hf hyi (λt ht y h1 h2=>by(try dsimp only);rw[BB FO ht hyi h1 h2]) (λy h=>by(try dsimp only);rw[FN FO h];rfl);have hsame:nD (λy=>dR<|lX l y) (lr<|lB<|kb l) []=s.map cJ:=wm b1 hc λx y=>by
  rw[hcov];unfold w9;rw[b2,vt (hf y).1,(vG hok y).2]
 have hmy:= @FO l;generalize lB (kb l)=ys at *;refine Sr (Tb (n:=max 1 ys.length) (λs=>s.2) (λk st=>1<=k/\st.1.map uQ=nD (λy=>dR<|lX l y) ((lr ys).take<|k - 1) []) (Go:=λst=>st.1.map uQ=s.map cJ) (Rt:=λ_=>False) ?_ ?_ (k0:=1) (by omega) rfl ⟨bZ _,rfl⟩ (by omega)) ?_
 ·rintro k⟨out,i⟩hk e⟨hk1,hI⟩;dsimp only at e hI ⊢;subst e;have hk2:k<ys.length:=by omega
  rw[kd hk2,aK,jg hk1 (by omega)];refine Ti (by omega)<|Ti hk2<|Ti (by omega)<|Sr (FK (by omega) hN) λr hr=>Sr (DA hyi (f:=λy=>dR<|lX l y) hfl (by omega) (by omega) hk1 hk2 hI (by(try dsimp only);rw[hr]) hN) λo ho=>SJ ⟨bK (by omega),by omega,?_⟩
  rw[Nat.add_sub_cancel];exact ho
 ·rintro⟨out,i⟩e⟨hk1,hI⟩;dsimp only at e hI ⊢;subst e;rw[AK (by omega),aM];refine SU ?_;rw[mF (by rw[ov];omega),hsame]at hI;exact hI
 intro o ho;refine SV ho (λst hs=>?_)<|λr hr=>hr.elim
 have e:=BA hs;obtain⟨s1,s2⟩:=sR (f:=λy=>dR<|lX l y) hfl (lr ys) [] (λc hc=>by cases hc);refine IT (Jl (l:=st.1) ?_ ?_ (by rw[e];exact hr) hN)<|Sh e
 ·have:(st.1.map uQ).length<=ys.length:=by rw[hs,<-hsame];have:=ov ys;simp only[List.length_nil]at s2;omega
  rw[dA]at this;omega
 ·intro b hb;have h3:=s1 (uQ b) (by rw[hsame,<-hs];exact dH.2 ⟨b,hb,rfl⟩);have h4:(uQ b).xs.length=2*b.jK.length:=by unfold uQ;rw[kZ,dA]
  omega
def tK(w:Int)(p q:Bool):Bool:=((((w==1)&&(p||q))||(((w==2)&&p)&&q))||(((w==3)&&p)&&(!q)))
theorem Lo(w:Int):tK w false false=false:=by unfold tK;simp
theorem B1(iG:Bool->Bool->Bool)(a b ss:List (Int×Int))(s:Int×Int)(out:List (Int×Int)):nC iG a b (ss++[s]) out=if iG (j3 a s.1) (j3 b s.1)=true then mO (nC iG a b ss out) s else nC iG a b ss out:=by unfold nC;rw[List.foldl_append];rfl
theorem zw(iG:Bool->Bool->Bool)(a b:List (Int×Int)):∀(ss out:List (Int×Int)),(nC iG a b ss out).length<=out.length+ss.length
 | [],out=>by simp[nC]
 |s::ss,out=>by
  have h1:=zw iG a b ss (if iG (j3 a s.1) (j3 b s.1)=true then mO out s else out);have h2:(if iG (j3 a s.1) (j3 b s.1)=true then mO out s else out).length<=out.length+1:=by
   split
   ·exact BZ _ _
   ·omega
  show(nC iG a b ss (if iG (j3 a s.1) (j3 b s.1)=true then mO out s else out)).length<=_;rw[dX];omega
def B2(a b:List (Int×Int)):List Int:=lB<|dR a++dR b
theorem EX(a b:List (Int×Int)):(B2 a b).length<=2*a.length+2*b.length:=by
 have:=vF<|dR a++dR b
 rw[dK,kZ,kZ]at this;exact this
theorem Lp{a b:List aG}{w:Int}(ha:a.length<=10000000)(hb:b.length<=10000000)(hN:4398046511104<=N):
  Ok (kI N a b w) (λr=>r.map sp=nC (tK w) (a.map sp) (b.map sp) (lr<|B2 (a.map sp)<|b.map sp) []):=by
 unfold kI;have hfl:∀(l:List aG),(lB<|dR<|l.map sp).length<=2*l.length:=λl=>by
  have:=vF<|dR<|l.map sp
  rwa[kZ,dA]at this
 refine Sr (Tb (n:=a.length) (λs=>s.2) (λk s=>s.1=lB (dR<|(a.take k).map sp)) (Go:=λs=>s.1=lB (dR<|a.map sp)) (Rt:=λ_=>False) ?_ ?_ (cZ _) rfl rfl (by omega)) ?_
 ·rintro k⟨out,i⟩hk e hI;dsimp only at e hI ⊢;subst e;subst hI;rw[kd hk,aK];have hx:a[k]? =some a[k]:=aO hk;have h1:=hfl<|a.take k
  rw[cQ]at h1;have h2:=AL (lB<|dR<|(a.take k).map sp) a[k].from_;refine Sy hx<|Sy hx<|IT (yn (oT _) (by omega) hN)<|IT (yn (vE<|oT _) (by omega) hN)<|SJ ⟨bK (by omega),?_⟩
  rw[eI hk,eG,wo];exact(xS _ _ _).symm
 ·rintro⟨out,i⟩e hI;dsimp only at e hI ⊢;subst e;rw[lW,aM];exact SU (by rw[eK]at hI;exact hI)
 intro o ho;refine SV ho ?_<|λr hr=>hr.elim
 rintro⟨xa,ia⟩hxa;dsimp only at hxa ⊢;subst hxa;refine Sr (Tb (n:=b.length) (λs=>s.2) (λk s=>s.1=lB (dR (a.map sp)++dR ((b.take k).map sp))) (Go:=λs=>s.1=B2 (a.map sp) (b.map sp)) (Rt:=λ_=>False) ?_ ?_ (cZ _) rfl (by simp[dR]) (by omega)) ?_
 ·rintro k⟨out,i⟩hk e hI;dsimp only at e hI ⊢;subst e;subst hI;rw[kd hk,aK];have hx:b[k]? =some b[k]:=aO hk;have h1:=vF<|dR (a.map sp)++dR ((b.take k).map sp)
  rw[dK,kZ,kZ,dA,dA,cQ]at h1;have h2:=AL (lB<|dR (a.map sp)++dR ((b.take k).map sp)) b[k].from_;refine Sy hx<|Sy hx<|IT (yn (oT _) (by omega) hN)<|IT (yn (vE<|oT _) (by omega) hN)<|SJ ⟨bK (by omega),?_⟩
  rw[eI hk,eG,wo,<-lL];exact(xS _ _ _).symm
 ·rintro⟨out,i⟩e hI;dsimp only at e hI ⊢;subst e;rw[lW,aM];exact SU (by rw[eK]at hI;exact hI)
 intro o ho;refine SV ho ?_<|λr hr=>hr.elim
 rintro⟨xs,ix⟩hxs;dsimp only at hxs ⊢;have hxl:=EX (a.map sp)<|b.map sp
 rw[<-hxs,dA,dA]at hxl;rw[<-hxs];clear hxs;refine Sr (Tb (n:=max 1 xs.length) (λs=>s.2) (λk st=>1<=k/\st.1.map sp=nC (tK w) (a.map sp) (b.map sp) ((lr xs).take<|k - 1) []) (Go:=λst=>st.1.map sp=nC (tK w) (a.map sp) (b.map sp) (lr xs) []) (Rt:=λ_=>False) ?_ ?_ (k0:=1) (by omega) rfl ⟨bZ _,rfl⟩ (by omega)) ?_
 ·rintro k⟨out,i⟩hk e⟨hk1,hI⟩;dsimp only at e hI ⊢;subst e;have hk2:k<xs.length:=by omega
  rw[kd hk2,aK,jg hk1 (by omega)];have hx:xs[k - 1]? =some (xs[k - 1]'(by omega)):=aO _;have hy:xs[k]? =some xs[k]:=aO hk2;have hg:=Dz xs (k - 1) (by omega);have hts:(lr xs).take k=(lr xs).take (k - 1)++[(xs[k - 1]'(by omega),xs[k])]:=by
   have hl:k - 1<(lr xs).length:=by rw[ov];omega
   have e:=eI hl;rw[show k - 1+1=k by omega]at e;rw[e];congr 1;rw[aO hl]at hg;injection hg with hg
   rw[hg];simp only[show k - 1+1=k by omega]
  have hol:out.length<=xs.length:=by
   have h1:=zw (tK w) (a.map sp) (b.map sp) ((lr xs).take<|k - 1) [];rw[<-hI,dA,cQ,ov]at h1;simp only[List.length_nil]at h1;omega
  refine Sy hx<|Sy hx<|IT (Bz (by omega) hN)<|IT (Bz (by omega) hN) ?_
  refine Sr (P:=λr:List aG=>r.map sp=nC (tK w) (a.map sp) (b.map sp) ((lr xs).take k) []) (SP (λhb=>?_)<|λhb=>?_)<|λr hr=>SJ ⟨bK (by omega),by omega,by rw[Nat.add_sub_cancel];exact hr⟩
  ·refine Sy hx<|Sy hy<|Sr (EW (by omega) hN)<|λr hr=>Sh ?_
   rw[hr,hI,hts,B1,aC (show tK w _ _=true from hb)];rfl
  ·refine Sh ?_;rw[hI,hts,B1,aD (show ¬tK w _ _=true by rw[jy];exact hb)]
 ·rintro⟨out,i⟩e⟨hk1,hI⟩;dsimp only at e hI ⊢;subst e;rw[AK (by omega),aM];refine SU ?_;rw[mF (by rw[ov];omega)]at hI;exact hI
 intro o ho;exact SV ho (λs hs=>Sh hs)<|λr hr=>hr.elim
def pO(w:Int)(a b:List aI)(y:Int):List (Int×Int):=nC (tK w) (lX a y) (lX b y) (lr<|B2 (lX a y)<|lX b y) []
theorem Hn(a b:List (Int×Int)):Ends a (B2 a b)/\Ends b (B2 a b):=by
 constructor <;> intro s hs <;> constructor <;> refine Bx.2<|cR.2 ?_
 ·exact .inl<|List.mem_flatMap.2 ⟨s,hs,by simp⟩
 ·exact .inl<|List.mem_flatMap.2 ⟨s,hs,by simp⟩
 ·exact .inr<|List.mem_flatMap.2 ⟨s,hs,by simp⟩
 ·exact .inr<|List.mem_flatMap.2 ⟨s,hs,by simp⟩
theorem B3{a b:List aI}(ha:∀r∈a,r.X0<r.X1)(hb:∀r∈b,r.X0<r.X1)(w y:Int):kf (dR<|pO w a b y)/\∀x,j3 (pO w a b y) x=tK w (uL a x y) (uL b x y):=by
 obtain⟨h1,h2⟩:=GZ (iG:=tK w) (Lo w) (a:=lX a y) (b:=lX b y) (xs:=B2 (lX a y)<|lX b y) (oT _) (Hn _ _).1 (Hn _ _).2;exact⟨h1,λx=>by rw[show j3 (pO w a b y) x=_ from h2 x,(vG ha y).2,(vG hb y).2]⟩
theorem Io(w:Int)(a b:List aI)(y:Int):(pO w a b y).length<=2*a.length+2*b.length:=by
 have h1:=zw (tK w) (lX a y) (lX b y) (lr<|B2 (lX a y)<|lX b y) [];have h2:=EX (lX a y)<|lX b y
 have h3:=tJ a y;have h4:=tJ b y;rw[ov]at h1;unfold pO;simp only[List.length_nil]at h1;omega
theorem Ho{a b:List aI}{w:Int}{s:List aA}(hc:fJ (s.map cJ))(hcov:∀x y,w9 (s.map cJ) x y=tK w (uL a x y) (uL b x y))(hla:a.length<=10000000)(hlb:b.length<=10000000)
  (ha:∀r∈a,r.X0<r.X1) (hb:∀r∈b,r.X0<r.X1) (hr:(aU s).length<=1099511627776) (hN:4398046511104<=N):iv N a b w=some (aU s):=by
 refine Tm ?_;unfold iv;refine Td (by simp only[List.length_nil];omega)<|Td (by rw[List.nil_append];omega) ?_
 rw[List.nil_append];refine IT (Dx (by rw[dK];omega) hN) ?_;have hyl:=Ln<|a++b
 rw[dK]at hyl;have hyi:=oT<|kb<|a++b
 have hmy:= @FO<|a++b
 have hma:∀r∈a,r.Y0∈lB (kb<|a++b)/\r.Y1∈lB (kb<|a++b):=λr hr=>hmy r<|List.mem_append_left _ hr
 have hmb:∀r∈b,r.Y0∈lB (kb<|a++b)/\r.Y1∈lB (kb<|a++b):=λr hr=>hmy r<|List.mem_append_right _ hr
 have hf:∀y,kf (dR<|pO w a b y)/\(dR<|pO w a b y).length % 2=0:=λy=>⟨(B3 ha hb w y).1,by rw[kZ];omega⟩;have hfl:∀y,(dR<|pO w a b y).length<=80000000:=λy=>by rw[kZ];have:=Io w a b y;omega
 obtain⟨b1,b2⟩:=BU (f:=λy=>dR (pO w a b y)) hf hyi (λt ht y h1 h2=>by(try dsimp only);unfold pO;rw[BB hma ht hyi h1 h2,BB hmb ht hyi h1 h2]) (λy h=>by
  (try dsimp only);unfold pO;rw[FN hma h,FN hmb h];rfl)
 have hsame:nD (λy=>dR<|pO w a b y) (lr<|lB<|kb<|a++b) []=s.map cJ:=wm b1 hc λx y=>by
  rw[hcov];unfold w9;rw[b2,vt (hf y).1,(B3 ha hb w y).2]
 clear hmy hma hmb;generalize lB (kb<|a++b)=ys at *;refine Sr (Tb (n:=max 1 ys.length) (λs=>s.2) (λk st=>1<=k/\st.1.map uQ=nD (λy=>dR<|pO w a b y) ((lr ys).take<|k - 1) []) (Go:=λst=>st.1.map uQ=s.map cJ) (Rt:=λ_=>False) ?_ ?_ (k0:=1) (by omega) rfl ⟨bZ _,rfl⟩ (by omega)) ?_
 ·rintro k⟨out,i⟩hk e⟨hk1,hI⟩;dsimp only at e hI ⊢;subst e;have hk2:k<ys.length:=by omega
  rw[kd hk2,aK,jg hk1 (by omega)];refine Ti (by omega)<|Ti hk2<|Ti (by omega)<|Ti (by omega)<|Sr (FK (by omega) hN) λr1 hr1=>Sr (FK (by omega) hN) λr2 hr2=>?_
  have l1:r1.length<=10000000:=by have:=tJ a<|ys[k - 1]'(by omega);rw[<-hr1,dA]at this;omega
  have l2:r2.length<=10000000:=by have:=tJ b<|ys[k - 1]'(by omega);rw[<-hr2,dA]at this;omega
  refine Sr (Lp l1 l2 hN) λr hr=>Sr (DA hyi (f:=λy=>dR<|pO w a b y) hfl (by omega) (by omega) hk1 hk2 hI (by(try dsimp only);rw[hr,hr1,hr2];rfl) hN) λo ho=>SJ ⟨bK (by omega),by omega,?_⟩;rw[Nat.add_sub_cancel];exact ho
 ·rintro⟨out,i⟩e⟨hk1,hI⟩;dsimp only at e hI ⊢;subst e;rw[AK (by omega),aM];refine SU ?_;rw[mF (by rw[ov];omega),hsame]at hI;exact hI
 intro o ho;refine SV ho (λst hs=>?_)<|λr hr=>hr.elim
 have e:=BA hs;obtain⟨s1,s2⟩:=sR (f:=λy=>dR<|pO w a b y) hfl (lr ys) [] (λc hc=>by cases hc);refine IT (Jl (l:=st.1) ?_ ?_ (by rw[e];exact hr) hN)<|Sh e
 ·have:(st.1.map uQ).length<=ys.length:=by rw[hs,<-hsame];have:=ov ys;simp only[List.length_nil]at s2;omega
  rw[dA]at this;omega
 ·intro b hb;have h3:=s1 (uQ b) (by rw[hsame,<-hs];exact dH.2 ⟨b,hb,rfl⟩);have h4:(uQ b).xs.length=2*b.jK.length:=by unfold uQ;rw[kZ,dA]
  omega
theorem FP(n:Int):cT N n=some (mE n):=rfl
theorem DB{l:List aI}(hl:l.length<=1099511627776)(hN:4398046511104<=N):iM N l=some (my l):=by
 refine Tm ?_;unfold iM my
 by_cases h:2000<l.length
 ·rw[bL (by omega),aK,aC h];exact Sh rfl
 ·rw[bG (by omega),aM,aD h];refine Sr (Tb (n:=l.length) (λs=>s) (λk s=>∀(j:Nat)x,j<k->l[j]? =some x->lV x=none) (Go:=λs=>l.findSome? lV=none) (Rt:=λr=>l.findSome? lV=some r) ?_ ?_ (cZ _) rfl (λj x hj=>by omega) (by omega)) ?_
  ·rintro k i hk e hI;subst e;rw[kd hk,aK];have hx:l[k]? =some l[k]:=aO hk;have hrt:∀c,lV l[k]=some c->l.findSome? lV=some c:=λc hc=>by
    rw[List.findSome?_eq_some_iff];refine⟨l.take k,l[k],l.drop<|k+1,?_,hc,λx hx'=>?_⟩
    ·rw[List.getElem_cons_drop,List.take_append_drop]
    ·obtain⟨j,hj⟩:=dZ hx';have hjk:j<k:=by have:=(bD.1 hj).1;rw[cQ]at this;omega
     exact hI j x hjk (by rw[List.getElem?_take_of_lt hjk]at hj;exact hj)
   refine Sy hx ?_;have hb:((cT N l[k].X0).bind λx110=>bif(!x110)then some true else((cT N l[k].Y0).bind λx112=>bif(!x112)then some true else((cT N l[k].X1).bind λx114=>bif(!x114)then some true else((cT N l[k].Y1).bind λx116=>some<|!x116))))=some (!ga l[k]):=by
    rw[FP,FP,FP,FP];unfold ga;simp only[aB]
    cases mE l[k].X0 <;> cases mE l[k].Y0 <;> cases mE l[k].X1 <;> rfl
   refine IT hb<|SP (λh1=>Tn<|hrt 1 ?_)<|λh1=>SP (λh2=>Tn<|hrt 13 ?_)<|λh2=>SJ ⟨bK (by omega),λj x hj hjx=>?_⟩
   ·unfold lV;rw[aD (by rw[jy];simpa using h1)]
   ·unfold lV;rw[aC (by simpa using h1),aC (by rw[dU,bJ,bJ]at h2;exact h2)]
   ·by_cases e:j=k
    ·subst e;rw[hx]at hjx;injection hjx with hjx;rw[<-hjx]
     unfold lV;rw[aC (by simpa using h1),aD (by rw[<-jy,dU,bJ,bJ]at h2;exact h2)]
    ·exact hI j x (by omega) hjx
  ·rintro i e hI;subst e;rw[lW,aM];refine SU ?_;rw[List.findSome?_eq_none_iff];intro x hx;obtain⟨j,hj⟩:=dZ hx;exact hI j x (bD.1 hj).1 hj
  intro o ho;exact SV ho (λs hs=>Sh (by rw[hs];rfl))<|λr hr=>Sh (by rw[hr];rfl)
theorem Ip{l:List aI}{s:List aA}(hs:tD l s):Dp l↔aU s=l:=⟨λ⟨t,h1,h2⟩=>by rw[hs.unique h1];exact h2,λh=>⟨s,hs,h⟩⟩
theorem wM{l:List aI}(hl:l.length<=1073741824)(hN:4398046511104<=N):gk N l=some (jL l):=by
 refine Tm ?_;unfold gk;refine IT (DB (by omega) hN) ?_;unfold jL;refine SP (λh=>Sh ?_)<|λh=>?_
 ·rw[aC (by simpa using h)]
 ·have h0:my l=0:=by simpa using h
  rw[aD (by simpa using h0)];obtain⟨hlen,hok⟩:=Dq h0;have hbf:∀a b:aI,((decide (a.Y0<b.Y0)||((a.Y0==b.Y0)&&decide (a.X0<b.X0)))=true)↔¬(b.Y0<a.Y0\/(b.Y0=a.Y0/\b.X0<=a.X0)):=λa b=>by
   rw[dU,bX,bJ,bJ,beq_iff_eq];omega
  refine Sr (Tw (Go:=λ_=>N5 l) (Rt:=λr=>r=8/\¬N5 l) (λs=>∃k:Nat,s=((k:Nat):Int)/\1<=k/\∀(j:Nat)a b,j+1<k->l[j]? =some a->l[j+1]? =some b->¬(b.Y0<a.Y0\/(b.Y0=a.Y0/\b.X0<=a.X0))) (λs=>l.length - s.toNat) ?_ ⟨1,rfl,bZ _,λj a b hj=>by omega⟩ (by simp;omega)) ?_
  ·rintro s⟨k,rfl,hk,hI⟩;refine SP (λh=>?_)<|λh=>SU λj a b ha hb=>hI j a b ?_ ha hb
   ·have hk2:k<l.length:=by have:=of_decide_eq_true h;omega
    rw[jg hk (by omega)];have hx:l[k - 1]? =some (l[k - 1]'(by omega)):=aO _;have hy:l[k]? =some l[k]:=aO hk2;refine Sy hx<|Sy hy ?_
    unfold i9;rw[aB];refine SP (λhb=>Tn ⟨rfl,λhu=>?_⟩)<|λhb=>SJ ⟨⟨k+1,by rw[bK (by omega)],by omega,λj a b hj ha hb'=>?_⟩,by rw[bK (by omega)];simp only[cA];omega⟩
    ·have:=(hbf _ _).2<|hu (k - 1) _ _ hx (by rw[show k - 1+1=k by omega];exact hy)
     rw[this]at hb;cases hb
    ·by_cases e:j+1<k
     ·exact hI j a b e ha hb'
     ·have:j+1=k:=by omega
      have h1:l[k - 1]? =some a:=by rw[show k - 1=j by omega];exact ha
      have h2:l[k]? =some b:=by rw[<-this];exact hb'
      rw[hx]at h1;rw[hy]at h2;injection h1 with h1;injection h2 with h2
      rw[<-h1,<-h2];refine(hbf _ _).1 ?_;rw[Bool.not_eq_false']at hb;exact hb
   ·have:=of_decide_eq_false h;have:=(bD.1 hb).1;omega
  ·rintro o ho;refine SV ho (λs hu=>?_)<|λr hr=>Sh (by rw[hr.1,aD hr.2])
   rw[aC hu];obtain⟨s,_,hs⟩:=qX (N:=N) (l:=l) (by omega) hok (by omega);obtain⟨z1,z2,z3⟩:=hs.Ha;have z4:2*l.length*(2*l.length)<=4000*4000:=Nat.mul_le_mul (by omega) (by omega);refine IT (wz hs.can hs.cover (by omega) (λr hr=>(hok r hr).x) (by omega) hN)<|IT (FL (by omega) hN) ?_
   have hiff:=Ip hs;refine SP (λh=>Sh ?_)<|λh=>Sh ?_
   ·have h:¬l=aU s:=by simpa using h
    rw[aD<|λh'=>h (hiff.1 h').symm]
   ·have h:l=aU s:=by simpa using h
    rw[aC<|hiff.2 h.symm]
end
theorem DC(n:Nat)(g:Nat->Nat):((List.range<|n+1).map g).sum=((List.range n).map g).sum+g n:=by
 rw[List.range_succ,eG,List.sum_append];simp
def Ql(r:aI)(x y:Int):Bool:=(decide (r.X0<=x)&&decide (x<r.X1))&&(decide (r.Y0<=y)&&decide (y<r.Y1))
def Qa(a b:aI):Prop:=∀x y,¬(Ql a x y=true/\Ql b x y=true)
theorem Mv{r:aI}{x y:Int}:Ql r x y=true↔(r.X0<=x/\x<r.X1)/\r.Y0<=y/\y<r.Y1:=by unfold Ql;simp
theorem AN:∀{xs:List Int},kf xs->(Db xs).Pairwise (λp q=>p.2<q.1)
 | [],_=>kN
 | [a],_=>kN
 |a::b::l,h=>by
  unfold Db;rw[py];exact⟨λq hq=>h.tail.head q.1 (FE q hq).1,AN h.tail.tail⟩
def tL(a b:aI):Prop:=a.Y1<=b.Y0\/(a.Y0=b.Y0/\a.Y1=b.Y1/\a.X1<b.X0)
theorem tL.apart{a b:aI}(h:tL a b):Qa a b:=λx y⟨h1,h2⟩=>by
 rw[Mv]at h1 h2
 rcases h with h|h <;> omega
theorem sS:∀{s:List aA},fJ (s.map cJ)->(aU s).Pairwise tL
 | [],_=>kN
 |b::s,h=>by
  rw[oj,oz];refine⟨?_,sS h.tail,λx hx y hy=>?_⟩
  ·unfold oh;rw[List.pairwise_map];exact List.Pairwise.imp (λhpq=> .inr ⟨rfl,rfl,hpq⟩)<|AN (h.each (cJ b) (by simp)).2.2.1
  ·unfold oh at hx;obtain⟨p,_,rfl⟩:=dH.1 hx;obtain⟨c,hc,q,_,rfl⟩:=s8 hy;exact .inl<|h.C6 (cJ c)<|dH.2 ⟨c,hc,rfl⟩
theorem vH{s:List aA}(h:fJ (s.map cJ)):∀r∈aU s,r.X0<r.X1/\r.Y0<r.Y1:=λr hr=>by
 obtain⟨b,hb,p,hp,rfl⟩:=s8 hr;have hc:=h.each (cJ b)<|dH.2 ⟨b,hb,rfl⟩
 exact⟨H7 hc.2.2.1 p hp,hc.1⟩
theorem Hp{s:List aA}(h:fJ (s.map cJ)):(aU s).Nodup:=by
 have h1:=sS h;have h2:=vH h;refine List.Pairwise.imp_of_mem (λ{a b}ha hb hab e=>?_) h1;subst e;have:=h2 a ha
 rcases hab with h|h <;> omega
def r7(s:List Bd):Nat:=(s.map<|λb=>b.xs.length / 2).sum
theorem xT(s t:List Bd):r7 (s++t)=r7 s+r7 t:=by unfold r7;rw[eG,List.sum_append]
theorem Kb(s:List Bd)(b:Bd):r7 (kC s b)<=r7 s+b.xs.length / 2:=by
 unfold kC;split
 ·omega
 ·split
  ·rename_i c hc;have hsp:=tC hc;have e:r7 s=r7 s.dropLast+c.xs.length / 2:=by
    conv=>lhs;rw[hsp,xT]
    simp[r7]
   split
   ·rw[xT,e];simp[r7]
   ·rw[xT];simp[r7]
  ·simp[r7]
structure RY (t:List Bd):Prop where
 each:∀b∈t,b.y0<b.y1/\kf b.xs/\b.xs.length % 2=0
 ord:t.Pairwise (λb c=>b.y1<=c.y0)
theorem fold_push:∀(t out:List Bd),RY t->fJ out->(∀c∈out,∀b∈t,c.y1<=b.y0)->fJ (t.foldl kC out)/\r7 (t.foldl kC out)<=r7 out+r7 t/\
  ∀y,rowAt (t.foldl kC out) y=if(∃b∈t,b.y0<=y/\y<b.y1)then rowAt t y else rowAt out y
 | [],out,_,hc,_=>⟨hc,by simp[r7],λy=>by simp⟩
 |b::t,out,hl,hc,ho=>by
  have hb:=hl.each b (by simp);have hord:=py.1 hl.ord;have ho1:∀c∈out,c.y1<=b.y0:=λc h=>ho c h b (by simp);have h1:=yf hc ho1 hb.2.1 hb.2.2;have htop:=yg ho1 (show b.y0<=b.y1 by omega);obtain⟨f1,f2,f3⟩:=fold_push t (kC out b) ⟨λc hcm=>hl.each c<|iT _ hcm,hord.2⟩ h1 (λc hcm d hd=>by have:=htop c hcm;have:=hord.1 d hd;omega);refine⟨f1,?_,λy=>?_⟩
  ·have:=Kb out b;have e:r7 (b::t)=b.xs.length / 2+r7 t:=by simp[r7]
   rw[List.foldl_cons,e];omega
  ·rw[List.foldl_cons,f3 y,ye ho1 (λc hcm=>(hc.each c hcm).1)<|λh=>absurd h (by omega),oe]
   by_cases hy:b.y0<=y/\y<b.y1
   ·have hn:¬∃c∈t,c.y0<=y/\y<c.y1:=λ⟨c,hcm,h⟩=>by have:=hord.1 c hcm;omega
    rw[aD hn,aC hy,aC ⟨b,by simp,hy⟩,aC hy]
   ·rw[aD hy]
    by_cases h:∃c∈t,c.y0<=y/\y<c.y1
    ·obtain⟨c,hcm,h⟩:=h;rw[aC ⟨c,hcm,h⟩,aC ⟨c,iT _ hcm,h⟩,aD hy]
    ·rw[aD h,aD hy,aD (show ¬∃c∈b::t,c.y0<=y/\y<c.y1 from λ⟨c,hcm,h2⟩=>by
      rcases dI.1 hcm with rfl|hcm
      ·exact hy h2
      ·exact h ⟨c,hcm,h2⟩)]
noncomputable def su(C:List aI)(b:aA):Bd:=⟨b.Y0,b.Y1,dR<|(Db b.Xs).filter<|λp=>decide<|(⟨p.1,b.Y0,p.2,b.Y1⟩:aI)∈C⟩
theorem Kc{l m:List (Int×Int)}(h:l.Sublist m):(dR l).Sublist (dR m):=by
 induction h with
 |slnil=>exact List.Sublist.refl _
 |cons a _ ih=>rw[j4];exact(ih.cons _).cons _
 |cons_cons a _ ih=>rw[j4,j4];exact(ih.cons_cons _).cons_cons _
theorem DD(l:List (Int×Int)):(dR l).length % 2=0/\(dR l).length / 2=l.length:=by rw[kZ];omega
theorem EY{s p:List aA}{C:List aI}(hs:fJ (s.map cJ))(hp:fJ (p.map cJ))(hC:∀r∈C,r∈aU s)(hcov:∀x y,w9 (p.map cJ) x y=uL C x y):(aU p).length<=C.length:=by
 have hinc:∀b∈s,kf (su C b).xs:=λb hb=>by
  have h1:=Jc hs b hb;have h2:=Kc<|List.filter_sublist (l:=Db b.Xs) (p:=λp=>decide<|(⟨p.1,b.Y0,p.2,b.Y1⟩:aI)∈C)
  rw[Aw<|vA hs b hb]at h2;exact List.Pairwise.sublist h2 h1
 have hlow:RY (s.map<|su C):=by
  refine⟨λb hb=>?_,?_⟩
  ·obtain⟨c,hc,rfl⟩:=dH.1 hb;exact⟨(hs.each (cJ c)<|dH.2 ⟨c,hc,rfl⟩).1,hinc c hc,(DD _).1⟩
  ·have:=hs.ord;rw[List.pairwise_map]at this ⊢;exact List.Pairwise.imp (λh=>h.1) this
 obtain⟨f1,f2,f3⟩:=fold_push (s.map<|su C) [] hlow fJ.nil (λc hc=>by cases hc);have hrow:∀{t:List aA},(∀b∈t,b∈s)->∀x y,qG (rowAt (t.map<|su C) y) x=true->uL C x y=true:=by
  intro t ht x y h
  induction t with
  |nil=>cases h
  |cons b t ih=>
   rw[eL,oe]at h;split at h
   ·rename_i hy;have hbm:=ht b (by simp);have h1:=hinc b hbm;have h:qG (dR<|(Db b.Xs).filter<|λp=>decide<|(⟨p.1,b.Y0,p.2,b.Y1⟩:aI)∈C) x=true:=h;rw[vt h1,vr]at h;obtain⟨q,hq,h2⟩:=h;have hq:=j7.1 hq;exact jG.2 ⟨_,of_decide_eq_true hq.2,h2,hy⟩
   ·exact ih (λc hc=>ht c<|iT _ hc) h
 have hrow2:∀x y,uL C x y=true->qG (rowAt (s.map<|su C) y) x=true:=by
  intro x y h;obtain⟨r,hr,h1,h2⟩:=jG.1 h;obtain⟨b,hb,q,hq,rfl⟩:=s8<|hC r hr
  dsimp only at h1 h2;have key:∀{t:List aA},(∀c∈t,c∈s)->fJ (t.map cJ)->b∈t->rowAt (t.map<|su C) y=(su C b).xs:=by
   intro t ht hc hbt
   induction t with
   |nil=>cases hbt
   |cons c t ih=>
    rw[eL,oe]
    by_cases hy:c.Y0<=y/\y<c.Y1
    ·rw[aC (show(su C c).y0<=y/\y<(su C c).y1 from hy)]
     rcases dI.1 hbt with rfl|hbt
     ·rfl
     ·have:=hc.C6 (cJ b)<|dH.2 ⟨b,hbt,rfl⟩
      have e1:(cJ c).y1=c.Y1:=rfl;have e2:(cJ b).y0=b.Y0:=rfl;omega
    ·rw[aD (show ¬((su C c).y0<=y/\y<(su C c).y1)from hy)]
     rcases dI.1 hbt with rfl|hbt
     ·exact absurd h2 hy
     ·exact ih (λd hd=>ht d<|iT _ hd) hc.tail hbt
  rw[key (λc hc=>hc) hs hb];have h1':=hinc b hb;show qG (dR<|(Db b.Xs).filter<|λp=>decide<|(⟨p.1,b.Y0,p.2,b.Y1⟩:aI)∈C) x=true;rw[vt h1',vr];exact⟨q,j7.2 ⟨hq,bL hr⟩,h1⟩
 have hsame:p.map cJ=(s.map<|su C).foldl kC []:=wm hp f1 λx y=>by
  rw[hcov,dY];have e:rowAt ((s.map<|su C).foldl kC []) y=rowAt (s.map<|su C) y:=by
   rw[f3]
   by_cases h:∃b∈s.map (su C),b.y0<=y/\y<b.y1
   ·rw[aC h]
   ·rw[aD h]
    exact(mN λb hb=>by
     have:¬(b.y0<=y/\y<b.y1):=λh2=>h ⟨b,hb,h2⟩
     omega).symm
  unfold w9;rw[e];exact⟨hrow2 x y,hrow (λb hb=>hb) x y⟩
 have hc1:(aU p).length=r7 (p.map cJ):=by
  have:∀p:List aA,(aU p).length=r7 (p.map cJ):=λp=>by
   induction p with
   |nil=>rfl
   |cons b p ih=>rw[oj,dK,oS,ih];unfold r7;rw[eL,eL,List.sum_cons];rfl
  exact this p
 have hc2:∀s:List aA,r7 (s.map<|su C)=((aU s).filter<|λr=>decide<|r∈C).length:=λs=>by
  induction s with
  |nil=>rfl
  |cons b s ih=>
   rw[oj,lM,dK,<-ih];unfold r7;rw[eL,eL,List.sum_cons];congr 1;show(dR _).length / 2=_;rw[(DD _).2];unfold oh;rw[List.filter_map,dA];rfl
 have hc3:((aU s).filter<|λr=>decide<|r∈C).length<=C.length:=gA (List.Nodup.sublist List.filter_sublist<|Hp hs) λr hr=>of_decide_eq_true (j7.1 hr).2;rw[hc1,hsame];have e0:r7 ([]:List Bd)=0:=rfl;have:=hc2 s;omega
section
variable {N:Nat}
theorem yT{all:List aI}(w:aI->Nat):∀(c:List Nat),((c.filterMap<|λi=>all[i]?).map w).sum=(c.map<|λi=>(all[i]?).elim 0 w).sum
 | []=>rfl
 |i::c=>by
  rw[eL,List.sum_cons,<-yT w c]
  cases h:all[i]? with
  |none=>rw[List.filterMap_cons_none (f:=λi=>all[i]?) h];simp
  |some x=>rw[List.filterMap_cons_some (f:=λi=>all[i]?) h,eL,List.sum_cons];rfl
theorem Mw{all:List aI}{u:Nat->Nat}(h:∀i,i<all.length->u i∈bU all.length u)(w:aI->Nat):((bU all.length u).map<|λk=>((o5 all all.length u k).map w).sum).sum=(all.map w).sum:=by
 have e:(λk=>((o5 all all.length u k).map w).sum)=λk=>(((List.range all.length).filter<|λx=>decide<|u x=k).map<|λi=>(all[i]?).elim 0 w).sum:=by
  funext k;unfold o5;rw[yT];rfl
 rw[e,Hh (oq _ _) u _<|λx hx=>h x<|oy.1 hx];have:∀m,m<=all.length->((List.range m).map<|λi=>(all[i]?).elim 0 w).sum=((all.take m).map w).sum:=by
  intro m
  induction m with
  |zero=>intro _;rfl
  |succ m ih=>
   intro hm;rw[DC,ih (by omega),eI (by omega),eG,List.sum_append,aO (by omega)];simp
 rw[this _<|bZ _,eK]
theorem DE:∀{l m:List Nat},l.length=m.length->(∀(j x y:Nat),l[j]? =some x->m[j]? =some y->x<=y)->l.sum<=m.sum
 | [],[],_,_=>bZ _
 | [],_::_,h,_=>by simp at h
 |_::_,[],h,_=>by simp at h
 |a::l,b::m,h,hle=>by
  have h1:=hle 0 a b rfl rfl;have h2:=DE (l:=l) (m:=m) (by simpa using h) λj x y hx hy=>hle (j+1) x y (by simpa using hx) (by simpa using hy);rw[List.sum_cons,List.sum_cons];omega
theorem Jm{r hs:List aI}{s:List aA}(h1:∀x∈r,ga x=true)(h2:∀x∈hs,ga x=true)(hc:fJ (s.map cJ))(hl:zC (vv r++vv hs) (kb r++kb hs) (s.map cJ)):∀q∈aU s,ga q=true/\q.X0<q.X1/\q.Y0<q.Y1:=by
 intro q hq;have hp:=vH hc q hq;obtain⟨b,hb,p,hpm,rfl⟩:=s8 hq;have hll:=hl (cJ b)<|dH.2 ⟨b,hb,rfl⟩
 have hm:=FE p hpm;have bx:∀c∈vv r++vv hs,-1000000<=c/\c<=1000000:=λc hcm=>by
  rcases cR.1 hcm with h|h
  ·obtain⟨x,hx,h⟩:=vx.1 h;have:=ou<|h1 x hx
   rcases h with rfl|rfl <;> omega
  ·obtain⟨x,hx,h⟩:=vx.1 h;have:=ou<|h2 x hx
   rcases h with rfl|rfl <;> omega
 have by':∀c∈kb r++kb hs,-1000000<=c/\c<=1000000:=λc hcm=>by
  rcases cR.1 hcm with h|h
  ·obtain⟨x,hx,h⟩:=mw.1 h;have:=ou<|h1 x hx
   rcases h with rfl|rfl <;> omega
  ·obtain⟨x,hx,h⟩:=mw.1 h;have:=ou<|h2 x hx
   rcases h with rfl|rfl <;> omega
 have g1:=bx _<|hll.2.2 p.1 hm.1
 have g2:=bx _<|hll.2.2 p.2 hm.2
 have g3:=by' _ hll.1
 have g4:=by' _ hll.2.1
 exact⟨Dn ⟨g1,g3,g2,g4⟩,hp⟩
structure r8 (r hs:List aI) (s:List aA) (u:Nat->Nat) (ps:List (List aA)):Prop where
 r1:∀x∈r,ga x=true
 r2:∀x∈hs,ga x=true
 k1:∀x∈r,DV x
 k2:∀x∈hs,DV x
 dr:wt r hs s
 pt:ug s u ps
 xd:(aU s).length<=2000
theorem r8.part{r hs:List aI}{s:List aA}{u:Nat->Nat}{ps:List (List aA)}(h:r8 r hs s u ps){p:List aA}(hp:p∈ps):fJ (p.map cJ)/\(aU p).length<=2000/\∀q∈aU p,ga q=true/\q.X0<q.X1/\q.Y0<q.Y1:=by
 obtain⟨sx,sy⟩:=h.dr.small h.k1 h.k2;obtain⟨j,k,g1,g2,g3,g4⟩:=Dt h.pt h.dr.can h.dr.lim sx sy hp
 have:=EY h.dr.can g3.can (λx hx=>by
  obtain⟨i,_,_,hi⟩:=m8.1 hx
  exact fQ hi) g3.cover
 have h2:=Dj (aU s) (aU s).length u k;have:=h.xd;exact⟨g3.can,by omega,Jm h.r1 h.r2 g3.can g4⟩
theorem r8.bU{r hs:List aI}{s:List aA}{u:Nat->Nat}{ps:List (List aA)}(h:r8 r hs s u ps):∀i,i<(aU s).length->u i∈Gk.bU (aU s).length u:=λi hi=>j5.2 ⟨by have:=h.pt.join.le i hi;omega,h.pt.join.rr i hi⟩
theorem r8.total{r hs:List aI}{s:List aA}{u:Nat->Nat}{ps:List (List aA)}(h:r8 r hs s u ps):(ps.map<|λp=>(aU p).length).sum<=(aU s).length:=by
 have h1:=Mw h.bU<|λ_=>1
 have one:∀l:List aI,(l.map<|λ_=>1).sum=l.length:=λl=>by
  induction l with
  |nil=>rfl
  |cons x l ih=>simp only[eL,List.sum_cons,ih,dX];omega
 simp only[one]at h1;rw[<-h1];refine DE (by simp[h.pt.len]) λj x y hx hy=>?_;rw[fL,tX]at hx hy;obtain⟨p,hp,rfl⟩:=hx;obtain⟨k,hk,rfl⟩:=hy;have hs:=h.pt.each j k p hk hp
 exact EY h.dr.can hs.can (λx hx=>by
  obtain⟨i,_,_,hi⟩:=m8.1 hx
  exact fQ hi) hs.cover
theorem B4{ps:List (List aA)}{x y:Int}:uL (ps.flatMap aU) x y=true↔∃p∈ps,uL (aU p) x y=true:=by
 rw[jG];constructor
 ·rintro⟨r,hr,h⟩;obtain⟨p,hp,hrp⟩:=List.mem_flatMap.1 hr;exact⟨p,hp,jG.2 ⟨r,hrp,h⟩⟩
 ·rintro⟨p,hp,h⟩;obtain⟨r,hr,h⟩:=jG.1 h;exact⟨r,List.mem_flatMap.2 ⟨p,hp,hr⟩,h⟩
theorem r8.cover{r hs:List aI}{s:List aA}{u:Nat->Nat}{ps:List (List aA)}(h:r8 r hs s u ps)(x y:Int):uL (ps.flatMap aU) x y=w9 (s.map cJ) x y:=by
 rw[<-qY h.dr.can,dY,B4];constructor
 ·rintro⟨p,hp,hc⟩;obtain⟨j,hj⟩:=dZ hp;have hjl:=(bD.1 hj).1;have hk:(Gk.bU (aU s).length u)[j]? =some ((Gk.bU (aU s).length u)[j]'(by rw[<-h.pt.len];exact hjl)):=aO _;have hs:=h.pt.each j _ _ hk hj;rw[qY hs.can,hs.cover]at hc;obtain⟨q,hq,h2⟩:=jG.1 hc;obtain⟨i,_,_,hi⟩:=m8.1 hq;exact jG.2 ⟨q,fQ hi,h2⟩
 ·intro hc;obtain⟨q,hq,h2⟩:=jG.1 hc;obtain⟨i,hi⟩:=dZ hq;have hil:=(bD.1 hi).1;obtain⟨j,hj⟩:=dZ<|h.bU i hil
  have hjl:j<ps.length:=by rw[h.pt.len];exact(bD.1 hj).1
  have hs:=h.pt.each j _ _ hj<|aO hjl
  refine⟨_,cL hjl,?_⟩;rw[qY hs.can,hs.cover];exact jG.2 ⟨q,m8.2 ⟨i,hil,rfl,hi⟩,h2⟩
section
variable {a:jr}{kS:List (List aA)}{dS:List (List (List aA))}{r:Nat->Nat}{gs:List cK}{ofP ofB l9:List Int}{lZ:List dP}
theorem B5(b:l8 a kS dS r gs ofP ofB l9 lZ){i:Nat}(hi:i<a.aJ.length):∃s ps u,kS[i]? =some s/\dS[i]? =some ps/\r8 a.aJ[i] (kR a.aQ ((i:Nat):Int)) s u ps:=by
 have hd:kS[i]? =some (kS[i]'(by rw[b.dr.len];exact hi)):=aO _;have hp:dS[i]? =some (dS[i]'(by rw[b.dr.Bq];exact hi)):=aO _;have hdr:=b.dr.dr i _ _ hi (aO hi) hd;obtain⟨u,hu⟩:=b.dr.pt i _ _ hi hd hp;have hreg:=rI.1<|b.xR.RN _<|cL hi
 exact⟨_,_,u,hd,hp,λx hx=>((rf.1 hreg.1).2 x hx).1,λx hx=>(tG b.xR.gb _ x hx).2,(Dq hreg.1).2,λx hx=>(tG b.xR.gb _ x hx).1,hdr,hu,b.xd.1 _<|fQ hd⟩
end
end
def DF(a b:aI):Prop:=(0<min a.X1 b.X1 - max a.X0 b.X0/\0<=min a.Y1 b.Y1 - max a.Y0 b.Y0)\/(0<=min a.X1 b.X1 - max a.X0 b.X0/\0<min a.Y1 b.Y1 - max a.Y0 b.Y0)
theorem Kd{all:List aI}(hB:all.Pairwise tL)(hp:∀r∈all,r.X0<r.X1/\r.Y0<r.Y1){i j:Nat}{a c:aI}(ha:all[i]? =some a)(hc:all[j]? =some c):DF a c↔i=j\/AX all i j\/AX all j i:=by
 have h1:AX all i j↔FH a c:=⟨λ⟨a',c',e1,e2,h⟩=>by rw[ha]at e1;rw[hc]at e2;injection e1 with e1;injection e2 with e2;rw[e1,e2];exact h,λh=>⟨a,c,ha,hc,h⟩⟩;have h2:AX all j i↔FH c a:=⟨λ⟨a',c',e1,e2,h⟩=>by rw[hc]at e1;rw[ha]at e2;injection e1 with e1;injection e2 with e2;rw[e1,e2];exact h,λh=>⟨c,a,hc,ha,h⟩⟩;have p1:=hp a<|fQ ha
 have p2:=hp c<|fQ hc
 rw[h1,h2];obtain⟨l1,e1⟩:=bD.1 ha;obtain⟨l2,e2⟩:=bD.1 hc;unfold DF FH
 rcases Nat.lt_trichotomy i j with h|h|h
 ·have:=nF.1 hB i j l1 l2 h;rw[e1,e2]at this;unfold tL at this
  rcases this with this|this
  ·constructor
   ·rintro(h3|h3)
    ·exact .inr<|.inl ⟨by omega,by omega,by omega⟩
    ·omega
   ·rintro(h3|h3|h3)
    ·omega
    ·left;omega
    ·omega
  ·constructor
   ·rintro(h3|h3) <;> omega
   ·rintro(h3|h3|h3) <;> omega
 ·subst h;rw[ha]at hc;injection hc with hc;subst hc
  exact⟨λ_=> .inl rfl,λ_=> .inl (by omega)⟩
 ·have:=nF.1 hB j i l2 l1 h;rw[e1,e2]at this;unfold tL at this
  rcases this with this|this
  ·constructor
   ·rintro(h3|h3)
    ·exact .inr<|.inr ⟨by omega,by omega,by omega⟩
    ·omega
   ·rintro(h3|h3|h3)
    ·omega
    ·omega
    ·left;omega
  ·constructor
   ·rintro(h3|h3) <;> omega
   ·rintro(h3|h3|h3) <;> omega
theorem BC{α:Type}{q q':List α}(h:q <+:q'){t:Nat}{x:α}(hx:q[t]? =some x):q'[t]? =some x:=by
 obtain⟨r,rfl⟩:=h;rw[gX (bD.1 hx).1];exact hx
def wA(f:Int->Int->Bool)(x y:Int):Prop:=f x y=true/\∀x' y',f x' y'=true->y<y'\/(y=y'/\x<=x')
theorem wA.unique{f:Int->Int->Bool}{x y x' y':Int}(h:wA f x y)(h':wA f x' y'):x=x'/\y=y':=by
 have h1:=h.2 _ _ h'.1;have h2:=h'.2 _ _ h.1;omega
theorem Iq{a:aI}{l:List aI}(hp:∀r∈a::l,r.X0<r.X1/\r.Y0<r.Y1)(hB:∀r∈l,tL a r):wA (uL<|a::l) a.X0 a.Y0:=by
 have pa:=hp a (by simp);refine⟨jG.2 ⟨a,by simp,by omega,by omega⟩,λx' y' h=>?_⟩;obtain⟨r,hr,hx,hy⟩:=jG.1 h
 rcases dI.1 hr with rfl|hr
 ·omega
 ·have:=hB r hr;unfold tL at this;omega
theorem Ir{s:List aA}(hc:fJ (s.map cJ))(hne:s≠[]):∃r t,aU s=r::t/\wA (λx y=>w9 (s.map cJ) x y) r.X0 r.Y0/\Jj s= ⟨r.X0,r.Y0⟩:=by
 cases s with
 |nil=>exact absurd rfl hne
 |cons b s=>
  have hx:=hc.each (cJ b) (by simp);have hxs:b.Xs≠[]:=hx.2.1;have he:b.Xs.length % 2=0:=hx.2.2.2;obtain⟨x0,x1,xs,e⟩:∃x0 x1 xs,b.Xs=x0::x1::xs:=by
   match hb:b.Xs with
   | []=>exact absurd hb hxs
   | [x0]=>rw[hb]at he;simp at he
   |x0::x1::xs=>exact⟨x0,x1,xs,rfl⟩
  have hr:aU (b::s)= ⟨x0,b.Y0,x1,b.Y1⟩::((Db xs).map (λp=>(⟨p.1,b.Y0,p.2,b.Y1⟩:aI))++aU s):=by
   rw[oj];unfold oh;rw[e];rfl
  have hB:=sS hc;have hpos:=vH hc;rw[hr]at hB hpos;refine⟨_,_,hr,?_,by unfold Jj;dsimp only;rw[e];rfl⟩;have:=Iq hpos (py.1 hB).1;rw[<-hr]at this;refine⟨?_,λx' y' h=>this.2 x' y' ?_⟩
  ·show w9 _ _ _=true;rw[<-qY hc];exact this.1
  ·rw[qY hc];exact h
theorem EZ{all:List aI}{u:Nat->Nat}(hB:all.Pairwise tL)(hp:∀r∈all,r.X0<r.X1/\r.Y0<r.Y1)(hJ:Joined all u){h:Nat}{a:aI}(ha:all[h]? =some a)(hu:u h=h):wA (uL<|o5 all all.length u h) a.X0 a.Y0:=by
 obtain⟨hl,e⟩:=bD.1 ha;have pa:=hp a<|fQ ha
 refine⟨jG.2 ⟨a,m8.2 ⟨h,hl,hu,ha⟩,by omega,by omega⟩,λx' y' hc=>?_⟩;obtain⟨r,hr,hx,hy⟩:=jG.1 hc;obtain⟨k,hk,huk,hrk⟩:=m8.1 hr;have hle:=hJ.le k hk
 by_cases ek:k=h
 ·subst ek;rw[ha]at hrk;injection hrk with hrk;subst hrk;omega
 ·obtain⟨hl2,e2⟩:=bD.1 hrk;have:=nF.1 hB h k hl hl2 (by omega);rw[e,e2]at this;unfold tL at this;omega
theorem wB{u:Nat->Nat}:∀(d i:Nat),∃t,bU (i+d) u=bU i u++t
 | 0,i=>⟨[],by simp⟩
 |d+1,i=>by
  obtain⟨t,ht⟩:=wB (u:=u) d i;rw[<-Nat.add_assoc,ij,ht];split
  ·exact⟨t++[i+d],by simp⟩
  ·exact⟨t,rfl⟩
theorem Lq{u:Nat->Nat}{i n:Nat}(hi:i<n)(hu:u i=i):(bU n u)[(bU i u).length]? =some i:=by
 obtain⟨t,ht⟩:=wB (u:=u) (n -(i+1))<|i+1
 rw[show i+1+(n -(i+1))=n by omega]at ht;rw[ht,ij,aC hu];simp
section
variable {N:Nat}
theorem Ke{a b:aI}(ha:DV a)(hb:DV b):jJ N a b=some (decide<|DF a b):=by
 have a1:=ha.s1;have a2:=ha.s2;have a3:=ha.s3;have a4:=ha.s4;have b1:=hb.s1;have b2:=hb.s2;have b3:=hb.s3;have b4:=hb.s4;unfold small at a1 a2 a3 a4 b1 b2 b3 b4;unfold jJ;rw[wx,wx,wy,wy,fw (x:=min a.X1 b.X1 - max a.X0 b.X0) (by omega) (by omega),fw (x:=min a.Y1 b.Y1 - max a.Y0 b.Y0) (by omega) (by omega)];congr 1;rw[dY];unfold DF;simp only[dU,bX,bJ,gt_iff_lt,ge_iff_le]
theorem insert_eq{l:List (List aI)}{r0:aI}{t:List aI}(hl:l.length<=1000000)(hN:4398046511104<=N)(h:∀x,l[l.length - 1]? =some x->∃x0 t',x=x0::t'/\¬(r0.Y0<x0.Y0\/(r0.Y0=x0.Y0/\r0.X0<x0.X0))):kl N l (r0::t)=some (l++[r0::t]):=by
 refine Tm ?_;unfold kl;refine Sr (Tw (Go:=λs=>s=((l.length:Nat):Int)) (Rt:=λ_=>False) (λs=>s=((l.length:Nat):Int)) (λs=>0) ?_ rfl (by omega)) ?_
 ·rintro s rfl
  by_cases h0:l.length=0
  ·rw[bG (by omega),aM,aB,aM];exact SU rfl
  ·rw[bL (by omega),aK,jg (by omega) (by omega)];have hx:l[l.length - 1]? =some (l[l.length - 1]'(by omega)):=aO _;obtain⟨x0,t',e,hn⟩:=h _ hx;have i1:idx (r0::t) 0=some r0:=rfl;have i2:idx (l[l.length - 1]'(by omega)) 0=some x0:=by rw[e];rfl
   rw[i1,aB,cI hx,aB,i2,aB];unfold i9
   rw[aB,aB,show((decide (r0.Y0<x0.Y0))||((r0.Y0==x0.Y0)&&(decide (r0.X0<x0.X0))))=false by
    rw[<-jy,dU,bX,bJ,bJ,beq_iff_eq];exact hn,aM]
   exact SU rfl
 intro o ho;refine SV ho ?_<|λr hr=>hr.elim
 rintro s rfl;refine IT (tk l l.length<|bZ _)<|Td ?_<|Td ?_<|IT (ry l l.length<|bZ _)<|Td ?_<|Sh ?_
 ·rw[eK];simp only[List.length_nil];omega
 ·rw[eK];simp only[List.length_nil,dK,dX];omega
 ·rw[eK,List.drop_length];simp only[List.length_nil,dK,dX];omega
 ·simp
structure BI (all:List aI) (u:Nat->Nat) (i:Nat) (q:List Nat) (done:List Bool) (own:List aI):Prop where
 len:done.length=all.length
 nd:q.Nodup
 lt:∀k∈q,k<all.length/\u k=i
 hd:i∈q
 dn:∀k,k<all.length->done[k]? =some (decide<|u k<i\/k∈q)
 ow:own.map some=q.map (λk=>all[k]?)
theorem BI.Qb{all:List aI}{u:Nat->Nat}{i:Nat}{q:List Nat}{done:List Bool}{own:List aI}(h:BI all u i q done own):own.length=q.length:=by
 have:=congrArg List.length h.ow;rwa[dA,dA]at this
theorem BI.xd{all:List aI}{u:Nat->Nat}{i:Nat}{q:List Nat}{done:List Bool}{own:List aI}(h:BI all u i q done own):q.length<=all.length:=by
 have:=gA h.nd (m:=List.range all.length) (λk hk=>by rw[oy];exact(h.lt k hk).1);rwa[List.length_range]at this
theorem BI.at_{all:List aI}{u:Nat->Nat}{i:Nat}{q:List Nat}{done:List Bool}{own:List aI}(h:BI all u i q done own){p k:Nat}(hk:q[p]? =some k):own[p]? =all[k]? :=by
 have e:=congrArg (λl=>l[p]?) h.ow;simp only[fL,hk,Option.map_some]at e
 cases ho:own[p]? with
 |none=>rw[ho]at e;cases e
 |some x=>rw[ho]at e;injection e
theorem BI.mem{all:List aI}{u:Nat->Nat}{i:Nat}{q:List Nat}{done:List Bool}{own:List aI}(h:BI all u i q done own){r:aI}:r∈own↔∃k∈q,all[k]? =some r:=by
 have:r∈own↔some r∈own.map some:=by simp
 rw[this,h.ow,dH]
theorem Hq{s:List aA}{u:Nat->Nat}{ps:List (List aA)}(hc:fJ (s.map cJ))(hP:ug s u ps)(hn:(aU s).length<=2000)(hok:∀r∈aU s,DV r)(hps:∀p∈ps,(aU p).length<=2000)(hN:4398046511104<=N):
  gu N (aU s)=some (ps.map aU):=by
 refine Tm ?_;have hB:=sS hc;have hpos:=vH hc;have hJ:=hP.join;have hlen:=hP.len;have heach:=hP.each;clear hP hc;generalize aU s=all at *;unfold gu;refine IT (pE false (by omega)) ?_;have hadj:∀a b,(AX all a b\/AX all b a)->u a=u b:=λa b h=>h.elim (λh=>hJ.co a b h)<|λh=>(hJ.co b a h).symm
 refine Sr (Tb (n:=all.length) (λst=>st.2.2) (λi st=>st.1.length=all.length/\(∀k,k<all.length->st.1[k]? =some (decide (u k<i)))/\st.2.1=(ps.take (bU i u).length).map aU) (Go:=λst=>st.2.1=ps.map aU) (Rt:=λ_=>False) ?_ ?_ (cZ _) rfl
  ⟨by simp,λk hk=>by simp[hk],by simp[bU]⟩ (by omega)) ?_
 ·rintro i⟨done,out,ii⟩hi e⟨hdl,hdn,hout⟩;dsimp only at e hdl hdn hout ⊢;subst e;rw[kd hi,aK];refine Sy (hdn i hi)<|SP (λhb=>?_)<|λhb=>?_
  ·have hlt:u i<i:=of_decide_eq_true hb;refine SJ ⟨bK (by omega),hdl,λk hk=>?_,?_⟩
   ·rw[hdn k hk];congr 1;rw[decide_eq_decide];have hne:u k≠i:=λe=>by have:=hJ.rr k hk;rw[e]at this;omega
    omega
   ·rw[ij,aD (by omega)];exact hout
  ·have hge:¬u i<i:=of_decide_eq_false hb;have hui:u i=i:=by have:=hJ.le i hi;omega
   have hx:all[i]? =some all[i]:=aO hi;refine Sy (hdn i hi)<|Sy hx ?_
   refine Sr (Tw (Go:=λst=>st.1.length=all.length/\(∀k,k<all.length->st.1[k]? =some (decide (u k<i+1)))/\(∀r,r∈st.2.1↔r∈o5 all all.length u i)/\st.2.1.length<=all.length) (Rt:=λ_=>False)
    (λst=>∃(q:List Nat)(t:Nat),st.2.2=((t:Nat):Int)/\t<=q.length/\BI all u i q st.1 st.2.1/\∀(p k j:Nat),p<t->q[p]? =some k->j<all.length->(AX all k j\/AX all j k)->j∈q)
    (λst=>all.length+1 - st.2.2.toNat) ?_ ⟨[i],0,rfl,by simp,?_,λp k j hp=>by omega⟩ (by simp;omega)) ?_
   ·rintro⟨d1,o1,t'⟩⟨q,t,e,ht,hI,hcl⟩;dsimp only at e hI ⊢;subst e;have hql:=hI.xd;have hol:=hI.Qb
    by_cases hlt:t<q.length
    ·rw[kd (by omega:t<o1.length),aK];have hqt:q[t]? =some q[t]:=aO hlt;have hkt:=hI.lt _<|cL hlt
     have hya:all[q[t]]? =some all[q[t]]:=aO hkt.1
     refine Sr (Tb (n:=all.length) (λst=>st.2.2) (λj st=>∃q',q <+:q'/\BI all u i q' st.1 st.2.1/\∀j',j'<j->(AX all q[t] j'\/AX all j' q[t])->j'∈q')
      (Go:=λst=>∃q',q <+:q'/\BI all u i q' st.1 st.2.1/\∀j',j'<all.length->(AX all q[t] j'\/AX all j' q[t])->j'∈q') (Rt:=λ_=>False) ?_ ?_ (cZ _) rfl ⟨q,List.prefix_refl _,hI,λj' hj=>by omega⟩ (by omega)) ?_
     ·rintro j⟨d2,o2,jj⟩hj e⟨q',hpre,hI',hc'⟩;dsimp only at e hI' ⊢;subst e;rw[kd hj,aK];have hq't:q'[t]? =some q[t]:=by rw[BC hpre hqt]
      have hy2:o2[t]? =some all[q[t]]:=by rw[hI'.at_ hq't];exact hya
      have hz:all[j]? =some all[j]:=aO hj;have htc:=Kd hB hpos hya hz;have hcond:((idx d2 ((j:Nat):Int)).bind λx1054=>bif(!x1054)then((idx o2 ((t:Nat):Int)).bind λx1056=>(idx all ((j:Nat):Int)).bind λx1058=>(jJ N x1056 x1058).bind λx1061=>some x1061)else some false)=some (!decide (u j<i\/j∈q')&&decide (DF all[q[t]] all[j])):=by
       rw[cI<|hI'.dn j hj,aB]
       cases decide (u j<i\/j∈q')with
       |true=>rfl
       |false=>rw[jo,aK,cI hy2,aB,cI hz,aB,Ke (hok _ (cL hkt.1)) (hok _ (cL hj)),aB,Bool.true_and]
      refine IT hcond ?_;refine Sr (P:=λst:List Bool×List aI=>∃q',q <+:q'/\BI all u i q' st.1 st.2/\∀j',j'<j+1->(AX all q[t] j'\/AX all j' q[t])->j'∈q') (SP (λhb=>?_)<|λhb=>?_)<|λst hst=>SJ ⟨bK (by omega),hst⟩
      ·rw[bX,Bool.not_eq_true',decide_eq_false_iff_not,bJ]at hb;have hju:u j=i:=by
        rcases htc.1 hb.2 with h|h
        ·rw[<-h];exact hkt.2
        ·rw[<-hadj _ _ h];exact hkt.2
       have hjq:j∉q':=λh=>hb.1<|.inr h
       have hol2:=hI'.Qb;have hql2:=hI'.xd;refine Sy (hI'.dn j hj)<|Sy hz<|Td (by simp only[dX,List.length_nil];omega)<|Sh ⟨q'++[j],hpre.trans<|List.prefix_append _ _,⟨?_,?_,?_,?_,?_,?_⟩,?_⟩
       ·rw[gY];exact hI'.len
       ·rw[List.nodup_append];exact⟨hI'.nd,by simp,λa ha b hb=>by simp at hb;subst hb;exact λe=>hjq<|e▸ha⟩
       ·intro k hk
        rcases cR.1 hk with hk|hk
        ·exact hI'.lt k hk
        ·simp at hk;subst hk;exact⟨hj,hju⟩
       ·exact List.mem_append_left _ hI'.hd
       ·intro k hk;rw[cA,fY]
        by_cases e:j=k
        ·subst e;rw[aC rfl,aC (by rw[hI'.len];exact hj)];congr 1;exact(bL<|.inr (by simp)).symm
        ·rw[aD e,hI'.dn k hk];congr 1;rw[decide_eq_decide,cR];simp only[kp];constructor
         ·exact λh=>h.elim .inl<|λh=> .inr<|.inl h
         ·exact λh=>h.elim .inl<|λh=>h.elim .inr<|λh=>absurd h.symm e
       ·rw[eG,eG,hI'.ow];simp[hz]
       ·intro j' hj' ha
        by_cases e:j'=j
        ·subst e;simp
        ·exact List.mem_append_left _<|hc' j' (by omega) ha
      ·refine Sh ⟨q',hpre,hI',λj' hj' ha=>?_⟩
       by_cases e:j'=j
       ·subst e;have hj2:u j'=i:=by rw[<-hadj _ _ ha];exact hkt.2
        rw[bL<|htc.2<|.inr ha,Bool.and_true,Bool.not_eq_false',bJ]at hb
        rcases hb with hb|hb
        ·omega
        ·exact hb
       ·exact hc' j' (by omega) ha
     ·rintro⟨d2,o2,jj⟩e hI2;dsimp only at e hI2 ⊢;subst e;rw[lW,aM];exact SU hI2
     intro o ho;refine SV ho ?_<|λr hr=>hr.elim
     rintro⟨d2,o2,jj⟩⟨q',hpre,hI',hc'⟩;dsimp only at hI' ⊢;refine SJ ⟨⟨q',t+1,bK (by omega),?_,hI',λp k j hp hk hj ha=>?_⟩,?_⟩
     ·have:=hpre.length_le;omega
     ·by_cases e:p=t
      ·subst e;rw[BC hpre hqt]at hk;injection hk with hk;subst hk
       exact hc' j hj ha
      ·have hpq:q[p]? =some (q[p]'(by omega)):=aO _;rw[BC hpre hpq]at hk;injection hk with hk;subst hk
       exact hpre.subset<|hcl p _ j (by omega) hpq hj ha
     ·rw[bK (by omega)];simp only[cA];omega
    ·rw[AK (by omega:o1.length<=t),aM];have htq:t=q.length:=by omega
     have hcls:∀k,k<all.length->(k∈q↔u k=i):=λk hk=>⟨λh=>(hI.lt k h).2,λh=>by
      have hstep:∀a b,AX all a b->(a∈q↔b∈q):=λa b hab=>by
       have hab':=hab;obtain⟨ra,rb,e1,e2,_⟩:=hab';have hla:=(bD.1 e1).1;have hlb:=(bD.1 e2).1;constructor
       ·intro h';obtain⟨p,hp⟩:=dZ h';exact hcl p a b (by rw[htq];exact(bD.1 hp).1) hp hlb<|.inl hab
       ·intro h';obtain⟨p,hp⟩:=dZ h';exact hcl p b a (by rw[htq];exact(bD.1 hp).1) hp hla<|.inr hab
      exact hJ.fi (λk=>k∈q) hstep i k hi hk (by rw[hui,h]) hI.hd⟩
     refine SU ⟨hI.len,λk hk=>?_,λr=>?_,by rw[hol];exact hql⟩
     ·rw[hI.dn k hk];congr 1;rw[decide_eq_decide,hcls k hk];omega
     ·rw[hI.mem,m8];constructor
      ·rintro⟨k,hk,h⟩;exact⟨k,(hI.lt k hk).1,(hI.lt k hk).2,h⟩
      ·rintro⟨k,hk,h1,h2⟩;exact⟨k,(hcls k hk).2 h1,h2⟩
   ·refine⟨by rw[gY];exact hdl,by simp,λk hk=>by simp at hk;subst hk;exact⟨hi,hui⟩,by simp,λk hk=>?_,by simp[hx]⟩;rw[cA,fY]
    by_cases e:i=k
    ·subst e;rw[aC rfl,aC (by rw[hdl];exact hi)];congr 1;exact(bL<|.inr (by simp)).symm
    ·rw[aD e,hdn k hk];congr 1;rw[decide_eq_decide];simp only[kp];omega
   intro o ho;refine SV ho ?_<|λr hr=>hr.elim
   rintro⟨d1,o1,t'⟩⟨g1,g2,g3,g4⟩;dsimp only at g1 g2 g3 g4 ⊢;have hh:=Lq hi hui;have hml:(bU i u).length<ps.length:=by rw[hlen];exact(bD.1 hh).1
   have hpp:ps[(bU i u).length]? =some ps[(bU i u).length]:=aO hml;have oA:=heach _ _ _ hh hpp;have hcov:∀x y,w9 (ps[(bU i u).length].map cJ) x y=uL o1 x y:=λx y=>by rw[oA.cover];exact(Mp g3 x y).symm
   have hpl:=hps _<|cL hml
   refine IT (wz oA.can hcov (by omega) (λr hr=>?_) (by omega) hN) ?_
   ·obtain⟨k,_,_,hk⟩:=m8.1<|(g3 r).1 hr
    exact(hpos r<|fQ hk).1
   have hfirst:∀(j h:Nat)p,(bU all.length u)[j]? =some h->ps[j]? =some p->∃r t a,aU p=r::t/\all[h]? =some a/\r.X0=a.X0/\r.Y0=a.Y0:=λj h p hj hp=>by
    have hs:=heach j h p hj hp;obtain⟨hhl,hhu⟩:=j5.1<|fQ hj
    have ha:all[h]? =some all[h]:=aO hhl;have hne:p≠[]:=λe=>by
     have hL:=(EZ hB hpos hJ ha hhu).1;rw[<-hs.cover,e]at hL
     cases hL
    obtain⟨r,t,e1,e2,_⟩:=Ir hs.can hne;have e2':wA (uL<|o5 all all.length u h) r.X0 r.Y0:=⟨by rw[<-hs.cover];exact e2.1,λx' y' hxy=>e2.2 x' y' (by simp only;rw[hs.cover];exact hxy)⟩;obtain⟨e3,e4⟩:=e2'.unique<|EZ hB hpos hJ ha hhu
    exact⟨r,t,all[h],e1,ha,e3,e4⟩
   obtain⟨r,t,a,e1,e2,e3,e4⟩:=hfirst _ _ _ hh hpp;have hheads:(bU i u).length<=i:=mx i u;rw[e1];refine IT (insert_eq (by rw[hout,dA,cQ];omega) hN<|λx hxl=>?_)<|SJ ⟨bK (by omega),g1,g2,?_⟩
   ·have hol:out.length=(bU i u).length:=by rw[hout,dA,cQ];omega
    have hpos2:0<(bU i u).length:=by
     have:=(bD.1 hxl).1;omega
    rw[hout,fL,dA,cQ,show min (bU i u).length ps.length=(bU i u).length by omega,List.getElem?_take_of_lt (by omega)]at hxl;have hp2:ps[(bU i u).length - 1]? =some (ps[(bU i u).length - 1]'(by omega)):=aO _;rw[hp2]at hxl;injection hxl with hxl
    have hh2:(bU i u)[(bU i u).length - 1]? =some ((bU i u)[(bU i u).length - 1]'(by omega)):=aO _;have hm2:=j5.1<|fQ hh2
    obtain⟨tl,htl⟩:=wB (u:=u) (all.length - i) i;rw[show i+(all.length - i)=all.length by omega]at htl;have hh3:(bU all.length u)[(bU i u).length - 1]? =some ((bU i u)[(bU i u).length - 1]'(by omega)):=by rw[htl,gX (by omega)];exact hh2
    obtain⟨r',t',a',f1,f2,f3,f4⟩:=hfirst _ _ _ hh3 hp2;refine⟨r',t',by rw[<-hxl];exact f1,?_⟩;obtain⟨l1,q1⟩:=bD.1 f2;obtain⟨l2,q2⟩:=bD.1 e2;have hbh:=nF.1 hB _ _ l1 l2 hm2.1;rw[q1,q2]at hbh;have p1:=hpos a'<|fQ f2
    unfold tL at hbh;rw[e3,e4,f3,f4];omega
   ·dsimp only;rw[ij,aC hui,dK,hout];simp only[dX,List.length_nil];rw[eI hml,eG,eL,List.map_nil,e1]
 ·rintro⟨done,out,ii⟩e⟨_,_,hout⟩;dsimp only at e hout ⊢;subst e;rw[lW,aM];refine SU ?_;dsimp only;rw[hout,mF (by rw[hlen];omega)]
 intro o ho;exact SV ho (λs hs=>Sh hs)<|λr hr=>hr.elim
end
section
variable {α β:Type}
theorem Lr{N:Nat}{l:List α}{s:β}{φ:α->β->Option Int}(c:α->Int)(hφ:∀x,φ x s=some (c x))(hs:∀(i j:Nat)(x y:α),i<j->l[i]? =some x->l[j]? =some y->0<=c x->0<c y)
  (hl:l.length<=1048576) (hN:4194304<=N):∃r,KX N l s φ=some r/\r.2=l.any (λx=>c x==0)/\(r.2=true->r.1=I0 l (λx=>c x==0)):=by
 show Ok (KX N l s φ) (λr=>r.2=l.any (λx=>c x==0)/\(r.2=true->r.1=I0 l (λx=>c x==0)));unfold KX
 refine Sr (Tw (Go:=λst:Int×Int=>∃a:Nat,st.1=((a:Nat):Int)/\a<=l.length/\(∀j x,j<a->l[j]? =some x->c x<0)/\(∀j x,a<=j->l[j]? =some x->0<=c x)) (Rt:=λ_=>True)
  (λst=>∃a b:Nat,st=(((a:Nat):Int),((b:Nat):Int))/\a<=b/\b<=l.length/\(∀j x,j<a->l[j]? =some x->c x<0)/\(∀j x,b<=j->l[j]? =some x->0<=c x))
  (λst=>(st.2 - st.1).toNat) ?_ ⟨0,l.length,rfl,by omega,bZ _,λj x hj=>by omega,λj x hj hx=>by have:=(bD.1 hx).1;omega⟩ (by simp only;omega)) ?_
 ·rintro st⟨a,b,rfl,hab,hb,h1,h2⟩;dsimp only
  by_cases hlt:a<b
  ·have hm:(a+b) / 2<l.length:=by omega
   have hx:l[(a+b) / 2]? =some l[(a+b) / 2]:=aO hm;rw[show decide (((a:Nat):Int)<((b:Nat):Int))=true by rw[bJ];omega,aK,JO hlt (by omega:b<=4611686018427387904)];refine Sy hx<|IT (hφ _) ?_
   by_cases hc:c l[(a+b) / 2]<0
   ·rw[bL hc,aK,aB];refine SJ ⟨⟨(a+b) / 2+1,b,?_,by omega,hb,λj x hj hx'=>?_,h2⟩,?_⟩
    ·rw[bK (by omega)]
    ·by_cases e:j=(a+b) / 2
     ·subst e;rw[hx]at hx';injection hx' with hx';rw[<-hx'];exact hc
     ·by_cases h0:c x<0
      ·exact h0
      ·have:=hs j _ x _ (by omega) hx' hx (by omega);omega
    ·rw[bK (by omega)];simp only;omega
   ·rw[bG hc,aM,aB];refine SJ ⟨⟨a,(a+b) / 2,rfl,by omega,by omega,h1,λj x hj hx'=>?_⟩,by simp only;omega⟩
    by_cases e:j=(a+b) / 2
    ·subst e;rw[hx]at hx';injection hx' with hx';rw[<-hx'];omega
    ·have:=hs _ j _ x (by omega) hx hx' (by omega);omega
  ·rw[show decide (((a:Nat):Int)<((b:Nat):Int))=false by rw[decide_eq_false_iff_not];omega,aM];exact SU ⟨a,rfl,by omega,h1,λj x hj hx=>h2 j x (by omega) hx⟩
 intro o ho;refine SV ho ?_<|λr hr=>r.elim
 rintro⟨st1,st2⟩⟨a,ha,hle,h1,h2⟩;dsimp only at ha ⊢;subst ha
 by_cases hlt:a<l.length
 ·have hx:l[a]? =some l[a]:=aO hlt;rw[show decide (((a:Nat):Int)<((l.length:Nat):Int))=true by rw[bJ];omega,aK,cI hx,aB,hφ,aB,aB];refine Sh ?_
  by_cases he:c l[a]=0
  ·have hb:(c l[a]==0)=true:=by rw[beq_iff_eq];exact he
   rw[hb];refine⟨(kq.2 ⟨_,cL hlt,hb⟩).symm,λ_=>?_⟩;rw[GV hx hb (λj y hj hy=>by have:=h1 j y hj hy;rw[beq_eq_false_iff_ne];omega)]
  ·have hb:(c l[a]==0)=false:=by rw[beq_eq_false_iff_ne];exact he
   rw[hb];refine⟨?_,λh=>by cases h⟩;symm;rw[List.any_eq_false];intro x hx';obtain⟨j,hj⟩:=dZ hx';rw[jy,beq_eq_false_iff_ne]
   by_cases hja:j<a
   ·have:=h1 j x hja hj;omega
   ·by_cases e:j=a
    ·subst e;rw[hx]at hj;injection hj with hj;rw[<-hj];exact he
    ·have h3:=h2 a _ (bZ _) hx;have:=hs a j _ x (by omega) hx hj h3;omega
 ·rw[show decide (((a:Nat):Int)<((l.length:Nat):Int))=false by rw[decide_eq_false_iff_not];omega,aM,aB];refine Sh ⟨?_,λh=>by cases h⟩;symm;rw[List.any_eq_false];intro x hx';obtain⟨j,hj⟩:=dZ hx';have:=(bD.1 hj).1;have:=h1 j x (by omega) hj;rw[jy,beq_eq_false_iff_ne];omega
end
def xU(p q:dO):Prop:=eQ.lt p.Part q.Part\/(p.Part=q.Part/\eQ.lt p.dO q.dO)
theorem Jn{p q:dO}(h1:p.Part=q.Part)(h2:p.dO=q.dO):p=q:=by cases p;cases q;simp at h1 h2;subst h1;subst h2;rfl
theorem xU.irrefl(p:dO):¬xU p p:=λh=>by
 rcases h with h|⟨_,h⟩
 ·exact eQ.lt_irrefl _ h
 ·exact eQ.lt_irrefl _ h
theorem xU.trans{p q r:dO}(h1:xU p q)(h2:xU q r):xU p r:=by
 rcases h1 with h1|⟨e1,h1⟩ <;> rcases h2 with h2|⟨e2,h2⟩
 ·exact .inl<|eQ.lt_trans h1 h2
 ·exact .inl (by rw[<-e2];exact h1)
 ·exact .inl (by rw[e1];exact h2)
 ·exact .inr ⟨e1.trans e2,eQ.lt_trans h1 h2⟩
theorem xU.total(p q:dO):xU p q\/p=q\/xU q p:=by
 rcases eQ.GS p.Part q.Part with h|h|h
 ·exact .inl<|.inl h
 ·rcases eQ.GS p.dO q.dO with h'|h'|h'
  ·exact .inl<|.inr ⟨h,h'⟩
  ·exact .inr<|.inl<|Jn h h'
  ·exact .inr<|.inr<|.inr ⟨h.symm,h'⟩
 ·exact .inr<|.inr<|.inl h
theorem xU.asymm{p q:dO}(h:xU p q):¬xU q p:=λh'=>xU.irrefl p<|h.trans h'
theorem xU.ne{p q:dO}(h:xU p q):p≠q:=λe=>by subst e;exact xU.irrefl _ h
theorem vI{a b:eQ}:Lib.compareBytes a.dN b.dN=0↔a=b:=⟨λh=>eQ.ext'<|(zf _ _).1 h,λh=>(zf _ _).2 (by rw[h])⟩
theorem mR{p q:dO}:gQ p q=0↔p=q:=by
 unfold gQ
 by_cases h:Lib.compareBytes p.Part.dN q.Part.dN=0
 ·rw[aD (by simpa using h),vI];exact⟨λh'=>Jn (vI.1 h) h',λh'=>by rw[h']⟩
 ·rw[aC h];exact⟨λh'=>absurd h' h,λh'=>absurd (vI.2 (by rw[h'])) h⟩
theorem zx{p q:dO}:gQ p q<0↔xU p q:=by
 unfold gQ xU
 by_cases h:Lib.compareBytes p.Part.dN q.Part.dN=0
 ·rw[aD (by simpa using h),ze];have e:=vI.1 h;constructor
  ·exact λh'=> .inr ⟨e,h'⟩
  ·rintro(h'|⟨_,h'⟩)
   ·rw[e]at h';exact absurd h'<|eQ.lt_irrefl _
   ·exact h'
 ·rw[aC h,ze];constructor
  ·exact λh'=> .inl h'
  ·rintro(h'|⟨e,_⟩)
   ·exact h'
   ·exact absurd (vI.2 e) h
theorem qZ{p q:dO}:0<gQ p q↔xU q p:=by
 constructor
 ·intro h
  rcases xU.total p q with h'|h'|h'
  ·have:=zx.2 h';omega
  ·have:=mR.2 h';omega
  ·exact h'
 ·intro h
  by_cases h1:gQ p q<0
  ·exact absurd (zx.1 h1) h.asymm
  ·by_cases h2:gQ p q=0
   ·exact absurd (mR.1 h2).symm h.ne
   ·omega
section
variable {N:Nat}
structure Is (a:jr) (x:cX):Prop where
 name:o6 x.Part=true/\isWord x.dO=true
 P8:0<=x.dJ/\x.dJ<((a.aJ.length:Nat):Int)
 at_:tF x.At=true
structure vJ (a:jr):Prop where
 xd:a.bM.length<=1000
 each:∀x∈a.bM,Is a x
 up:a.bM.Pairwise (λx y=>xU (kK x)<|kK y)
theorem FQ{a:jr}{k:Nat}{x:cX}(hx:a.bM[k]? =some x)(h:kD a k=none):Is a x/\∀y,0<k->a.bM[k - 1]? =some y->xU (kK y) (kK x):=by
 unfold kD at h;rw[hx,Option.bind_some]at h;split at h
 ·rename_i h1;split at h
  ·rename_i h2;split at h
   ·cases h
   ·rename_i h3;rw[bX]at h1 h2;unfold gE at h2;rw[bX,bJ,bJ]at h2;refine⟨⟨h1,⟨by omega,by omega⟩,h2.2⟩,λy hk hy=>?_⟩;have h4:¬gQ (kK x) (kK y)<=0:=λh4=>h3 ⟨hk,y,hy,h4⟩;exact qZ.1 (by omega)
  ·cases h
 ·cases h
theorem DG{a:jr}{k:Nat}{e:Int}(h:kD a k=some e):e≠0:=by
 unfold kD at h
 cases hx:a.bM[k]? with
 |none=>rw[hx]at h;cases h
 |some x=>
  rw[hx,Option.bind_some]at h
  repeat' split at h
  all_goals first|(injection h with h;omega)|cases h
theorem Kf{a:jr}(h:mz a=0):vJ a:=by
 unfold mz at h;split at h
 ·omega
 rename_i hl;have hn:qg a.bM.length (kD a)=none:=by
  cases hf:qg a.bM.length (kD a)with
  |none=>rfl
  |some e=>
   rw[hf]at h;obtain⟨k,_,hk,_⟩:=jY.1 hf;exact absurd h<|DG hk
 rw[kA]at hn;have hg:∀(k:Nat)x,a.bM[k]? =some x->Is a x/\∀y,0<k->a.bM[k - 1]? =some y->xU (kK y) (kK x):=λk x hx=>FQ hx<|hn k (bD.1 hx).1
 refine⟨by omega,λx hx=>?_,?_⟩
 ·obtain⟨k,hk⟩:=dZ hx;exact(hg k x hk).1
 ·have hstep:∀(n i:Nat)x y,a.bM[i]? =some x->a.bM[i+n+1]? =some y->xU (kK x) (kK y):=by
   intro n
   induction n with
   |zero=>intro i x y hx hy;exact(hg (i+1) y hy).2 x (by omega) hx
   |succ n ih=>
    intro i x y hx hy;have hz:i+n+1<a.bM.length:=by have:=(bD.1 hy).1;omega
    have h1:=ih i x _ hx<|aO hz
    exact h1.trans<|(hg (i+(n+1)+1) y hy).2 _ (by omega) (by rw[show i+(n+1)+1 - 1=i+n+1 by omega];exact aO hz)
  rw[nF];intro i j hi hj hij;exact hstep (j - i - 1) i _ _ (aO hi) (by rw[show i+(j - i - 1)+1=j by omega];exact aO hj)
theorem vJ.inj{a:jr}(h:vJ a){i j:Nat}{x y:cX}(hx:a.bM[i]? =some x)(hy:a.bM[j]? =some y)(e:kK x=kK y):i=j:=by
 obtain⟨h1,rfl⟩:=bD.1 hx;obtain⟨h2,rfl⟩:=bD.1 hy;have hp:=nF.1 h.up
 rcases Nat.lt_trichotomy i j with h3|h3|h3
 ·exact absurd e (hp i j h1 h2 h3).ne
 ·exact h3
 ·exact absurd e.symm (hp j i h2 h1 h3).ne
theorem Hr{l:List cX}{p:dO}(hu:l.Pairwise (λx y=>xU (kK x)<|kK y))(hl:l.length<=1048576)(hN:4194304<=N){φ:cX->dO->Option Int}(hφ:∀x,φ x p=some (gQ (kK x) p)):
  ∃r,KX N l p φ=some r/\(bif(!r.2)then some (-1)else some r.1)=some (I0 l<|λx=>decide<|kK x=p):=by
 obtain⟨r,h1,h2,h3⟩:=Lr (N:=N) (l:=l) (s:=p) (φ:=φ) (λx=>gQ (kK x) p) hφ (λi j x y hij hx hy hc=>by
  obtain⟨g1,rfl⟩:=bD.1 hx;obtain⟨g2,rfl⟩:=bD.1 hy;have hlt:=nF.1 hu i j g1 g2 hij;refine qZ.2 ?_
  by_cases h0:gQ (kK l[i]) p=0
  ·rw[<-mR.1 h0];exact hlt
  ·exact(qZ.1 (by omega)).trans hlt) hl hN
 have e:(λx=>gQ (kK x) p==0)=(λx=>decide<|kK x=p):=by
  funext x;rw[dY,beq_iff_eq,bJ,mR]
 rw[e]at h2 h3;refine⟨r,h1,?_⟩
 cases hr:r.2 with
 |true=>simp only[jz,aM];rw[h3 hr]
 |false=>
  simp only[jo,aK];rw[hr]at h2;rw[GU h2.symm]
def jI(a:jr)(p:dO):Int:=I0 a.bM<|λx=>decide<|kK x=p
theorem rL(a:jr)(p:dO):(jI a p = -1/\∀x∈a.bM,kK x≠p)\/∃(k:Nat)(x:cX),jI a p=((k:Nat):Int)/\a.bM[k]? =some x/\kK x=p:=by
 rcases yc a.bM (λx=>decide<|kK x=p)with⟨h1,h2⟩|⟨k,x,h1,h2,h3,_⟩
 ·exact .inl ⟨h1,λx hx=>of_decide_eq_false<|h2 x hx⟩
 ·exact .inr ⟨k,x,h1,h2,of_decide_eq_true h3⟩
end
theorem xV{α β:Type}{l:List α}{f:α->Option β}{k:Nat}{x:α}{c:β}(hx:l[k]? =some x)(hn:∀(j:Nat)y,j<k->l[j]? =some y->f y=none)(hc:f x=some c):l.findSome? f=some c:=by
 obtain⟨hk,rfl⟩:=bD.1 hx;rw[List.findSome?_eq_some_iff];refine⟨l.take k,l[k],l.drop<|k+1,?_,hc,λy hy=>?_⟩
 ·rw[List.getElem_cons_drop,List.take_append_drop]
 ·obtain⟨j,hj⟩:=dZ hy;have hjk:j<k:=by have:=(bD.1 hj).1;rw[cQ]at this;omega
  exact hn j y hjk (by rw[List.getElem?_take_of_lt hjk]at hj;exact hj)
theorem B6{α β:Type}{l:List α}{f:α->Option β}(h:∀(j:Nat)y,j<l.length->l[j]? =some y->f y=none):l.findSome? f=none:=by
 rw[List.findSome?_eq_none_iff];intro x hx;obtain⟨j,hj⟩:=dZ hx;exact h j x (bD.1 hj).1 hj
section
variable {N:Nat}
theorem Qc(c:UInt8):(bif(!(((decide (((c.toNat:Nat):Int)>=97)&&decide (((c.toNat:Nat):Int)<=122))||(decide (((c.toNat:Nat):Int)>=65)&&decide (((c.toNat:Nat):Int)<=90)))||(decide (((c.toNat:Nat):Int)>=48)&&decide (((c.toNat:Nat):Int)<=57))))then((iH N (⟨[95,43,45,35]⟩) ((c.toNat:Nat):Int)).bind λx50=>some<|decide<|x50<0)else some false)=some (G6 c):=by
 rw[wq,aB];unfold G6;generalize decide (Lib.indexByte (⟨[95,43,45,35]⟩:eQ).dN c<0)=p;have e:(!(((decide (((c.toNat:Nat):Int)>=97)&&decide (((c.toNat:Nat):Int)<=122))||(decide (((c.toNat:Nat):Int)>=65)&&decide (((c.toNat:Nat):Int)<=90)))||(decide (((c.toNat:Nat):Int)>=48)&&decide (((c.toNat:Nat):Int)<=57))))=(((decide (((c.toNat:Nat):Int)<65)||decide (((c.toNat:Nat):Int)>90))&&(decide (((c.toNat:Nat):Int)<97)||decide (((c.toNat:Nat):Int)>122)))&&(decide (((c.toNat:Nat):Int)<48)||decide (((c.toNat:Nat):Int)>57))):=by
  rw[dY];simp only[Bool.not_eq_true',Bool.or_eq_false_iff,Bool.and_eq_false_iff,decide_eq_false_iff_not,bX,dU,bJ];omega
 rw[e]
 cases(((decide (((c.toNat:Nat):Int)<65)||decide (((c.toNat:Nat):Int)>90))&&(decide (((c.toNat:Nat):Int)<97)||decide (((c.toNat:Nat):Int)>122)))&&(decide (((c.toNat:Nat):Int)<48)||decide (((c.toNat:Nat):Int)>57)))with
 |true=>rw[aK,Bool.true_and]
 |false=>rw[aM,Bool.false_and]
theorem B7{s:eQ}(h:s.dN.length<=1048576)(hN:4194304<=N):g8 N s=some (isWord s):=by
 refine Tm ?_;unfold g8 isWord;refine Sr (Tb (n:=s.dN.length) (λs=>s) (λk _=>∀(j:Nat)x,j<k->s.dN[j]? =some x->G6 x=false) (Go:=λ_=>s.dN.any G6=false) (Rt:=λr=>r=false/\s.dN.any G6=true) ?_ ?_ (cZ _) rfl (λj x hj=>by omega) (by omega)) ?_
 ·rintro k i hk e hI;subst e;rw[kd hk,aK];refine IT (GR s k hk)<|IT (Qc _)<|SP (λhb=>Tn ⟨rfl,kq.2 ⟨_,cL hk,hb⟩⟩)<|λhb=>SJ ⟨bK (by omega),λj x hj hx=>?_⟩
  by_cases e:j=k
  ·subst e;rw[aO hk]at hx;injection hx with hx;rw[<-hx];exact hb
  ·exact hI j x (by omega) hx
 ·rintro i e hI;subst e;rw[lW,aM];refine SU ?_;rw[List.any_eq_false];intro x hx;obtain⟨j,hj⟩:=dZ hx;rw[hI j x (bD.1 hj).1 hj];exact j8
 intro o ho;refine SV ho (λs' hs'=>?_)<|λr hr=>Sh (by rw[hr.1,hr.2];rfl)
 rw[hs'];show Ok ((some _).bind _) _;refine Sh ?_;rw[jo,Bool.true_and];congr 1 <;> · rw[decide_eq_decide];omega
theorem Hs{s:eQ}(h:s.dN.length<=1048576)(hN:4194304<=N):kj N s=some (o6 s):=by
 refine Tm ?_;unfold kj o6;refine IT (G8 47 h hN) ?_;have hsn:=ES s 47;refine Sr (Tb (n:=(pN s 47).length) (λs=>s) (λk _=>∀(j:Nat)x,j<k->(pN s 47)[j]? =some x->isWord x=true) (Go:=λ_=>(pN s 47).all isWord=true) (Rt:=λr=>r=false/\(pN s 47).all isWord=false) ?_ ?_ (cZ _) rfl (λj x hj=>by omega) (by omega)) ?_
 ·rintro k i hk e hI;subst e;rw[kd hk,aK];have hx:(pN s 47)[k]? =some (pN s 47)[k]:=aO hk;have hl:=ER<|cL hk
  refine Sy hx<|IT (B7 (by omega) hN)<|SP (λhb=>Tn ⟨rfl,?_⟩)<|λhb=>SJ ⟨bK (by omega),λj x hj hx'=>?_⟩
  ·rw[List.all_eq_false];exact⟨_,cL hk,by simpa using hb⟩
  ·by_cases e:j=k
   ·subst e;rw[hx]at hx';injection hx' with hx';rw[<-hx'];simpa using hb
   ·exact hI j x (by omega) hx'
 ·rintro i e hI;subst e;rw[lW,aM];refine SU ?_;rw[ma];intro x hx;obtain⟨j,hj⟩:=dZ hx;exact hI j x (bD.1 hj).1 hj
 intro o ho;refine SV ho (λs' hs'=>Sh ?_)<|λr hr=>Sh (by rw[hr.1,hr.2,Bool.and_false])
 rw[hs',Bool.and_true,decide_eq_decide];omega
theorem um(n lo hi:Int):eO N n lo hi=some (gE n lo hi):=rfl
theorem nv{b:bT}(h:sm b=true):cO N b=some (xc b):=ot (N:=N) h
theorem BD{b:bT}:iB N b=some (nL b).2:=by
 have e1:(bif(!(gE b.dW 1 10000))then some true else some (!(tF b.At)))=some (!sm b):=by unfold sm;cases gE b.dW 1 10000 <;> rfl
 have e2:∀n,cT N n=some (mE n):=λ_=>rfl;unfold iB nL;rw[um,aB,BW,aB,e1,aB]
 cases hf:sm b with
 |false=>rfl
 |true=>
  rw[jz,aM,nv hf,aB];simp only[e2,aB];unfold ga
  cases mE (xc b).X0 <;> cases mE (xc b).Y0 <;> cases mE (xc b).X1 <;> cases mE (xc b).Y1 <;> rfl
theorem N8{x y:cX}:(x.Part.nM y.Part||(x.Part.o8 y.Part&&(x.dO.nM y.dO||x.dO.o8 y.dO)))=decide (gQ (kK x) (kK y)<=0):=by
 have hle:gQ (kK x) (kK y)<=0↔xU (kK x) (kK y)\/kK x=kK y:=by
  rw[<-zx,<-mR];omega
 rw[dY,bJ,hle,dU,bX,dU,Ad,Ad];unfold xU kK;simp only[dO.mk.injEq];constructor
 ·rintro(h|⟨h1,h2|h2⟩)
  ·exact .inl<|.inl h
  ·exact .inl<|.inr ⟨h1,h2⟩
  ·exact .inr ⟨h1,h2⟩
 ·rintro((h|⟨h1,h2⟩)|⟨h1,h2⟩)
  ·exact .inl h
  ·exact .inr ⟨h1, .inl h2⟩
  ·exact .inr ⟨h1, .inr h2⟩
theorem DH{a:jr}(hc:a.aJ.length<=1073741824)(hl:a.bM.length<=1073741824){k:Nat}{x:cX}(hx:a.bM[k]? =some x)(hn:x.Part.dN.length<=1048576/\x.dO.dN.length<=1048576)(hN:4194304<=N):jc N a ((k:Nat):Int)=some ((kD a k).getD 0):=by
 have hk:=(bD.1 hx).1;have hw:wrap .i64 (((a.aJ.length:Nat):Int) - 1)=((a.aJ.length:Nat):Int) - 1:=fw (by omega) (by omega);unfold jc kD;rw[cI hx,aB,Hs hn.1 hN,aB,hx,Option.bind_some];have e1:(bif(!(o6 x.Part))then some true else((g8 N x.dO).bind λx44=>some<|!x44))=some (!(o6 x.Part&&isWord x.dO)):=by
  rw[B7 hn.2 hN,aB]
  cases o6 x.Part <;> rfl
 rw[e1,aB]
 cases h1:(o6 x.Part&&isWord x.dO)with
 |false=>rw[jo,aK,aD j8];rfl
 |true=>
  rw[jz,aM,aC rfl,hw,um,aB];have e2:(bif(!(gE x.dJ 0<|((a.aJ.length:Nat):Int) - 1))then some true else((gJ N x.At).bind λx57=>some<|!x57))=some (!(gE x.dJ 0 (((a.aJ.length:Nat):Int) - 1)&&tF x.At)):=by
   rw[BW,aB]
   cases gE x.dJ 0 (((a.aJ.length:Nat):Int) - 1) <;> rfl
  rw[e2,aB]
  cases h2:(gE x.dJ 0 (((a.aJ.length:Nat):Int) - 1)&&tF x.At)with
  |false=>rw[jo,aK,aD j8];rfl
  |true=>
   rw[jz,aM,aC rfl]
   by_cases h0:0<k
   ·have hy:a.bM[k - 1]? =some (a.bM[k - 1]'(by omega)):=aO _;rw[bL (by omega),aK,jg h0 (by omega),cI hy,aB,N8]
    by_cases h3:gQ (kK x) (kK<|a.bM[k - 1]'(by omega))<=0
    ·rw[bL h3,aK,aC ⟨h0,_,hy,h3⟩];rfl
    ·rw[bG h3,aM,aD (by rintro⟨_,y,hy',h4⟩;rw[hy]at hy';injection hy' with hy';subst hy';exact h3 h4)];rfl
   ·rw[bG (by omega),aM,aD<|λh=>h0 h.1];rfl
noncomputable def na(a:jr):Int:=if a.aJ.length=0 then 9 else if 16<a.aJ.length then 2 else match a.aJ.findSome? vC with
 |some e=>e
 |none=>if jL a.cN≠0 then jL a.cN else if 2000<a.cN.length+(a.aJ.map List.length).sum then 2 else if jH a≠0 then jH a else mz a
theorem Ht(a:jr):kM a=if na a≠0 then na a else if sq a then 12 else 0:=by
 unfold kM na J7 Ei
 by_cases h0:a.aJ.length=0
 ·rw[aC h0,aC h0,aC (by decide)]
 rw[aD h0,aD h0]
 by_cases h1:16<a.aJ.length
 ·rw[aC h1,aC h1,aC (by decide)]
 rw[aD h1,aD h1]
 cases hf:a.aJ.findSome? vC with
 |some e=>
  have he:e≠0:=by
   obtain⟨_,x,_,_,hx,_⟩:=List.findSome?_eq_some_iff.1 hf;unfold vC at hx;split at hx
   ·rename_i h;injection hx with hx;rw[<-hx];exact h
   ·cases hx
  dsimp only;rw[aC he]
 |none=>
  dsimp only
  by_cases h2:jL a.cN≠0
  ·rw[aC h2,aC h2,aC h2]
  rw[aD h2,aD h2]
  by_cases h3:2000<a.cN.length+(a.aJ.map List.length).sum
  ·rw[aC h3,aC h3,aC (by decide)]
  rw[aD h3,aD h3]
  by_cases h4:jH a≠0
  ·rw[aC h4,aC h4,aC h4]
  rw[aD h4,aD h4]
theorem DI{a:jr}(h:na a=0):jH a=0:=by
 unfold na at h
 by_cases h0:a.aJ.length=0
 ·rw[aC h0]at h;omega
 rw[aD h0]at h
 by_cases h1:16<a.aJ.length
 ·rw[aC h1]at h;omega
 rw[aD h1]at h
 cases hf:a.aJ.findSome? vC with
 |some e=>
  rw[hf]at h;have h:e=0:=h;obtain⟨_,x,_,_,hx,_⟩:=List.findSome?_eq_some_iff.1 hf;unfold vC at hx;split at hx
  ·rename_i h';injection hx with hx;rw[hx]at h';exact absurd h h'
  ·cases hx
 |none=>
  rw[hf]at h;dsimp only at h
  by_cases h2:jL a.cN≠0
  ·rw[aC h2]at h;exact absurd h h2
  rw[aD h2]at h
  by_cases h3:2000<a.cN.length+(a.aJ.map List.length).sum
  ·rw[aC h3]at h;omega
  rw[aD h3]at h
  by_cases h4:jH a≠0
  ·rw[aC h4]at h;exact absurd h h4
  ·simpa using h4
theorem Cj{a:jr}(hs:vD a)(hN:4398046511104<=N):iN N a=some (na a):=by
 refine Tm ?_;have c1:=hs.cs;have c2:=hs.out;have c3:=hs.bs;have c4:=hs.ls;unfold iN na;refine SP (λh=>Sh ?_)<|λh=>?_
 ·rw[aC (by have:=beq_iff_eq.1 h;omega)]
 have h0:¬a.aJ.length=0:=by rw[beq_eq_false_iff_ne]at h;omega
 rw[aD h0];refine SP (λh=>Sh ?_)<|λh=>?_
 ·rw[aC (by have:=of_decide_eq_true h;omega)]
 have h1:¬16<a.aJ.length:=by have:=of_decide_eq_false h;omega
 rw[aD h1];have sumle:∀k,k<=a.aJ.length->((a.aJ.take k).map List.length).sum<=k*1048576:=by
  intro k
  induction k with
  |zero=>intro _;simp
  |succ k ih=>
   intro hk;have:=ih (by omega);have h2:=hs.each _<|cL (show k<a.aJ.length by omega)
   rw[eI (by omega),eG,List.sum_append];simp only[eL,List.map_nil,List.sum_cons,List.sum_nil];rw[Nat.add_mul];omega
 refine Sr (Tb (n:=a.aJ.length) (λs=>s.2) (λk s=>s.1=((a.cN.length+((a.aJ.take k).map List.length).sum:Nat):Int)/\∀(j:Nat)r,j<k->a.aJ[j]? =some r->vC r=none)
  (Go:=λs=>s.1=((a.cN.length+(a.aJ.map List.length).sum:Nat):Int)/\a.aJ.findSome? vC=none) (Rt:=λr=>a.aJ.findSome? vC=some r) ?_ ?_ (cZ _) rfl ⟨by simp,λj r hj=>by omega⟩ (by omega)) ?_
 ·rintro k⟨m,i⟩hk e⟨hm,hI⟩;dsimp only at e hm ⊢;subst e;subst hm;have hx:a.aJ[k]? =some a.aJ[k]:=aO hk;have he:=hs.each _<|cL hk
  have hsl:=sumle k (by omega);rw[kd hk,aK];refine Sy hx<|IT (wM (by omega) hN)<|SP (λhb=>Tn ?_)<|λhb=>Sy hx<|SJ ⟨bK (by omega),?_,λj r hj hr=>?_⟩
  ·exact xV hx hI (by unfold vC;rw[aC (by simpa using hb)])
  ·dsimp only;rw[wrap_add (by omega),eI hk,eG,List.sum_append];simp only[eL,List.map_nil,List.sum_cons,List.sum_nil];omega
  ·by_cases e:j=k
   ·subst e;rw[hx]at hr;injection hr with hr;rw[<-hr]
    unfold vC;rw[aD (by simpa using hb)]
   ·exact hI j r (by omega) hr
 ·rintro⟨m,i⟩e⟨hm,hI⟩;dsimp only at e hm ⊢;subst e;rw[lW,aM];rw[eK]at hm;exact SU ⟨hm,B6 hI⟩
 intro o ho;refine SV ho ?_<|λr hr=>Sh (by rw[hr])
 rintro⟨m,i⟩⟨hm,hf⟩;dsimp only at hm ⊢;subst hm;rw[hf];dsimp only;refine IT (wM (by omega) hN)<|SP (λh=>Sh ?_)<|λh=>?_
 ·rw[aC (by simpa using h)]
 rw[aD (by simpa using h)];have hmr:Ok (bif decide (((a.cN.length+(a.aJ.map List.length).sum:Nat):Int)>2000)then some true else some (decide<|((a.aQ.length:Nat):Int)>500)) (λb=>b=decide (2000<a.cN.length+(a.aJ.map List.length).sum\/500<a.aQ.length)):=by
  by_cases h2:2000<a.cN.length+(a.aJ.map List.length).sum
  ·rw[bL (by omega),aK];exact Sh (bL<|.inl h2).symm
  ·rw[bG (by omega),aM];refine Sh ?_;rw[decide_eq_decide];omega
 refine Sr hmr λb hb=>?_;subst hb;refine SP (λh=>Sh ?_)<|λh=>?_
 ·have h:=of_decide_eq_true h
  by_cases h2:2000<a.cN.length+(a.aJ.map List.length).sum
  ·rw[aC h2]
  ·rw[aD h2];have hb:jH a=2:=by unfold jH;rw[aC (by omega)]
   rw[hb,aC (by decide)]
 have h:=of_decide_eq_false h;rw[aD (by omega)];have hbe:jH a=(a.aQ.findSome?<|mP a.aJ.length).getD 0:=by unfold jH;rw[aD (by omega)]
 have hw:wrap .i64 (((a.aJ.length:Nat):Int) - 1)=((a.aJ.length:Nat):Int) - 1:=fw (by omega) (by omega);refine Sr (Tb (n:=a.aQ.length) (λs=>s) (λk _=>∀(j:Nat)b,j<k->a.aQ[j]? =some b->mP a.aJ.length b=none) (Go:=λ_=>a.aQ.findSome? (mP a.aJ.length)=none) (Rt:=λr=>a.aQ.findSome? (mP a.aJ.length)=some r/\r≠0) ?_ ?_ (cZ _) rfl (λj b hj=>by omega) (by omega)) ?_
 ·rintro k i hk e hI;subst e;rw[kd hk,aK];have hx:a.aQ[k]? =some a.aQ[k]:=aO hk;refine Sy hx<|IT BD<|SP (λhb=>Tn ?_)<|λhb=>?_
  ·have hb:(nL a.aQ[k]).2≠0:=by simpa using hb
   exact⟨xV hx hI (by unfold mP;rw[aC hb]),hb⟩
  ·have hb:¬(nL a.aQ[k]).2≠0:=by simpa using hb
   rw[hw];have e2:((eO N a.aQ[k].cS 0<|((a.aJ.length:Nat):Int) - 1).bind λx135=>bif(!x135)then some true else((eO N a.aQ[k].To a.aQ[k].cS<|((a.aJ.length:Nat):Int) - 1).bind λx138=>some<|!x138))=some (!(gE a.aQ[k].cS 0 (((a.aJ.length:Nat):Int) - 1)&&gE a.aQ[k].To a.aQ[k].cS (((a.aJ.length:Nat):Int) - 1))):=by
    rw[um,aB,um,aB]
    cases gE a.aQ[k].cS 0 (((a.aJ.length:Nat):Int) - 1) <;> rfl
   refine IT e2<|SP (λh3=>Tn ⟨xV hx hI ?_,by decide⟩)<|λh3=>SJ ⟨bK (by omega),λj b hj hb'=>?_⟩
   ·unfold mP;rw[aD hb,aD (by rintro⟨g1,g2⟩;rw[g1,g2]at h3;cases h3)]
   ·by_cases e:j=k
    ·subst e;rw[hx]at hb';injection hb' with hb';rw[<-hb']
     rw[Bool.not_eq_false',bX]at h3;unfold mP;rw[aD hb,aC h3]
    ·exact hI j b (by omega) hb'
 ·rintro i e hI;subst e;rw[lW,aM];exact SU<|B6 hI
 intro o ho;refine SV ho ?_<|λr hr=>Sh ?_
 rotate_left
 ·rw[hbe,hr.1,Option.getD_some,aC hr.2]
 intro _ hbn;rw[hbe,hbn,Option.getD_none,aD (by decide)];unfold mz;refine SP (λh=>Sh ?_)<|λh=>?_
 ·rw[aC (by have:=of_decide_eq_true h;omega)]
 have h5:¬1000<a.bM.length:=by have:=of_decide_eq_false h;omega
 rw[aD h5];refine Sr (Tb (n:=a.bM.length) (λs=>s) (λk _=>∀j,j<k->kD a j=none) (Go:=λ_=>qg a.bM.length (kD a)=none) (Rt:=λr=>qg a.bM.length (kD a)=some r) ?_ ?_ (cZ _) rfl (λj hj=>by omega) (by omega)) ?_
 ·rintro k i hk e hI;subst e;rw[kd hk,aK];have hx:a.bM[k]? =some a.bM[k]:=aO hk;refine IT (DH (by omega) (by omega) hx (hs.nm _<|cL hk) (by omega))<|SP (λhb=>Tn ?_)<|λhb=>SJ ⟨bK (by omega),λj hj=>?_⟩
  ·cases hl:kD a k with
   |none=>rw[hl]at hb;cases hb
   |some e=>exact jY.2 ⟨k,hk,hl,hI⟩
  ·by_cases e:j=k
   ·subst e
    cases hl:kD a j with
    |none=>rfl
    |some e=>rw[hl]at hb;exact absurd (by simpa using hb) (DG hl)
   ·exact hI j (by omega)
 ·rintro i e hI;subst e;rw[lW,aM];exact SU<|kA.2 hI
 intro o ho;exact SV ho (λ_ h=>Sh (by rw[h];rfl))<|λr hr=>Sh (by rw[hr];rfl)
theorem wC(b:bT)(k:Int):fT N b k=some (kL b k):=rfl
theorem xW{a:jr}{i:Nat}{r:List aI}{s:List aA}(hb:k6 a.aQ)(hr:a.aJ[i]? =some r)(hrl:r.length<=2000)(hro:∀x∈r,DV x)(hd:wt r (kR a.aQ ((i:Nat):Int)) s)(hN:4398046511104<=N):gT N a ((i:Nat):Int)=some (aU s):=by
 refine Tm ?_;have hbl:=hb.len;have hhl:=Bp hb ((i:Nat):Int);have hho:=tG hb ((i:Nat):Int);unfold gT;refine Sr (Tb (n:=a.aQ.length) (λs=>s.2) (λk st=>st.1=kR (a.aQ.take k) ((i:Nat):Int)) (Go:=λst=>st.1=kR a.aQ ((i:Nat):Int)) (Rt:=λ_=>False) ?_ ?_ (cZ _) rfl rfl (by omega)) ?_
 ·rintro k⟨out,ii⟩hk e hI;dsimp only at e hI ⊢;subst e;subst hI;have hx:a.aQ[k]? =some a.aQ[k]:=aO hk;have hts:kR (a.aQ.take<|k+1) ((i:Nat):Int)=if kL a.aQ[k] ((i:Nat):Int)=true then kR (a.aQ.take k) ((i:Nat):Int)++[xc a.aQ[k]]else kR (a.aQ.take k) ((i:Nat):Int):=by
   unfold kR;rw[eI hk,lM,eG]
   by_cases h:kL a.aQ[k] ((i:Nat):Int)=true
   ·rw[aC h];simp[h]
   ·rw[aD h];simp[h]
  have hlen:(kR (a.aQ.take k) ((i:Nat):Int)).length<=k:=by
   unfold kR;rw[dA];have:=pA (λb=>kL b ((i:Nat):Int))<|a.aQ.take k
   rw[cQ]at this;omega
  rw[kd hk,aK];refine Sy hx<|IT (wC _ _)<|Sr (P:=λst:List aI=>st=kR (a.aQ.take<|k+1) ((i:Nat):Int)) (SP (λh=>?_)<|λh=>Sh ?_)<|λst hst=>SJ ⟨bK (by omega),hst⟩
  ·refine Sy hx<|IT (nv (hb.ok _<|cL hk).1)<|Td (by simp only[dX,List.length_nil];omega)<|Sh ?_
   rw[hts,aC h]
  ·rw[hts,aD (by rw[jy];exact h)]
 ·rintro⟨out,ii⟩e hI;dsimp only at e hI ⊢;subst e;rw[lW,aM];exact SU (by rw[eK]at hI;exact hI)
 intro o ho;refine SV ho ?_<|λr hr=>hr.elim
 rintro⟨hs,ii⟩hI;dsimp only at hI ⊢;subst hI;obtain⟨t,_,ht⟩:=qX (N:=N) (l:=kR a.aQ ((i:Nat):Int)) (by omega) (λx hx=>(hho x hx).1) (by omega);obtain⟨z1,z2,z3⟩:=ht.Ha;have z4:2*(kR a.aQ ((i:Nat):Int)).length*(2*(kR a.aQ ((i:Nat):Int)).length)<=1000*1000:=Nat.mul_le_mul (by omega) (by omega);refine Sy hr<|IT (wz ht.can ht.cover (by omega) (λx hx=>(hho x hx).1.x) (by omega) hN) ?_
 unfold ly;have hsz:=(ym (A:=5000) hd.can hd.lim (by rw[dK,m7,m7];omega) (by rw[dK,ko,ko];omega)).2.2
 have hc:iv N r (aU t) 3=some (aU s):=Ho hd.can (λx y=>by
  rw[hd.cover,qY ht.can,ht.cover];unfold tK;simp) (by omega) (by omega) (λx hx=>(hro x hx).x) (λx hx=>(vH ht.can x hx).1) (by omega) hN
 rw[hc,aB,aB];exact Sh rfl
theorem yo:∀(dS:List (List<|List aA))(k:Nat),(cE k dS).length=(dS.map List.length).sum
 | [],k=>rfl
 |ps::dS,k=>by
  show(ps.map _++cE (k+1) dS).length=_;rw[dK,dA,yo dS<|k+1,eL,List.sum_cons]
theorem Kg{a:jr}{kS:List (List aA)}{dS:List (List<|List aA)}(hg:ri a)(hD:xP a.aJ a.aQ a.aJ.length kS dS){i:Nat}{s:List aA}(hi:i<a.aJ.length)(hd:kS[i]? =some s)(hf:(aU s).length<=2000):∃ps u,dS[i]? =some ps/\r8 a.aJ[i] (kR a.aQ ((i:Nat):Int)) s u ps:=by
 have hp:dS[i]? =some (dS[i]'(by rw[hD.Bq];exact hi)):=aO _;have hdr:=hD.dr i _ _ hi (aO hi) hd;obtain⟨u,hu⟩:=hD.pt i _ _ hi hd hp;have hreg:=rI.1<|hg.RN _<|cL hi
 exact⟨_,u,hp,λx hx=>((rf.1 hreg.1).2 x hx).1,λx hx=>(tG hg.gb _ x hx).2,(Dq hreg.1).2,λx hx=>(tG hg.gb _ x hx).1,hdr,hu,hf⟩
theorem r8.pieces{r hs:List aI}{s:List aA}{u:Nat->Nat}{ps:List (List aA)}(h:r8 r hs s u ps)(hN:4398046511104<=N):gu N (aU s)=some (ps.map aU):=by
 refine Hq h.dr.can h.pt h.xd (λq hq=>?_) (λp hp=>(h.part hp).2.1) hN;obtain⟨h1,h2,h3⟩:=Jm h.r1 h.r2 h.dr.can h.dr.lim q hq;exact FI h1 h2 h3
theorem It{a b:aI}(ha:a.X0<a.X1/\a.Y0<a.Y1)(hb:b.X0<b.X1/\b.Y0<b.Y1):gK N a b=some (Hf a b):=by
 unfold gK;rw[wx,wx,wy,wy];have e1:decide (min a.X1 b.X1>max a.X0 b.X0)=AJ a.X0 a.X1 b.X0 b.X1:=by
  unfold AJ;rw[dY,bX,bJ,bJ,bJ];omega
 have e2:decide (min a.Y1 b.Y1>max a.Y0 b.Y0)=AJ a.Y0 a.Y1 b.Y0 b.Y1:=by
  unfold AJ;rw[dY,bX,bJ,bJ,bJ];omega
 rw[e1,e2];unfold Hf
 cases AJ a.X0 a.X1 b.X0 b.X1 <;> rfl
theorem sq_pos{b:bT}(h:sm b=true):(xc b).X0<(xc b).X1/\(xc b).Y0<(xc b).Y1:=by
 obtain⟨h1,_,_⟩:=uh h;simp only[xc];omega
inductive Checked (N:Nat) (a:jr):Prop
 |err (e:Int) (he:e≠0) (h1:fF N a=some (none,e)) (h2:cU N a=some e)
 |ok {kS:List (List aA)} {dS:List (List (List aA))} {r:Nat->Nat} {gs:List cK} {ofP ofB l9:List Int} {lZ:List dP} (b:l8 a kS dS r gs ofP ofB l9 lZ)
  (h1:fF N a=some (some (a.aJ,a.cN,a.aQ,a.bM,kS,cE 0 dS,cP a.aQ<|cE 0 dS,gs,ofP,ofB,l9,lZ),0)) (h2:cU N a=some 0)
theorem Jo{a:jr}(hb:k6 a.aQ)(hN:4398046511104<=N){f:Int->Option Int}{Q:Int->Prop}(hc:sq a->Q 12)(hn:¬sq a->∀s,Ok (f s) Q):
  Ok ((jt (λ(s35:Int)=>(bif decide (s35<(a.aQ.length:Int))then((jt (λ(s622:Int)=>(bif decide (s622<s35)then(((idx a.aQ s35).bind λx869=>(idx a.aQ s622).bind λx873=>(jd N x869 x873).bind λx876=>bif x876 then((idx a.aQ s35).bind λx879=>(cO N x879).bind λx882=>(idx a.aQ s622).bind λx885=>(cO N x885).bind λx888=>(gK N x882 x888).bind λx890=>some x890)else some false).bind λs867=>bif s867 then some (.rt 12)else some (.nx<|wrap .i64<|s622+1))else(some<|.br s622):Option (Fl Int Int))) N 0).bind λo911=>o911.cs (λ(s622:Int)=>some<|.nx<|wrap .i64<|s35+1)<|λr=>some<|.rt r)else(some<|.br s35):Option (Fl Int Int))) N 0).bind λo933=>o933.cs f<|λr=>some r) Q:=by
 have hbl:=hb.len;refine Sr (Tb (n:=a.aQ.length) (λs=>s) (λk _=>∀(i j:Nat)(x y:bT),i<k->j<i->a.aQ[i]? =some x->a.aQ[j]? =some y->¬tI x y=true) (Go:=λ_=>¬sq a) (Rt:=λr=>r=12/\sq a) ?_ ?_ (cZ _) rfl (λi j x y hi=>by omega) (by omega)) ?_
 ·rintro k s hk e hI;subst e;rw[kd hk,aK];have hx:a.aQ[k]? =some a.aQ[k]:=aO hk;have fx:=(hb.ok _<|cL hk).1;refine Sr (Tb (n:=k) (λs=>s) (λt _=>∀(j:Nat)(y:bT),j<t->a.aQ[j]? =some y->¬tI a.aQ[k] y=true) (Go:=λ_=>∀(j:Nat)(y:bT),j<k->a.aQ[j]? =some y->¬tI a.aQ[k] y=true) (Rt:=λr=>r=12/\sq a) ?_ ?_ (cZ _) rfl (λj y hj=>by omega) (by omega)) ?_
  ·rintro t s ht e hI2;subst e;rw[kd ht,aK];have hy:a.aQ[t]? =some (a.aQ[t]'(by omega)):=aO _;have fy:=(hb.ok _<|cL (show t<a.aQ.length by omega)).1;have hcond:((idx a.aQ ((k:Nat):Int)).bind λx869=>(idx a.aQ ((t:Nat):Int)).bind λx873=>(jd N x869 x873).bind λx876=>bif x876 then((idx a.aQ ((k:Nat):Int)).bind λx879=>(cO N x879).bind λx882=>(idx a.aQ ((t:Nat):Int)).bind λx885=>(cO N x885).bind λx888=>(gK N x882 x888).bind λx890=>some x890)else some false)=some (tI a.aQ[k]<|a.aQ[t]'(by omega)):=by
    rw[cI hx,aB,cI hy,aB];unfold jd tI;rw[aB]
    cases(decide (a.aQ[k].cS<=(a.aQ[t]'(by omega)).To)&&decide ((a.aQ[t]'(by omega)).cS<=a.aQ[k].To))with
    |false=>rfl
    |true=>rw[aK,aB,nv fx,aB,aB,nv fy,aB,It (sq_pos fx) (sq_pos fy),aB,Bool.true_and]
   refine IT hcond<|SP (λh=>Tn ⟨rfl,k,t,_,_,ht,hx,hy,h⟩)<|λh=>SJ ⟨bK (by omega),λj y hj hjy=>?_⟩
   by_cases e:j=t
   ·subst e;rw[hy]at hjy;injection hjy with hjy;rw[<-hjy,h];exact j8
   ·exact hI2 j y (by omega) hjy
  ·rintro s e hI2;subst e;rw[lW,aM];exact SU hI2
  intro o ho;refine SV ho (λs hs=>SJ ⟨bK (by omega),λi j x y hi hj hix hjy=>?_⟩)<|λr hr=>Tn hr
  by_cases e:i=k
  ·subst e;rw[hx]at hix;injection hix with hix;rw[<-hix];exact hs j y hj hjy
  ·exact hI i j x y (by omega) hj hix hjy
 ·rintro s e hI;subst e;rw[lW,aM];refine SU ?_;rintro⟨i,j,x,y,hij,hx,hy,hc⟩;exact hI i j x y (bD.1 hx).1 hij hx hy hc
 intro o ho;exact SV ho (λs hs=>hn hs s)<|λr hr=>Sh (by rw[hr.1];exact hc hr.2)
theorem checked{a:jr}(hs:vD a)(hN:4398046511104<=N):Checked N a:=by
 obtain⟨x,hx,hI⟩:=Bw (N:=N) hs hN;have hbe:=Ht a;have hcp:=Cj (N:=N) hs hN
 rcases hI with⟨he,rfl⟩|⟨h0,hg,hcl,kS,dS,D,hI⟩
 ·refine .err _ he hx<|Tm ?_
  unfold cU;refine IT hcp ?_
  by_cases h:na a≠0
  ·rw[aC h]at hbe;rw[show(na a != 0)=true by simpa using h,aK,hbe];exact Sh rfl
  ·rw[aD h]at hbe;have hp0:na a=0:=by simpa using h
   have hc:sq a:=by
    by_cases hc:sq a
    ·exact hc
    ·rw[aD hc]at hbe;exact absurd hbe he
   rw[aC hc]at hbe;rw[hp0,show((0:Int) != 0)=false by rfl,aM];have hbo:=DI hp0;refine Jo ⟨(nu hbo).1,λb hb=>⟨((nu hbo).2 b hb).1,((nu hbo).2 b hb).2.1⟩⟩ hN (λ_=>hbe.symm)<|λh=>absurd hc h
 ·have hp0:na a=0:=by
   by_cases h:na a≠0
   ·rw[aC h]at hbe;rw[hbe]at h0;exact h0
   ·simpa using h
  have key:cU N a=some (if Om kS dS then 0 else 2):=by
   refine Tm ?_;unfold cU;refine IT hcp ?_;rw[hp0,show((0:Int) != 0)=false by rfl,aM];refine Jo hg.gb hN (λh=>absurd h hcl)<|λ_ _=>?_
   have hc16:=hg.xd.2
   refine Sr (Tb (n:=a.aJ.length) (λs=>s.2) (λk st=>st.1=((((dS.take k).map List.length).sum:Nat):Int)/\((dS.take k).map List.length).sum<=k*2000/\∀(j:Nat)s,j<k->kS[j]? =some s->(aU s).length<=2000)
    (Go:=λst=>st.1=(((dS.map List.length).sum:Nat):Int)/\∀s∈kS,(aU s).length<=2000) (Rt:=λr=>r=2/\¬Om kS dS) ?_ ?_ (cZ _) rfl ⟨by simp,by simp,λj s hj=>by omega⟩ (by omega)) ?_
   ·rintro k⟨m,i⟩hk e⟨hm,hml,hI2⟩;dsimp only at e hm ⊢;subst e;subst hm;rw[kd hk,aK];have hcx:a.aJ[k]? =some a.aJ[k]:=aO hk;have hd:kS[k]? =some (kS[k]'(by rw[D.len];exact hk)):=aO _;have hcs:=hg.cs _<|cL hk
    refine IT (xW hg.gb hcx hcs.1 hcs.2 (D.dr k _ _ hk hcx hd) hN)<|SP (λh=>Tn ⟨rfl,λhf=>?_⟩)<|λh=>?_
    ·have:=hf.1 _<|fQ hd
     have:=of_decide_eq_true h;omega
    ·have hf:(aU<|kS[k]'(by rw[D.len];exact hk)).length<=2000:=by have:=of_decide_eq_false h;omega
     obtain⟨ps,u,hp,L⟩:=Kg hg D hk hd hf;have hpl:=L.pt.xd;have hkp:k<dS.length:=by rw[D.Bq];exact hk
     have hpe:dS[k]=ps:=by rw[aO hkp]at hp;injection hp
     refine IT (L.pieces hN)<|SJ ⟨bK (by omega),?_,?_,λj s hj hjs=>?_⟩
     ·dsimp only;rw[dA,wrap_add (by omega),eI hkp,eG,List.sum_append,hpe];simp
     ·rw[eI hkp,eG,List.sum_append,hpe];simp only[eL,List.map_nil,List.sum_cons,List.sum_nil];rw[Nat.add_mul];omega
     ·by_cases e:j=k
      ·subst e;rw[hd]at hjs;injection hjs with hjs;rw[<-hjs];exact hf
      ·exact hI2 j s (by omega) hjs
   ·rintro⟨m,i⟩e⟨hm,hml,hI2⟩;dsimp only at e hm ⊢;subst e;rw[lW,aM];rw[mF (by rw[D.Bq];exact bZ _)]at hm;refine SU ⟨hm,λs hs'=>?_⟩;obtain⟨j,hj⟩:=dZ hs';exact hI2 j s (by have:=(bD.1 hj).1;rw[D.len]at this;exact this) hj
   intro o ho;refine SV ho ?_<|λr hr=>Sh (by rw[hr.1,aD hr.2])
   rintro⟨m,i⟩⟨hm,hf⟩;dsimp only at hm ⊢;subst hm;have hpl:=yo dS 0;refine SP (λh=>Sh ?_)<|λh=>Sh ?_
   ·rw[aD];rintro⟨_,h2⟩;have:=of_decide_eq_true h;omega
   ·rw[aC];exact⟨hf,by have:=of_decide_eq_false h;omega⟩
  rcases hI with⟨hf,rfl⟩|⟨hf,r,gs,ofP,ofB,l9,lZ,hC,rfl⟩
  ·rw[aD hf]at key;exact .err 2 (by decide) hx key
  ·rw[aC hf]at key;exact .ok ⟨hg,hcl,D,hf,hC⟩ hx key
end
theorem Cx:∀{l m:List Int},kf l->kf m->(∀x,x∈l↔x∈m)->l=m
 | [],[],_,_,_=>rfl
 | [],b::m,_,_,h=>absurd ((h b).2 (by simp)) (by simp)
 |a::l,[],_,_,h=>absurd ((h a).1 (by simp)) (by simp)
 |a::l,b::m,hl,hm,h=>by
  have h1:a=b:=by
   have ha:=(h a).1 (by simp);have hb:=(h b).2 (by simp)
   rcases dI.1 ha with e|ha
   ·exact e
   ·rcases dI.1 hb with e|hb
    ·exact e.symm
    ·have:=hl.head b hb;have:=hm.head a ha;omega
  subst h1;rw[Cx hl.tail hm.tail λx=>?_];have hx:=h x;rw[dI,dI]at hx;constructor
  ·intro hxl
   rcases hx.1 (.inr hxl)with e|h'
   ·have:=hl.head x hxl;omega
   ·exact h'
  ·intro hxm
   rcases hx.2 (.inr hxm)with e|h'
   ·have:=hm.head x hxm;omega
   ·exact h'
theorem Hu{l:List Nat}(h:l.Pairwise (· < ·)):kf (ints l):=by
 unfold kf ints;rw[List.pairwise_map];exact h.imp λh=>by omega
section
variable {N:Nat}
theorem DJ{l:List Int}{c:Int}(h:kf l)(hl:l.length<=1000000000)(hN:4398046511104<=N):je N l c=some (sQ l c):=by
 refine Tm ?_;unfold je
 refine Sr (Tw (Go:=λs=>∃a:Nat,s=((a:Nat):Int)/\a<=l.length/\(∀(j:Nat)x,a<=j->l[j]? =some x->c<x)/\(∀x,0<a->l[a - 1]? =some x->¬c<x)) (Rt:=λ_=>False)
  (λs=>∃a:Nat,s=((a:Nat):Int)/\a<=l.length/\∀(j:Nat)x,a<=j->l[j]? =some x->c<x) (λs=>s.toNat) ?_ ⟨l.length,rfl,bZ _,λj x hj hx=>by have:=(bD.1 hx).1;omega⟩ (by simp only[cA];omega)) ?_
 ·rintro s⟨a,rfl,ha,hI⟩
  by_cases h0:0<a
  ·have hx:l[a - 1]? =some (l[a - 1]'(by omega)):=aO _;rw[bL (by omega),aK,jg h0 (by omega),cI hx,aB,aB];refine SP (λhb=>?_)<|λhb=>?_
   ·have hb:=of_decide_eq_true hb;refine SJ ⟨⟨a - 1,rfl,by omega,λj x hj hx'=>?_⟩,by simp only[cA];omega⟩
    by_cases e:j=a - 1
    ·subst e;rw[hx]at hx';injection hx' with hx';rw[<-hx'];exact hb
    ·exact hI j x (by omega) hx'
   ·have hb:=of_decide_eq_false hb;exact SU ⟨a,rfl,ha,hI,λx _ hx'=>by rw[hx]at hx';injection hx' with hx';rw[<-hx'];exact hb⟩
  ·rw[bG (by omega),aM,aB,aM];exact SU ⟨a,rfl,ha,hI,λx h=>absurd h h0⟩
 intro o ho;refine SV ho ?_<|λr hr=>hr.elim
 rintro s⟨a,rfl,ha,hI,hE⟩;have hlow:∀(j:Nat)x,j<a->l[j]? =some x->x<=c:=λj x hj hx=>by
  have hy:l[a - 1]? =some (l[a - 1]'(by omega)):=aO _;have h1:=hE _ (by omega) hy
  by_cases e:j=a - 1
  ·subst e;rw[hy]at hx;injection hx with hx;omega
  ·have:=h.lt (i:=j) (j:=a - 1) (by omega) hx hy;omega
 have hout:c∉l->sQ l c=l.take a++c::l.drop a:=λhc=>by
  unfold sQ;rw[aD hc]
  obtain⟨e1,e2⟩:=sP (p:=λx=>decide (x<c)) (l:=l) (k:=a) (λj x hj hx=>bL (by
   have h1:=hlow j x hj hx;have h2:x≠c:=λe=>hc<|e▸fQ hx
   omega)) (λx hx=>bG (by have:=hI a x (bZ _) hx;omega))
  rw[e1,e2]
 have hrest:c∉l->Ok ((uv l 0 ((a:Nat):Int)).bind λx61=>(app 8 ([]:List Int) x61).bind λx63=>(app 8 x63 ([c]:List Int)).bind λx66=>(uv l ((a:Nat):Int) ((l.length:Nat):Int)).bind λx68=>(app 8 x66 x68).bind λx70=>some x70) (λr=>r=sQ l c):=λhc=>by
  have htk:(l.take a).length=a:=by rw[cQ];omega
  refine IT (tk l a ha)<|Td (by simp only[List.length_nil];omega)<|Td (by rw[List.nil_append];simp only[dX,List.length_nil];omega)<|IT (ry l a ha)<|Td ?_<|Sh ?_
  ·rw[List.nil_append,dK,jl];simp only[dX,List.length_nil];omega
  ·rw[hout hc];simp
 by_cases h0:0<a
 ·have hx:l[a - 1]? =some (l[a - 1]'(by omega)):=aO _;rw[bL (by omega),aK,jg h0 (by omega),cI hx,aB,aB];refine SP (λhb=>Sh ?_)<|λhb=>hrest ?_
  ·rw[beq_iff_eq]at hb;unfold sQ;rw[aC (by rw[<-hb];exact fQ hx)]
  ·rw[beq_eq_false_iff_ne]at hb;intro hc;obtain⟨j,hj⟩:=dZ hc
   by_cases h1:a<=j
   ·have:=hI j c h1 hj;omega
   ·by_cases e:j=a - 1
    ·subst e;rw[hx]at hj;injection hj with hj;exact hb hj
    ·have:=h.lt (i:=j) (j:=a - 1) (by omega) hj hx;have:=hlow (a - 1) _ (by omega) hx;omega
 ·rw[bG (by omega),aM,aB,aM];refine hrest λhc=>?_;obtain⟨j,hj⟩:=dZ hc;have:=hI j c (by omega) hj;omega
theorem wD{l:List Int}{c:Int}(hl:l.length<=1099511627776)(hN:4398046511104<=N):cY N l c=some (decide<|c∈l):=by
 refine Tm ?_;unfold cY;refine Sr (Tb (n:=l.length) (λs=>s) (λk _=>∀(j:Nat)x,j<k->l[j]? =some x->x≠c) (Go:=λ_=>c∉l) (Rt:=λr=>r=true/\c∈l) ?_ ?_ (cZ _) rfl (λj x hj=>by omega) (by omega)) ?_
 ·rintro k s hk e hI;subst e;rw[kd hk,aK];have hx:l[k]? =some l[k]:=aO hk;refine Sy hx<|SP (λhb=>Tn ⟨rfl,?_⟩)<|λhb=>SJ ⟨bK (by omega),λj x hj hx'=>?_⟩
  ·rw[beq_iff_eq]at hb;exact hb▸cL hk
  ·by_cases e:j=k
   ·subst e;rw[hx]at hx';injection hx' with hx';rw[<-hx'];exact beq_eq_false_iff_ne.1 hb
   ·exact hI j x (by omega) hx'
 ·rintro s e hI;subst e;rw[lW,aM];refine SU λhc=>?_;obtain⟨j,hj⟩:=dZ hc;exact hI j c (bD.1 hj).1 hj rfl
 intro o ho;exact SV ho (λs hs=>Sh (bG hs).symm)<|λr hr=>Sh (by rw[hr.1,bL hr.2])
theorem Ls{p q:aI}(hp:p.X0<p.X1/\p.Y0<p.Y1)(hq:q.X0<q.X1/\q.Y0<q.Y1):sN p q=decide ((0<min p.X1 q.X1 - max p.X0 q.X0/\min p.Y1 q.Y1 - max p.Y0 q.Y0=0)\/(min p.X1 q.X1 - max p.X0 q.X0=0/\0<min p.Y1 q.Y1 - max p.Y0 q.Y0)):=by
 unfold sN;rw[dY];simp only[dU,bX,bJ,beq_iff_eq];constructor
 ·rintro(h|h)
  ·left;omega
  ·right;omega
 ·rintro(h|h)
  ·left;omega
  ·right;omega
theorem Mx{l:List aI}{q:aI}(hl:l.length<=1000000000)(ho:∀r∈l,DV r)(hq:DV q)(hN:4398046511104<=N):jV N l q=some (l.any<|λr=>sN r q):=by
 refine Tm ?_;unfold jV;refine Sr (Tb (n:=l.length) (λs=>s) (λk _=>∀(j:Nat)x,j<k->l[j]? =some x->sN x q=false) (Go:=λ_=>l.any (λr=>sN r q)=false) (Rt:=λr=>r=true/\l.any (λr=>sN r q)=true) ?_ ?_ (cZ _) rfl (λj x hj=>by omega) (by omega)) ?_
 ·rintro k s hk e hI;subst e;rw[kd hk,aK];have hx:l[k]? =some l[k]:=aO hk;have hr:=ho _<|cL hk
  have hb:=Ls (p:=l[k]) (q:=q) ⟨hr.x,hr.y⟩ ⟨hq.x,hq.y⟩;have a1:=hr.s1;have a2:=hr.s2;have a3:=hr.s3;have a4:=hr.s4;have b1:=hq.s1;have b2:=hq.s2;have b3:=hq.s3;have b4:=hq.s4;unfold small at a1 a2 a3 a4 b1 b2 b3 b4;refine Sy hx<|Sy hx<|Sy hx<|Sy hx ?_
  rw[wx,wx,wy,wy,fw (x:=min l[k].X1 q.X1 - max l[k].X0 q.X0) (by omega) (by omega),fw (x:=min l[k].Y1 q.Y1 - max l[k].Y0 q.Y0) (by omega) (by omega)];have e:((decide (min l[k].X1 q.X1 - max l[k].X0 q.X0>0)&&(min l[k].Y1 q.Y1 - max l[k].Y0 q.Y0==0))||((min l[k].X1 q.X1 - max l[k].X0 q.X0==0)&&decide (min l[k].Y1 q.Y1 - max l[k].Y0 q.Y0>0)))=sN l[k] q:=by
   rw[hb,dY];simp only[dU,bX,bJ,beq_iff_eq,gt_iff_lt]
  rw[e];refine SP (λh=>Tn ⟨rfl,kq.2 ⟨_,cL hk,h⟩⟩)<|λh=>SJ ⟨bK (by omega),λj x hj hx'=>?_⟩
  by_cases e:j=k
  ·subst e;rw[hx]at hx';injection hx' with hx';rw[<-hx'];exact h
  ·exact hI j x (by omega) hx'
 ·rintro s e hI;subst e;rw[lW,aM];refine SU ?_;rw[List.any_eq_false];intro x hx;obtain⟨j,hj⟩:=dZ hx;rw[hI j x (bD.1 hj).1 hj];exact j8
 intro o ho;exact SV ho (λs hs=>Sh hs.symm)<|λr hr=>Sh (by rw[hr.1,hr.2])
theorem BE(r:List aI)(p:j6):BX r p=uL r p.X p.Y:=by
 unfold BX uL;congr 1;funext x;rw[dY];simp only[bX,bJ,ge_iff_le,and_assoc]
theorem B8{r:List aI}{p:j6}(hl:r.length<=134217728)(hr:∀x∈r,x.X0<x.X1)(hN:4398046511104<=N):fG N r p=some (BX r p):=by
 refine Tm ?_;unfold fG;refine Sr (FK hl hN) λs hs=>?_;have hsl:s.length<=r.length:=by have:=tJ r p.Y;rw[<-hs,dA]at this;exact this
 refine IT (Bz (by omega) hN)<|Sh ?_
 rw[hs,(vG hr p.Y).2,BE]
def Lt(bs:List bT)(pcs:List aH)(l:cX):Option dP:=match pcs.findIdx? (lz l)with
 |some k=>some ⟨false,((k:Nat):Int)⟩
 |none=>(bs.findIdx? (l7 l)).map λk=>⟨true,((k:Nat):Int)⟩
theorem Jp{bs:List bT}{pcs:List aH}{l:cX}(hd:∀b∈bs,∀p∈pcs,l7 l b=true->lz l p=true->False):Lt bs pcs l=qj bs pcs l:=by
 unfold Lt qj
 cases h1:pcs.findIdx? (lz l)with
 |none=>cases bs.findIdx? (l7 l) <;> rfl
 |some k=>
  cases h2:bs.findIdx? (l7 l)with
  |none=>rfl
  |some j=>
   obtain⟨hk,hp,_⟩:=List.findIdx?_eq_some_iff_getElem.1 h1;obtain⟨hj,hb,_⟩:=List.findIdx?_eq_some_iff_getElem.1 h2;exact(hd _ (cL hj) _ (cL hk) hb hp).elim
theorem DK{α:Type}{l:List α}{p:α->Bool}{k:Nat}{x:α}(hx:l[k]? =some x)(hp:p x=true)(hn:∀(j:Nat)y,j<k->l[j]? =some y->p y=false):l.findIdx? p=some k:=by
 obtain⟨hk,rfl⟩:=bD.1 hx;rw[List.findIdx?_eq_some_iff_getElem];exact⟨hk,hp,λj hj=>by rw[hn j _ hj<|aO _];exact j8⟩
theorem DL{α:Type}{l:List α}{p:α->Bool}(hn:∀(j:Nat)y,j<l.length->l[j]? =some y->p y=false):l.findIdx? p=none:=by
 rw[List.findIdx?_eq_none_iff];intro x hx;obtain⟨j,hj⟩:=dZ hx;exact hn j x (bD.1 hj).1 hj
theorem E0{bs:List bT}{pcs:List aH}(hb:k6 bs)(hp:pcs.length<=1000000)(hr:∀p∈pcs,p.iq.length<=1000000/\∀x∈p.iq,x.X0<x.X1)(l:cX)(hN:4398046511104<=N):
  gl N bs (pcs.map aH.dJ) (pcs.map aH.iq) l=some ((Lt bs pcs l).getD ⟨false,0⟩,(Lt bs pcs l).isSome):=by
 refine Tm ?_;have hbl:=hb.len;unfold gl Lt;rw[dA];refine Sr (Tb (n:=pcs.length) (λs=>s) (λk _=>∀(j:Nat)x,j<k->pcs[j]? =some x->lz l x=false) (Go:=λ_=>pcs.findIdx? (lz l)=none) (Rt:=λr=>∃k:Nat,pcs.findIdx? (lz l)=some k/\r=(⟨false,((k:Nat):Int)⟩,true)) ?_ ?_ (cZ _) rfl (λj x hj=>by omega) (by omega)) ?_
 ·rintro k s hk e hI;subst e;rw[kd hk,aK];have hx:pcs[k]? =some pcs[k]:=aO hk;have hlx:(pcs.map aH.dJ)[k]? =some pcs[k].dJ:=by rw[fL,hx];rfl
  have hrx:(pcs.map aH.iq)[k]? =some pcs[k].iq:=by rw[fL,hx];rfl
  have hrl:=hr _<|cL hk
  have hcond:((idx (pcs.map aH.dJ) ((k:Nat):Int)).bind λx88=>bif x88==l.dJ then((idx (pcs.map aH.iq) ((k:Nat):Int)).bind λx91=>(fG N x91 l.At).bind λx95=>some x95)else some false)=some (lz l pcs[k]):=by
   rw[cI hlx,aB,cI hrx,aB,B8 (by omega) hrl.2 hN,aB];unfold lz
   cases pcs[k].dJ==l.dJ <;> rfl
  refine IT hcond<|SP (λh=>Tn ⟨k,DK hx h hI,rfl⟩)<|λh=>SJ ⟨bK (by omega),λj x hj hx'=>?_⟩
  by_cases e:j=k
  ·subst e;rw[hx]at hx';injection hx' with hx';rw[<-hx'];exact h
  ·exact hI j x (by omega) hx'
 ·rintro s e hI;subst e;rw[lW,aM];exact SU<|DL hI
 intro o ho;refine SV ho ?_ (λr hr=>by obtain⟨k,h1,h2⟩:=hr;rw[h1,h2];exact Sh rfl);intro _ hno;rw[hno];dsimp only;refine Sr (Tb (n:=bs.length) (λs=>s) (λk _=>∀(j:Nat)x,j<k->bs[j]? =some x->l7 l x=false) (Go:=λ_=>bs.findIdx? (l7 l)=none) (Rt:=λr=>∃k:Nat,bs.findIdx? (l7 l)=some k/\r=(⟨true,((k:Nat):Int)⟩,true)) ?_ ?_ (cZ _) rfl (λj x hj=>by omega) (by omega)) ?_
 ·rintro k s hk e hI;subst e;rw[kd hk,aK];have hx:bs[k]? =some bs[k]:=aO hk;have hg:=hb.ok _<|cL hk
  have hcond:((idx bs ((k:Nat):Int)).bind λx301=>bif x301.eP then((idx bs ((k:Nat):Int)).bind λx305=>(fT N x305 l.dJ).bind λx308=>bif x308 then((idx bs ((k:Nat):Int)).bind λx310=>(cO N x310).bind λx313=>(fG N ([x313]:List aI) l.At).bind λx317=>some x317)else some false)else some false)=some (l7 l bs[k]):=by
   rw[cI hx,aB,aB,wC,aB,aB,nv hg.1,aB,B8 (by simp) (λx hx=>by simp at hx;subst hx;exact(sq_pos hg.1).1) hN,aB];unfold l7
   cases bs[k].eP with
   |false=>rfl
   |true=>cases kL bs[k] l.dJ <;> rfl
  refine IT hcond<|SP (λh=>Tn ⟨k,DK hx h hI,rfl⟩)<|λh=>SJ ⟨bK (by omega),λj x hj hx'=>?_⟩
  by_cases e:j=k
  ·subst e;rw[hx]at hx';injection hx' with hx';rw[<-hx'];exact h
  ·exact hI j x (by omega) hx'
 ·rintro s e hI;subst e;rw[lW,aM];exact SU<|DL hI
 intro o ho;exact SV ho (λ_ h=>Sh (by rw[h];rfl)) (λr hr=>by obtain⟨k,h1,h2⟩:=hr;rw[h1,h2];exact Sh rfl)
end
section
variable {N:Nat}{a:jr}{kS:List (List aA)}{dS:List (List (List aA))}{r:Nat->Nat}{gs:List cK}{ofP ofB l9:List Int}{lZ:List dP}
theorem AO(b:l8 a kS dS r gs ofP ofB l9 lZ){p:aH}(hp:p∈cE 0 dS):p.iq.length<=2000/\(∀q∈p.iq,ga q=true/\q.X0<q.X1/\q.Y0<q.Y1)/\∃i:Nat,p.dJ=((i:Nat):Int)/\∀x y,uL p.iq x y=true->uL (kR a.aQ ((i:Nat):Int)) x y=false:=by
 obtain⟨i,ps,q,h1,h2,rfl⟩:=Bv hp;have hil:i<a.aJ.length:=by have:=(bD.1 h1).1;rw[b.dr.Bq]at this;exact this
 obtain⟨s,ps',u,g1,g2,L⟩:=B5 b hil;rw[h1]at g2;injection g2 with g2;subst g2
 obtain⟨k1,k2,k3⟩:=L.part h2;refine⟨k2,k3,i,by simp,λx y h=>?_⟩;have h3:uL (ps.flatMap aU) x y=true:=B4.2 ⟨q,h2,h⟩;rw[L.cover,L.dr.cover,bX,Bool.not_eq_true']at h3;exact h3.2
theorem Jq(b:l8 a kS dS r gs ofP ofB l9 lZ)(l:cX):∀x∈a.aQ,∀p∈cE 0 dS,l7 l x=true->lz l p=true->False:=λx hx p hp h1 h2=>by
 obtain⟨_,_,i,e,hc⟩:=AO b hp;unfold l7 at h1;unfold lz at h2;rw[bX,bX,BE]at h1;rw[bX,BE,beq_iff_eq]at h2;have h3:=hc _ _ h2.2;rw[<-e,h2.1]at h3;obtain⟨q,hq,hxy⟩:=jG.1 h1.2.2;simp at hq;subst hq;have h4:uL (kR a.aQ l.dJ) l.At.X l.At.Y=true:=jG.2 ⟨xc x,dH.2 ⟨x,j7.2 ⟨hx,h1.2.1⟩,rfl⟩,hxy⟩;rw[h3]at h4;cases h4
end
structure PS (n:Nat) (r:Nat->Nat) (h:Nat) (q:List Nat) (seen:List Bool) (pieces todo:List Int):Prop where
 sl:seen.length=n
 sn:∀p,p<n->seen[p]? =some (decide<|r p<h\/p∈q)
 qn:q.Nodup
 qi:∀p∈q,p<n/\r p=h
 q0:h∈q
 td:todo=ints q
 pi:kf pieces
 pm:∀x,x∈pieces↔∃p∈q,x=((p:Nat):Int)
structure QS (n m:Nat) (tch:List (List Int)) (r:Nat->Nat) (h:Nat) (q qb:List Nat) (AG:List Int) (used:List Bool):Prop where
 ul:used.length=m
 un:∀k,k<m->used[k]? =some (decide<|k∈qb)
 bi:kf AG
 bm:∀x,x∈AG↔∃k∈qb,x=((k:Nat):Int)
 bk:∀k∈qb,k<m/\r (n+k)=h/\∀l,tch[k]? =some l->∀p:Nat,((p:Nat):Int)∈l->p∈q
theorem PS.xd{n:Nat}{r:Nat->Nat}{h:Nat}{q:List Nat}{seen:List Bool}{pieces todo:List Int}(H:PS n r h q seen pieces todo):q.length<=n/\pieces.length<=n:=by
 have h1:=gA H.qn (m:=List.range n) (λk hk=>by rw[oy];exact(H.qi k hk).1);rw[List.length_range]at h1;have h2:=gA H.pi.nodup (m:=ints q)<|λx hx=>rK.2<|(H.pm x).1 hx
 rw[mA]at h2;exact⟨h1,by omega⟩
theorem QS.xd{n m:Nat}{tch:List (List Int)}{r:Nat->Nat}{h:Nat}{q qb:List Nat}{AG:List Int}{used:List Bool}(H:QS n m tch r h q qb AG used):AG.length<=m:=by
 have h2:=gA H.bi.nodup (m:=ints (List.range m)) (λx hx=>by
  obtain⟨k,hk,e⟩:=(H.bm x).1 hx
  exact rK.2 ⟨k,oy.2 (H.bk k hk).1,e⟩)
 rwa[mA,List.length_range]at h2
theorem N9(n t:Nat)(r:Nat->Nat)(h:Nat):kf (ints<|gP n<|cls t r h):=Hu<|List.Pairwise.sublist (List.filter_sublist.trans List.filter_sublist)<|List.pairwise_lt_range (n:=t)
theorem Lu(bs:List bT)(n t:Nat)(r:Nat->Nat)(h:Nat):kf (ints<|gB bs n<|cls t r h):=by
 refine Hu ?_;unfold gB;rw[List.pairwise_map];have hp:(List.filter (λi=> !decide (i<n)&&tH bs (i - n))<|cls t r h).Pairwise (· < ·):=List.Pairwise.sublist (List.filter_sublist.trans List.filter_sublist)<|List.pairwise_lt_range (n:=t)
 refine hp.imp_of_mem λ{a b}ha hb hab=>?_;have h1:=(j7.1 ha).2;rw[bX,Bool.not_eq_true',decide_eq_false_iff_not]at h1;omega
theorem FR{n t:Nat}{r:Nat->Nat}{h p:Nat}:p∈gP n (cls t r h)↔p<n/\p<t/\r p=h:=by
 unfold gP;rw[j7,rh,bJ];constructor
 ·rintro⟨⟨h1,h2⟩,h3⟩;exact⟨h3,h1,h2⟩
 ·rintro⟨h3,h1,h2⟩;exact⟨⟨h1,h2⟩,h3⟩
theorem BF{bs:List bT}{n t:Nat}{r:Nat->Nat}{h k:Nat}:k∈gB bs n (cls t r h)↔n+k<t/\r (n+k)=h/\tH bs k=true:=by
 unfold gB;rw[dH];constructor
 ·rintro⟨i,hi,rfl⟩;rw[j7,rh,bX,Bool.not_eq_true',decide_eq_false_iff_not]at hi;have e:n+(i - n)=i:=by omega
  rw[e];exact⟨hi.1.1,hi.1.2,hi.2.2⟩
 ·rintro⟨h1,h2,h3⟩;refine⟨n+k,?_,by omega⟩;rw[j7,rh,bX,Bool.not_eq_true',decide_eq_false_iff_not,Nat.add_sub_cancel_left];exact⟨⟨h1,h2⟩,by omega,h3⟩
section
variable {N:Nat}
theorem Hv{bs:List bT}{n m:Nat}{tch:List (List Int)}{r:Nat->Nat}(hC:Ci n m tch r)(hm:tch.length=m)(ht:∀l∈tch,l.length<=1073741824/\∀x∈l,∃i:Nat,i<n/\x=((i:Nat):Int))(hn:n<=1000000)(hm2:m<=1000000)
  (hpl:∀(k:Nat)l,tch[k]? =some l->l≠[]->tH bs k=true) {h:Nat} (hh:h<n) (hr:r h=h) {seen:List Bool} (hsl:seen.length=n) (hsn:∀p,p<n->seen[p]? =some (decide<|r p<h)) (hN:4398046511104<=N):
  Ok (hU N tch ((h:Nat):Int) seen) (λx=>x.1.1=ints (gP n<|cls (n+m) r h)/\x.1.2.1=ints (gB bs n<|cls (n+m) r h)/\x.1.2.2= []/\x.2.length=n/\∀p,p<n->x.2[p]? =some (decide<|r p<h+1)):=by
 unfold hU;refine Sy (hsn h hh)<|IT (pE false (by omega)) ?_
 refine Sr (Tw (Go:=λst=>st.2.1=ints (gP n (cls (n+m) r h))/\st.2.2.1=ints (gB bs n (cls (n+m) r h))/\st.1.length=n/\∀p,p<n->st.1[p]? =some (decide (r p<h+1))) (Rt:=λ_=>False)
  (λst=>∃(q qb:List Nat)(t:Nat),st.2.2.2.2.2=((t:Nat):Int)/\t<=q.length/\PS n r h q st.1 st.2.1 st.2.2.2.2.1/\QS n m tch r h q qb st.2.2.1 st.2.2.2.1/\∀(j p k:Nat)l,j<t->q[j]? =some p->tch[k]? =some l->((p:Nat):Int)∈l->k∈qb)
  (λst=>n+1 - st.2.2.2.2.2.toNat) ?_ ⟨[h],[],0,rfl,by simp,?_,?_,λj p k l hj=>by omega⟩ (by simp;omega)) ?_
 ·rintro⟨sn,pi,bo,us,td,t'⟩⟨q,qb,t,e,htq,hP,hQ,hcl⟩;dsimp only at e hP hQ ⊢;subst e;have htl:td.length=q.length:=by rw[hP.td,mA]
  have hqf:=hP.xd
  by_cases hlt:t<q.length
  ·rw[kd (by omega:t<td.length),aK];have hqt:q[t]? =some q[t]:=aO hlt;have hqi:=hP.qi _<|cL hlt
   refine Sr (Tb (n:=tch.length) (λst=>st.2.2.2.2.2) (λi st=>∃q' qb',q <+:q'/\(∀k∈qb,k∈qb')/\PS n r h q' st.1 st.2.1 st.2.2.2.2.1/\QS n m tch r h q' qb' st.2.2.1 st.2.2.2.1/\∀k l,k<i->tch[k]? =some l->((q[t]:Nat):Int)∈l->k∈qb')
    (Go:=λst=>∃q' qb',q <+:q'/\(∀k∈qb,k∈qb')/\PS n r h q' st.1 st.2.1 st.2.2.2.2.1/\QS n m tch r h q' qb' st.2.2.1 st.2.2.2.1/\∀k l,tch[k]? =some l->((q[t]:Nat):Int)∈l->k∈qb') (Rt:=λ_=>False) ?_ ?_ (cZ _) rfl
    ⟨q,qb,List.prefix_refl _,λk hk=>hk,hP,hQ,λk l hk=>by omega⟩ (by omega)) ?_
   ·rintro k⟨sn1,pi1,bo1,us1,td1,i'⟩hk e⟨q1,qb1,hpre,hsub,hP1,hQ1,hc1⟩;dsimp only at e hP1 hQ1 ⊢;subst e;rw[kd hk,aK];have hkm:k<m:=by omega
    have htk:tch[k]? =some tch[k]:=aO hk;have htk2:=ht _<|cL hk
    have hq1t:td1[t]? =some ((q[t]:Nat):Int):=by
     rw[hP1.td];unfold ints;rw[fL,BC hpre hqt];rfl
    have hcond:((idx us1 ((k:Nat):Int)).bind λx948=>bif x948 then some true else((idx tch ((k:Nat):Int)).bind λx950=>(idx td1 ((t:Nat):Int)).bind λx953=>(cY N x950 x953).bind λx954=>some<|!x954))=some (decide (k∈qb1)|| !decide (((q[t]:Nat):Int)∈tch[k])):=by
     rw[cI<|hQ1.un k hkm,aB,cI htk,aB,cI hq1t,aB,wD (l:=tch[k]) (c:=((q[t]:Nat):Int)) (by have:=htk2.1;omega) hN,aB]
     cases decide (k∈qb1) <;> rfl
    refine IT hcond<|SP (λhb=>SJ ⟨bK (by omega),q1,qb1,hpre,hsub,hP1,hQ1,λk' l hk' hl hm'=>?_⟩)<|λhb=>?_
    ·by_cases e:k'=k
     ·subst e;rw[htk]at hl;injection hl with hl
      rw[hl,bL hm',jz,Bool.or_false,bJ]at hb;exact hb
     ·exact hc1 k' l (by omega) hl hm'
    ·rw[Bool.or_eq_false_iff,decide_eq_false_iff_not,Bool.not_eq_false',bJ]at hb;obtain⟨hkn,hqm⟩:=hb;have hrk:r (n+k)=h:=by rw[<-hC.co q[t] (n+k) ⟨k,_,htk,hqm,rfl⟩];exact hqi.2
     have hbf:=hQ1.xd;refine Sy (hQ1.un k hkm)<|IT (DJ hQ1.bi (by omega) hN) ?_
     refine Sr (Tb (n:=tch[k].length) (λst=>st.2.2.2) (λi st=>∃q2,q1 <+:q2/\PS n r h q2 st.1 st.2.1 st.2.2.1/\∀(j p:Nat),j<i->tch[k][j]? =some ((p:Nat):Int)->p∈q2)
      (Go:=λst=>∃q2,q1 <+:q2/\PS n r h q2 st.1 st.2.1 st.2.2.1/\∀(p:Nat),((p:Nat):Int)∈tch[k]->p∈q2) (Rt:=λ_=>False) ?_ ?_ (cZ _) rfl ⟨q1,List.prefix_refl _,hP1,λj p hj=>by omega⟩ (by omega)) ?_
     ·rintro j⟨sn2,pi2,td2,jj⟩hj e⟨q2,hpre2,hP2,hc2⟩;dsimp only at e hP2 ⊢;subst e;have hlj:tch[k][j]? =some tch[k][j]:=aO hj;obtain⟨p,hpn,hpe⟩:=htk2.2 _<|cL hj
      rw[hpe]at hlj;have hpf:=hP2.xd;have hrp:r p=h:=by rw[hC.co p (n+k) ⟨k,_,htk,fQ hlj,rfl⟩];exact hrk
      refine Sy htk ?_;rw[kd hj,aK];refine Sy htk<|Sy hlj<|Sy (hP2.sn p hpn) ?_
      refine Sr (P:=λst:List Bool×List Int×List Int=>∃q2,q1 <+:q2/\PS n r h q2 st.1 st.2.1 st.2.2/\∀(j' p:Nat),j'<j+1->tch[k][j']? =some ((p:Nat):Int)->p∈q2) (SP (λhb=>?_)<|λhb=>Sh ⟨q2,hpre2,hP2,λj' p' hj' hp'=>?_⟩)<|λst hst=>SJ ⟨bK (by omega),hst⟩
      ·have hpq:p∉q2:=by
        rw[Bool.not_eq_true',decide_eq_false_iff_not]at hb;exact λh=>hb<|.inr h
       refine Sy (hP2.sn p hpn)<|IT (DJ hP2.pi (by omega) hN)<|Td (by rw[hP2.td,mA];simp only[dX,List.length_nil];omega)<|Sh ⟨q2++[p],hpre2.trans<|List.prefix_append _ _,⟨?_,?_,?_,?_,?_,?_,?_,?_⟩,?_⟩
       ·rw[gY];exact hP2.sl
       ·intro p' hp';rw[cA,fY]
        by_cases e:p=p'
        ·subst e;rw[aC rfl,aC (by rw[hP2.sl];exact hpn)];congr 1;exact(bL<|.inr (by simp)).symm
        ·rw[aD e,hP2.sn p' hp'];congr 1;rw[decide_eq_decide,cR];simp only[kp];constructor
         ·exact λh=>h.elim .inl<|λh=> .inr<|.inl h
         ·exact λh=>h.elim .inl<|λh=>h.elim .inr<|λh=>absurd h.symm e
       ·rw[List.nodup_append];exact⟨hP2.qn,by simp,λa ha b hb=>by simp at hb;subst hb;exact λe=>hpq<|e▸ha⟩
       ·intro p' hp'
        rcases cR.1 hp' with hp'|hp'
        ·exact hP2.qi p' hp'
        ·simp at hp';subst hp';exact⟨hpn,hrp⟩
       ·exact List.mem_append_left _ hP2.q0
       ·dsimp only;rw[hP2.td,rJ];rfl
       ·exact vE hP2.pi
       ·intro x;rw[Dw,hP2.pm];constructor
        ·rintro(⟨p',h1,h2⟩|h1)
         ·exact⟨p',List.mem_append_left _ h1,h2⟩
         ·exact⟨p,by simp,h1⟩
        ·rintro⟨p',h1,h2⟩
         rcases cR.1 h1 with h1|h1
         ·exact .inl ⟨p',h1,h2⟩
         ·simp at h1;subst h1;exact .inr h2
       ·intro j' p' hj' hp'
        by_cases e:j'=j
        ·subst e;rw[hlj]at hp';injection hp' with hp'
         have:p'=p:=by omega
         subst this;simp
        ·exact List.mem_append_left _<|hc2 j' p' (by omega) hp'
      ·by_cases e:j'=j
       ·subst e;rw[hlj]at hp';injection hp' with hp'
        have:p'=p:=by omega
        subst this;rw[Bool.not_eq_false',bJ]at hb
        rcases hb with hb|hb
        ·omega
        ·exact hb
       ·exact hc2 j' p' (by omega) hp'
     ·rintro⟨sn2,pi2,td2,jj⟩e⟨q2,hpre2,hP2,hc2⟩;dsimp only at e hP2 ⊢;subst e;refine Sy htk ?_;rw[lW,aM];refine SU ⟨q2,hpre2,hP2,λp hp=>?_⟩;obtain⟨j,hj⟩:=dZ hp;exact hc2 j p (bD.1 hj).1 hj
     intro o ho;refine SV ho ?_<|λr hr=>hr.elim
     rintro⟨sn2,pi2,td2,jj⟩⟨q2,hpre2,hP2,hc2⟩;dsimp only at hP2 ⊢;refine SJ ⟨bK (by omega),q2,qb1++[k],hpre.trans hpre2,λk' hk'=>List.mem_append_left _<|hsub k' hk',hP2,⟨?_,?_,?_,?_,?_⟩,λk' l hk' hl hm'=>?_⟩
     ·rw[gY];exact hQ1.ul
     ·intro k' hk';rw[cA,fY]
      by_cases e:k=k'
      ·subst e;rw[aC rfl,aC (by rw[hQ1.ul];exact hkm)];congr 1;exact(bL (by simp)).symm
      ·rw[aD e,hQ1.un k' hk'];congr 1;rw[decide_eq_decide,cR];simp only[kp];exact⟨.inl,λh=>h.elim id<|λh=>absurd h.symm e⟩
     ·exact vE hQ1.bi
     ·intro x;rw[Dw,hQ1.bm];constructor
      ·rintro(⟨p',h1,h2⟩|h1)
       ·exact⟨p',List.mem_append_left _ h1,h2⟩
       ·exact⟨k,by simp,h1⟩
      ·rintro⟨p',h1,h2⟩
       rcases cR.1 h1 with h1|h1
       ·exact .inl ⟨p',h1,h2⟩
       ·simp at h1;subst h1;exact .inr h2
     ·intro k' hk'
      rcases cR.1 hk' with hk'|hk'
      ·obtain⟨h1,h2,h3⟩:=hQ1.bk k' hk';exact⟨h1,h2,λl hl p hp=>hpre2.subset<|h3 l hl p hp⟩
      ·simp at hk';subst hk';refine⟨hkm,hrk,λl hl p hp=>?_⟩;rw[htk]at hl;injection hl with hl
       exact hc2 p (by rw[hl];exact hp)
     ·by_cases e:k'=k
      ·subst e;simp
      ·exact List.mem_append_left _<|hc1 k' l (by omega) hl hm'
   ·rintro⟨sn1,pi1,bo1,us1,td1,i'⟩e⟨q1,qb1,hpre,hsub,hP1,hQ1,hc1⟩;dsimp only at e hP1 hQ1 ⊢;subst e;rw[lW,aM];exact SU ⟨q1,qb1,hpre,hsub,hP1,hQ1,λk l hl=>hc1 k l (bD.1 hl).1 hl⟩
   intro o ho;refine SV ho ?_<|λr hr=>hr.elim
   rintro⟨sn1,pi1,bo1,us1,td1,i'⟩⟨q1,qb1,hpre,hsub,hP1,hQ1,hc1⟩;dsimp only at hP1 hQ1 ⊢;refine SJ ⟨⟨q1,qb1,t+1,bK (by omega),by have:=hpre.length_le;omega,hP1,hQ1,λj p k l hj hjp hl hm'=>?_⟩,?_⟩
   ·by_cases e:j=t
    ·subst e;rw[BC hpre hqt]at hjp;injection hjp with hjp;subst hjp
     exact hc1 k l hl hm'
    ·have hjq:q[j]? =some (q[j]'(by omega)):=aO _;rw[BC hpre hjq]at hjp;injection hjp with hjp;subst hjp
     exact hsub k<|hcl j _ k l (by omega) hjq hl hm'
   ·rw[bK (by omega)];simp only[cA];omega
  ·rw[AK (by omega:td.length<=t),aM];have htq':t=q.length:=by omega
   have hclosed:∀i j,Lk n tch i j->(((i<n/\i∈q)\/∃k,k∈qb/\i=n+k)↔((j<n/\j∈q)\/∃k,k∈qb/\j=n+k)):=by
    rintro i j⟨k,l,hl,hil,rfl⟩;obtain⟨i',hi',ei⟩:=(ht l<|fQ hl).2 _ hil;have:i'=i:=by omega
    subst this;constructor
    ·rintro(⟨_,h1⟩|⟨k',_,h1⟩)
     ·obtain⟨p,hp⟩:=dZ h1;exact .inr ⟨k,hcl p i' k l (by rw[htq'];exact(bD.1 hp).1) hp hl hil,rfl⟩
     ·omega
    ·rintro(⟨h1,_⟩|⟨k',h1,h2⟩)
     ·omega
     ·have:k'=k:=by omega
      subst this;exact .inl ⟨hi',(hQ.bk k' h1).2.2 l hl i' hil⟩
   have hall:∀x,x<n+m->r x=h->(x<n/\x∈q)\/∃k,k∈qb/\x=n+k:=λx hx hrx=>hC.fi _ hclosed h x (by omega) hx (by rw[hr,hrx])<|.inl ⟨hh,hP.q0⟩
   refine SU ⟨?_,?_,hP.sl,λp hp=>?_⟩
   ·refine Cx hP.pi (N9 _ _ _ _) λx=>?_;rw[hP.pm,rK];constructor
    ·rintro⟨p,h1,h2⟩;exact⟨p,FR.2 ⟨(hP.qi p h1).1,by have:=(hP.qi p h1).1;omega,(hP.qi p h1).2⟩,h2⟩
    ·rintro⟨p,h1,h2⟩;obtain⟨g1,g2,g3⟩:=FR.1 h1
     rcases hall p g2 g3 with⟨_,g4⟩|⟨k,_,g4⟩
     ·exact⟨p,g4,h2⟩
     ·omega
   ·refine Cx hQ.bi (Lu _ _ _ _ _) λx=>?_;rw[hQ.bm,rK];constructor
    ·rintro⟨k,h1,h2⟩;obtain⟨g1,g2,g3⟩:=hQ.bk k h1;refine⟨k,BF.2 ⟨by omega,g2,?_⟩,h2⟩;have hk:tch[k]? =some (tch[k]'(by omega)):=aO _;refine hpl k _ hk λhemp=>?_;have uS:∀i j,Lk n tch i j->((i=n+k)↔(j=n+k)):=by
      rintro i j⟨k',l,hl,hil,rfl⟩;obtain⟨i',hi',ei⟩:=(ht l<|fQ hl).2 _ hil;constructor
      ·intro;omega
      ·intro e;have:k'=k:=by omega
       subst this;rw[hk]at hl;injection hl with hl
       rw[<-hl,hemp]at hil;cases hil
     have:=hC.fi (λx=>x=n+k) uS (n+k) h (by omega) (by omega) (by rw[g2,hr]) rfl;omega
    ·rintro⟨k,h1,h2⟩;obtain⟨g1,g2,_⟩:=BF.1 h1
     rcases hall (n+k) g1 g2 with⟨g4,_⟩|⟨k',g3,g4⟩
     ·omega
     ·have:k'=k:=by omega
      subst this;exact⟨k',g3,h2⟩
   ·rw[hP.sn p hp];congr 1;rw[decide_eq_decide];constructor
    ·rintro(h1|h1)
     ·omega
     ·have:=(hP.qi p h1).2;omega
    ·intro h1
     by_cases e:r p=h
     ·rcases hall p (by omega) e with⟨_,g4⟩|⟨k,_,g4⟩
      ·exact .inr g4
      ·omega
     ·exact .inl (by omega)
 ·refine⟨by rw[gY];exact hsl,λp hp=>?_,by simp,λp hp=>by simp at hp;subst hp;exact⟨hh,hr⟩,by simp,rfl,List.pairwise_singleton _ _,λx=>by simp⟩;rw[cA,fY]
  by_cases e:h=p
  ·subst e;rw[aC rfl,aC (by rw[hsl];exact hh)];congr 1;exact(bL<|.inr (by simp)).symm
  ·rw[aD e,hsn p hp];congr 1;rw[decide_eq_decide];simp only[kp];omega
 ·exact⟨by rw[vM];exact hm,λk hk=>by simp[hm,hk],kN,λx=>by simp,λk hk=>by cases hk⟩
 intro o ho;refine SV ho ?_<|λr hr=>hr.elim
 rintro⟨sn,pi,bo,us,td,t'⟩⟨h1,h2,h3,h4⟩;exact Sh ⟨h1,h2,rfl,h3,h4⟩
end
theorem E1(bs:List bT)(n t:Nat)(r:Nat->Nat)(hs:List Nat)(h:Nat):mB bs n t r (hs++[h])=if Hd bs n (cls t r h)=true then mB bs n t r hs++[Nm bs n<|cls t r h]else mB bs n t r hs:=by
 unfold mB;rw[EU];split
 ·rw[eG];rfl
 ·rfl
def My(bs:List bT)(n m:Nat)(r:Nat->Nat)(h:dP):Nat:=gi bs n (n+m) r<|r<|eF n h
structure Oa (G G':List cK):Prop where
 len:G'.length=G.length
 each:∀(g:Nat)x,G[g]? =some x->∃y,G'[g]? =some y/\y.k8=x.k8/\y.aQ=x.aQ
theorem Ej(G:List cK)(lg:cX->Option Nat)(ls:List cX):Oa G (gR G lg ls):=
 ⟨AE _ _ _,λg x hx=>⟨{x with gS:=(ls.filter<|λl=>decide<|lg l=some g).map kK},by rw[kc,hx];rfl,rfl,rfl⟩⟩
section
variable {N:Nat}
theorem DM{bs:List bT}{n m:Nat}{r:Nat->Nat}(hbm:bs.length=m)(hn:n<=1000000)(hm:m<=1000000)(hle:∀i,i<n+m->r i<=i)(hrr:∀i,i<n+m->r (r i)=r i){G:List cK}(hG:Oa (mB bs n (n+m) r<|bU (n+m) r) G){h:dP}(hh:EV bs n m h)(hN:4398046511104<=N):
  eN N G h=some ((My bs n m r h:Nat):Int)/\My bs n m r h<G.length:=by
 obtain⟨k,hk,hkb,hkp⟩:=hh.num;have hx:eF n h<n+m:=by
  unfold eF
  by_cases hb:h.bT=true
  ·rw[aC hb];have:=(hkb hb).1;omega
  ·rw[aD hb];have:=hkp (by simpa using hb);omega
 have hhead:r (eF n h)∈bU (n+m) r:=j5.2 ⟨by have:=hle _ hx;omega,hrr _ hx⟩;have hne:Hd bs n (cls (n+m) r<|r<|eF n h)=true:=by
  unfold eF at hx ⊢
  by_cases hb:h.bT=true
  ·rw[aC hb]at hx ⊢;rw[hk,cA]at hx ⊢;exact Jh (hkb hb).2 hx
  ·rw[aD hb]at hx ⊢;rw[hk,cA]at hx ⊢;exact Jg (hkp (by simpa using hb)) hx
 obtain⟨g1,g2⟩:=Jf (bs:=bs) (n:=n) hhead hne;have hlen:G.length=(live bs n (n+m) r<|bU (n+m) r).length:=by rw[hG.len,vB]
 have hlive:(live bs n (n+m) r<|bU (n+m) r).Nodup:=List.Nodup.sublist List.filter_sublist<|oq _ _
 have hll:(live bs n (n+m) r<|bU (n+m) r).length<=n+m:=by
  have:=sO bs n (n+m) r<|bU (n+m) r
  have:=mx (n+m) r;omega
 have hval:∀(g:Nat)y,G[g]? =some y->Ok (bif h.bT then((idx G ((g:Nat):Int)).bind λx241=>(cY N x241.aQ h.Number).bind λx250=>bif x250 then some true else(bif(!h.bT)then((idx G ((g:Nat):Int)).bind λx253=>(cY N x253.k8 h.Number).bind λx262=>some x262)else some false))else(bif(!h.bT)then((idx G ((g:Nat):Int)).bind λx264=>(cY N x264.k8 h.Number).bind λx273=>some x273)else some false))
   (λb=>b=true↔(live bs n (n+m) r<|bU (n+m) r)[g]? =some (r<|eF n h)):=λg y hy=>by
  have hgl:g<(live bs n (n+m) r<|bU (n+m) r).length:=by have:=(bD.1 hy).1;omega
  have hlx:(live bs n (n+m) r<|bU (n+m) r)[g]? =some (live bs n (n+m) r<|bU (n+m) r)[g]:=aO hgl;have hgx:(mB bs n (n+m) r<|bU (n+m) r)[g]? =some (Nm bs n<|cls (n+m) r (live bs n (n+m) r<|bU (n+m) r)[g]):=by unfold mB;rw[fL,hlx];rfl
  obtain⟨y',hy',e1,e2⟩:=hG.each g _ hgx;rw[hy]at hy';injection hy' with hy';subst hy'
  generalize hhd:(live bs n (n+m) r<|bU (n+m) r)[g]=hd at *;have hpl:y.k8.length<=n+m/\y.aQ.length<=n+m:=by
   have:=Ih n<|cls (n+m) r hd
   have:=Ii bs n<|cls (n+m) r hd
   have:=Cw (n+m) r hd;rw[e1,e2];unfold Nm;simp only[mA];omega
  rw[hlx]
  cases hb:h.bT with
  |true=>
   rw[aK,cI hy,aB,wD (by omega) hN,aB];have hix:eF n h=n+k:=by unfold eF;rw[aC hb,hk,cA]
   have hiff:(h.Number∈y.aQ)↔hd=r (eF n h):=by
    rw[e2,hix];unfold Nm;dsimp only;rw[rK,hk];constructor
    ·rintro⟨i,hi,e⟩;have:i=k:=by omega
     subst this;exact(BF.1 hi).2.1.symm
    ·intro e;exact⟨k,BF.2 ⟨by have:=(hkb hb).1;omega,e.symm,(hkb hb).2⟩,rfl⟩
   by_cases hin:h.Number∈y.aQ
   ·rw[bL hin,aK];exact Sh ⟨λ_=>by rw[hiff.1 hin],λ_=>rfl⟩
   ·rw[bG hin,aM,jz,aM];refine Sh ⟨λh=>(by cases h),λh=>?_⟩;injection h with h
    exact absurd (hiff.2 h) hin
  |false=>
   rw[aM,jo,aK,cI hy,aB,wD (by omega) hN,aB];have hix:eF n h=k:=by unfold eF;rw[aD (by rw[hb];exact j8),hk,cA]
   have hiff:(h.Number∈y.k8)↔hd=r (eF n h):=by
    rw[e1,hix];unfold Nm;dsimp only;rw[rK,hk];constructor
    ·rintro⟨i,hi,e⟩;have:i=k:=by omega
     subst this;exact(FR.1 hi).2.2.symm
    ·intro e;exact⟨k,FR.2 ⟨hkp hb,by have:=hkp hb;omega,e.symm⟩,rfl⟩
   refine Sh ?_;rw[bJ,hiff];exact⟨λh=>by rw[h],λh=>by injection h⟩
 refine⟨Tm ?_,by unfold My;omega⟩;unfold eN My;refine Sr (Tb (n:=G.length) (λs=>s) (λk _=>∀g,g<k->(live bs n (n+m) r<|bU (n+m) r)[g]? ≠some (r<|eF n h)) (Go:=λ_=>False) (Rt:=λs=>s=((gi bs n (n+m) r (r<|eF n h):Nat):Int)) ?_ ?_ (cZ _) rfl (λg hg=>by omega) (by omega)) ?_
 ·rintro g s hg e hI;subst e;rw[kd hg,aK];refine Sr (hval g _<|aO hg) λb hb=>?_
  cases b with
  |true=>
   refine Tn ?_;have:=Bt hlive (hb.1 rfl) g2;rw[this]
  |false=>
   refine SJ ⟨bK (by omega),λg' hg'=>?_⟩
   by_cases e:g'=g
   ·subst e;intro h;have:=hb.2 h;cases this
   ·exact hI g' (by omega)
 ·rintro s e hI;exact absurd g2<|hI _ (by omega)
 intro o ho;exact SV ho (λ_ h=>h.elim)<|λr hr=>Sh hr
theorem Hx{bs:List bT}{pcs:List aH}{r:Nat->Nat}(hb:k6 bs)(hp:pcs.length<=1000000)(hpr:∀p∈pcs,p.iq.length<=1000000/\∀x∈p.iq,x.X0<x.X1)(hd:∀l:cX,∀b∈bs,∀p∈pcs,l7 l b=true->lz l p=true->False)
  (hle:∀i,i<pcs.length+bs.length->r i<=i) (hrr:∀i,i<pcs.length+bs.length->r (r i)=r i) {G:List cK} (hG:Oa (mB bs pcs.length (pcs.length+bs.length) r<|bU (pcs.length+bs.length) r) G) (l:cX) (hN:4398046511104<=N):
  fu N bs (pcs.map aH.dJ) (pcs.map aH.iq) G l=some (Eh bs pcs r l)/\∀g,uM bs pcs r l=some g->g<G.length:=by
 have hbl:=hb.len;unfold fu Eh uM;rw[E0 hb hp hpr l hN,aB,Jp<|hd l]
 cases hh:qj bs pcs l with
 |none=>exact⟨rfl,λg h=>by cases h⟩
 |some h=>
  obtain⟨e1,e2⟩:=DM (N:=N) rfl hp (by omega) hle hrr hG (Bu hh) hN;refine⟨?_,λg hg=>?_⟩
  ·dsimp only[Option.getD_some,Option.isSome_some];rw[jz,aM,e1,aB];rfl
  ·rw[Option.map_some]at hg;injection hg with hg
   rw[<-hg];exact e2
theorem Lv{bs:List bT}{pcs:List aH}:∀(k:Nat)l,(cP bs pcs)[k]? =some l->l≠[]->tH bs k=true:=λk l hl hne=>by
 unfold cP at hl;rw[fL,tX]at hl;obtain⟨b,hb,rfl⟩:=hl;unfold tH;rw[hb]
 cases hp:b.eP with
 |true=>simpa using hp
 |false=>
  exfalso;refine hne ?_;have:qe (iR b) pcs pcs.length= []:=by
   unfold qe;rw[List.filter_eq_nil_iff];intro j _;rw[jy,Option.any_eq_false];intro p _;unfold iR;rw[hp];rfl
  rw[this];rfl
theorem Kh{bs:List bT}{ls:List cX}{pcs:List aH}{r:Nat->Nat}(hb:k6 bs)(hp:pcs.length<=2000)(hl:ls.length<=1000000)(hpr:∀p∈pcs,p.iq.length<=1000000/\∀x∈p.iq,x.X0<x.X1)(hd:∀l:cX,∀b∈bs,∀p∈pcs,l7 l b=true->lz l p=true->False)
  (hC:Ci pcs.length bs.length (cP bs pcs) r) (hN:4398046511104<=N):
  fP N bs ls (pcs.map aH.dJ) (pcs.map aH.iq) (cP bs pcs)=some (gR (mB bs pcs.length (pcs.length+bs.length) r<|bU (pcs.length+bs.length) r) (uM bs pcs r) ls):=by
 refine Tm ?_;have hbl:=hb.len;have htl:(cP bs pcs).length=bs.length:=by unfold cP;rw[dA]
 have hto:=xQ (bs:=bs) (pcs:=pcs) (by omega);have hgl:∀hs:List Nat,(mB bs pcs.length (pcs.length+bs.length) r hs).length<=hs.length:=λhs=>by rw[vB];exact sO _ _ _ _ _
 unfold fP;rw[dA];refine IT (pE false (by omega)) ?_
 refine Sr (Tb (n:=pcs.length) (λst=>st.2.2) (λi st=>st.1=mB bs pcs.length (pcs.length+bs.length) r (bU i r)/\st.2.1.length=pcs.length/\∀p,p<pcs.length->st.2.1[p]? =some (decide (r p<i)))
  (Go:=λst=>st.1=mB bs pcs.length (pcs.length+bs.length) r (bU pcs.length r)) (Rt:=λ_=>False) ?_ ?_ (cZ _) rfl ⟨by simp[bU,mB,live],by simp,λp hp=>by simp[hp]⟩ (by omega)) ?_
 ·rintro i⟨G,sn,ii⟩hi e⟨hG,hsl,hsn⟩;dsimp only at e hG hsl hsn ⊢;subst e;subst hG;rw[kd hi,aK];refine Sy (hsn i hi) ?_;refine Sr (P:=λst:List cK×List Bool=>st.1=mB bs pcs.length (pcs.length+bs.length) r (bU (i+1) r)/\st.2.length=pcs.length/\∀p,p<pcs.length->st.2[p]? =some (decide<|r p<i+1)) (SP (λhb=>?_)<|λhb=>Sh ⟨?_,hsl,λp hp=>?_⟩)<|λst hst=>SJ ⟨bK (by omega),hst⟩
  ·rw[Bool.not_eq_true',decide_eq_false_iff_not]at hb;have hri:r i=i:=by have:=hC.le i (by omega);omega
   refine Sr (Hv (bs:=bs) hC htl hto (by omega) (by omega) Lv hi hri hsl hsn hN) λx hx=>?_;obtain⟨x1,x2,x3,x4,x5⟩:=hx;have h1:=hgl<|bU i r
   have h2:=mx i r;refine Td (by simp only[dX,List.length_nil];omega)<|Sh ⟨?_,x4,x5⟩
   dsimp only;have hne:Hd bs pcs.length (cls (pcs.length+bs.length) r i)=true:=by
    have:=Jg (bs:=bs) (r:=r) hi (show i<pcs.length+bs.length by omega);rwa[hri]at this
   rw[ij,aC hri,E1,aC hne,x1,x2,x3];rfl
  ·rw[Bool.not_eq_false',bJ]at hb;dsimp only;rw[ij,aD (by omega)]
  ·rw[Bool.not_eq_false',bJ]at hb;rw[hsn p hp];congr 1;rw[decide_eq_decide];have hne:r p≠i:=λe=>by have:=hC.rr p (by omega);rw[e]at this;omega
   omega
 ·rintro⟨G,sn,ii⟩e⟨hG,_,_⟩;dsimp only at e hG ⊢;subst e;rw[lW,aM];exact SU hG
 intro o ho;refine SV ho ?_<|λr hr=>hr.elim
 rintro⟨G,sn,ii⟩hG;dsimp only at hG ⊢;subst hG;rw[htl];have halone:∀k,k<bs.length->(cP bs pcs)[k]? =some []->∀x,x<pcs.length+bs.length->(r x=r (pcs.length+k)↔x=pcs.length+k):=λk hk hemp x hx=>by
  constructor
  ·intro e;refine hC.fi (λy=>y=pcs.length+k) ?_ (pcs.length+k) x (by omega) hx e.symm rfl;rintro i j⟨k',l,hl,hil,rfl⟩;obtain⟨i',hi',ei⟩:=(hto l<|fQ hl).2 _ hil;constructor
   ·intro;omega
   ·intro e;have:k'=k:=by omega
    subst this;rw[hemp]at hl;injection hl with hl
    rw[<-hl]at hil;cases hil
  ·intro e;rw[e]
 refine Sr (Tb (n:=bs.length) (λst=>st.2) (λi st=>st.1=mB bs pcs.length (pcs.length+bs.length) r (bU (pcs.length+i) r))
  (Go:=λst=>st.1=mB bs pcs.length (pcs.length+bs.length) r (bU (pcs.length+bs.length) r)) (Rt:=λ_=>False) ?_ ?_ (cZ _) rfl rfl (by omega)) ?_
 ·rintro i⟨G,ii⟩hi e hG;dsimp only at e hG ⊢;subst e;subst hG;rw[kd hi,aK];have hx:bs[i]? =some bs[i]:=aO hi;have htx:(cP bs pcs)[i]? =some ((cP bs pcs)[i]'(by omega)):=aO _;have hpi:tH bs i=bs[i].eP:=by unfold tH;rw[hx];rfl
  have hlen:=hgl<|bU (pcs.length+i) r
  have hhl:=mx (pcs.length+i) r;have hcond:((idx bs ((i:Nat):Int)).bind λx210=>bif x210.eP then((idx (cP bs pcs) ((i:Nat):Int)).bind λx214=>some<|(x214.length:Int)==0)else some false)=some (tH bs i&&decide ((cP bs pcs)[i]'(by omega)= [])):=by
   rw[cI hx,aB,cI htx,aB,hpi]
   cases bs[i].eP with
   |false=>rfl
   |true=>
    rw[aK,Bool.true_and];congr 1;rw[dY,bJ,beq_iff_eq];constructor
    ·intro h;exact List.eq_nil_of_length_eq_zero (by omega)
    ·intro h;rw[h];rfl
  refine IT hcond ?_;have hstep:mB bs pcs.length (pcs.length+bs.length) r (bU (pcs.length+(i+1)) r)=if(tH bs i&&decide ((cP bs pcs)[i]'(by omega)= []))=true then mB bs pcs.length (pcs.length+bs.length) r (bU (pcs.length+i) r)++[⟨[],[((i:Nat):Int)],[]⟩]else mB bs pcs.length (pcs.length+bs.length) r (bU (pcs.length+i) r):=by
   rw[<-Nat.add_assoc,ij]
   by_cases hemp:(cP bs pcs)[i]'(by omega)= []
   ·rw[hemp]at htx;have uS:=halone i hi htx;have hri:r (pcs.length+i)=pcs.length+i:=by
     have h1:=hC.le (pcs.length+i) (by omega);exact(uS _ (by omega)).1<|hC.rr _ (by omega)
    rw[aC hri,E1];have hcl:∀x,x∈cls (pcs.length+bs.length) r (pcs.length+i)↔x=pcs.length+i:=λx=>by
     rw[rh];constructor
     ·rintro⟨h1,h2⟩;exact(uS x h1).1 (by rw[h2,hri])
     ·intro h;subst h;exact⟨by omega,hri⟩
    have hgp:gP pcs.length (cls (pcs.length+bs.length) r<|pcs.length+i)= []:=by
     unfold gP;rw[List.filter_eq_nil_iff];intro x hx;rw[(hcl x).1 hx];simp
    by_cases hpl:tH bs i=true
    ·have hne:Hd bs pcs.length (cls (pcs.length+bs.length) r<|pcs.length+i)=true:=by
      have:=Jh (bs:=bs) (n:=pcs.length) (r:=r) hpl (show pcs.length+i<pcs.length+bs.length by omega);rwa[hri]at this
     rw[aC hne,aC (by rw[hpl,bL hemp];rfl)];congr 2;unfold Nm;rw[hgp];have hgb:ints (gB bs pcs.length<|cls (pcs.length+bs.length) r<|pcs.length+i)= [((i:Nat):Int)]:=by
      refine Cx (Lu _ _ _ _ _) (List.pairwise_singleton _ _) λx=>?_;rw[rK];simp only[kp];constructor
      ·rintro⟨k,h1,h2⟩;obtain⟨g1,g2,_⟩:=BF.1 h1;have:=(uS _ g1).1 (by rw[g2,hri]);omega
      ·intro h;exact⟨i,BF.2 ⟨by omega,hri,hpl⟩,h⟩
     rw[hgb];rfl
    ·have hne:¬Hd bs pcs.length (cls (pcs.length+bs.length) r<|pcs.length+i)=true:=by
      unfold Hd;have hgb:gB bs pcs.length (cls (pcs.length+bs.length) r<|pcs.length+i)= []:=by
       unfold gB;rw[List.map_eq_nil_iff,List.filter_eq_nil_iff];intro x hx;rw[(hcl x).1 hx,Nat.add_sub_cancel_left];simp[hpl]
      rw[hgp,hgb];simp
     rw[aD hne,aD (by rw[jy]at hpl ⊢;rw[hpl];rfl)]
   ·have hri:¬r (pcs.length+i)=pcs.length+i:=λe=>by
     obtain⟨x,hxm⟩:=List.exists_mem_of_ne_nil _ hemp;obtain⟨p,hp1,hp2⟩:=(hto _<|cL (show i<(cP bs pcs).length by omega)).2 x hxm;have h1:=hC.co p (pcs.length+i) ⟨i,_,htx,by rw[<-hp2];exact hxm,rfl⟩;have h2:=hC.le p (by omega);omega
    rw[aD hri,aD (by rw[bG hemp,Bool.and_false];exact j8)]
  refine Sr (P:=λst:List cK=>st=mB bs pcs.length (pcs.length+bs.length) r (bU (pcs.length+(i+1)) r)) (SP (λhb=>?_)<|λhb=>Sh ?_)<|λst hst=>SJ ⟨bK (by omega),hst⟩
  ·refine Td (by simp only[dX,List.length_nil];omega)<|Sh ?_
   rw[hstep,aC hb]
  ·rw[hstep,aD (by rw[jy];exact hb)]
 ·rintro⟨G,ii⟩e hG;dsimp only at e hG ⊢;subst e;rw[lW,aM];exact SU hG
 intro o ho;refine SV ho ?_<|λr hr=>hr.elim
 rintro⟨G,ii⟩hG;dsimp only at hG ⊢;subst hG;have hGl:=hgl<|bU (pcs.length+bs.length) r
 have hhl:=mx (pcs.length+bs.length) r;generalize hGG:mB bs pcs.length (pcs.length+bs.length) r (bU (pcs.length+bs.length) r)=G at *;refine Sr (Tb (n:=ls.length) (λst=>st.2) (λi st=>st.1=gR G (uM bs pcs r) (ls.take i)) (Go:=λst=>st.1=gR G (uM bs pcs r) ls) (Rt:=λ_=>False) ?_ ?_ (cZ _) rfl ?_ (by omega)) ?_
 ·rintro i⟨W,ii⟩hi e hW;dsimp only at e hW ⊢;subst e;subst hW;rw[kd hi,aK];have hx:ls[i]? =some ls[i]:=aO hi;have hts:ls.take (i+1)=ls.take i++[ls[i]]:=eI hi;obtain⟨e1,e2⟩:=Hx (N:=N) (r:=r) hb (by omega) hpr hd hC.le hC.rr (G:=gR G (uM bs pcs r)<|ls.take i) (by rw[hGG];exact Ej _ _ _) ls[i] hN;refine Sy hx<|IT e1 ?_
  refine Sr (P:=λst:List cK=>st=gR G (uM bs pcs r) (ls.take<|i+1)) ?_<|λst hst=>SJ ⟨bK (by omega),hst⟩
  unfold Eh
  cases hg:uM bs pcs r ls[i]with
  |none=>
   dsimp only;rw[show decide ((-1:Int)>=0)=false by decide,aM];refine Sh ?_;rw[hts,yR hg]
  |some g=>
   have hgW:=e2 g hg;have hWg:(gR G (uM bs pcs r)<|ls.take i)[g]? =some (gR G (uM bs pcs r)<|ls.take i)[g]:=aO hgW;dsimp only;rw[bL (by omega),aK];have hpl:(gR G (uM bs pcs r)<|ls.take i)[g].gS.length<=ls.length:=by
    have:=hWg;rw[kc,tX]at this;obtain⟨y,_,hy⟩:=this;rw[<-hy];dsimp only;rw[dA];have:=pA (λl=>decide<|uM bs pcs r l=some g)<|ls.take i
    rw[cQ]at this;omega
   refine Sy hWg<|Td (by simp only[dX,List.length_nil];omega)<|Sy hWg<|Sh ?_
   rw[cA,hts];exact AF hg hWg
 ·rintro⟨W,ii⟩e hW;dsimp only at e hW ⊢;subst e;rw[lW,aM];exact SU (by rw[eK]at hW;exact hW)
 ·apply List.ext_getElem?;intro g;rw[kc]
  cases hGg:G[g]? with
  |none=>rfl
  |some x=>
   have hx0:x.gS= []:=by
    rw[<-hGG]at hGg;unfold mB at hGg;rw[fL,tX]at hGg;obtain⟨hd',_,rfl⟩:=hGg;rfl
   simp only[Option.map_some,List.take_zero,List.filter_nil,List.map_nil,Option.some.injEq];rw[<-hx0]
 intro o ho;exact SV ho (λst hst=>Sh hst)<|λr hr=>hr.elim
end
section
variable {N:Nat}{a:jr}{kS:List (List aA)}{dS:List (List (List aA))}{r:Nat->Nat}{gs:List cK}{ofP ofB l9:List Int}{lZ:List dP}
theorem l8.uk(b:l8 a kS dS r gs ofP ofB l9 lZ):vJ a:=Kf b.xR.uk
theorem B9(b:l8 a kS dS r gs ofP ofB l9 lZ)(hN:4398046511104<=N):
  iK N a=some (a.aJ,a.cN,a.aQ,a.bM,(cE 0 dS).map aH.dJ,(cE 0 dS).map aH.iq,gs,cP a.aQ<|cE 0 dS):=by
 refine Tm ?_;have hc16:=b.xR.xd.2;have hfew:=b.xd.2;have hbl:=b.xR.gb.len;have hll:=b.uk.xd;unfold iK;have hpl:∀k,(cE 0<|dS.take k).length<=2000:=λk=>by
  have h1:=yo (dS.take k) 0;have h2:=yo dS 0;have h3:((dS.take k).map List.length).sum<=(dS.map List.length).sum:=by
   conv=>rhs;rw[<-List.take_append_drop k dS,eG,List.sum_append]
   omega
  omega
 refine Sr (Tb (n:=a.aJ.length) (λst=>st.2.2) (λi st=>st.1=(cE 0<|dS.take i).map aH.dJ/\st.2.1=(cE 0<|dS.take i).map aH.iq) (Go:=λst=>st.1=(cE 0 dS).map aH.dJ/\st.2.1=(cE 0 dS).map aH.iq) (Rt:=λ_=>False) ?_ ?_ (cZ _) rfl ⟨rfl,rfl⟩ (by omega)) ?_
 ·rintro i⟨La,Re,ii⟩hi e⟨h1,h2⟩;dsimp only at e h1 h2 ⊢;subst e;subst h1;subst h2;rw[kd hi,aK];obtain⟨s,ps,u,hd,hp,L⟩:=B5 b hi;have hcx:a.aJ[i]? =some a.aJ[i]:=aO hi;have hcs:=b.xR.cs _<|cL hi
  have hip:=(bD.1 hp).1;have hts:cE 0 (dS.take<|i+1)=cE 0 (dS.take i)++ps.map (λp=>⟨((i:Nat):Int),p,aU p⟩):=by
   rw[eI hip,(bD.1 hp).2,wu,cQ];simp only[jm,show min i dS.length=i by omega]
  have hl1:=hpl i;have hl2:=hpl<|i+1
  rw[hts,dK,dA]at hl2;refine IT (xW b.xR.gb hcx hcs.1 hcs.2 L.dr hN)<|IT (L.pieces hN) ?_
  rw[dA]
  refine Sr (Tb (n:=ps.length) (λst=>st.2.2) (λj st=>st.1=(cE 0 (dS.take i)).map aH.dJ++(ps.take j).map (λ_=>((i:Nat):Int))/\st.2.1=(cE 0 (dS.take i)).map aH.iq++(ps.take j).map aU)
   (Go:=λst=>st.1=(cE 0 (dS.take (i+1))).map aH.dJ/\st.2.1=(cE 0 (dS.take (i+1))).map aH.iq) (Rt:=λ_=>False) ?_ ?_ (cZ _) rfl ⟨by simp,by simp⟩ (by omega)) ?_
  ·rintro j⟨La,Re,jj⟩hj e⟨h1,h2⟩;dsimp only at e h1 h2 ⊢;subst e;subst h1;subst h2;rw[kd hj,aK];have hx:(ps.map aU)[j]? =some (aU ps[j]):=by rw[fL,aO hj];rfl
   refine Td ?_<|Sy hx<|Td ?_<|SJ ⟨bK (by omega),?_,?_⟩
   ·rw[dK,dA,dA,cQ];simp only[dX,List.length_nil];omega
   ·rw[dK,dA,dA,cQ];simp only[dX,List.length_nil];omega
   ·dsimp only;rw[eI hj,eG,lL];rfl
   ·dsimp only;rw[eI hj,eG,lL];rfl
  ·rintro⟨La,Re,jj⟩e⟨h1,h2⟩;dsimp only at e h1 h2 ⊢;subst e;subst h1;subst h2;rw[lW,aM];refine SU ⟨?_,?_⟩
   ·dsimp only;rw[hts,eG,List.map_map,eK];rfl
   ·dsimp only;rw[hts,eG,List.map_map,eK];rfl
  intro o ho;exact SV ho (λst hst=>SJ ⟨bK (by omega),hst⟩)<|λr hr=>hr.elim
 ·rintro⟨La,Re,ii⟩e⟨h1,h2⟩;dsimp only at e h1 h2 ⊢;subst e;rw[lW,aM];rw[mF (by rw[b.dr.Bq];exact bZ _)]at h1 h2;exact SU ⟨h1,h2⟩
 intro o ho;refine SV ho ?_<|λr hr=>hr.elim
 rintro⟨La,Re,ii⟩⟨h1,h2⟩;dsimp only at h1 h2 ⊢;subst h1;subst h2;rw[dA];have hpf:=λp hp=>AO b (p:=p) hp;generalize hpcs:cE 0 dS=pcs at *;refine Sr (Tb (n:=a.aQ.length) (λst=>st.2) (λi st=>st.1=cP (a.aQ.take i) pcs) (Go:=λst=>st.1=cP a.aQ pcs) (Rt:=λ_=>False) ?_ ?_ (cZ _) rfl rfl (by omega)) ?_
 ·rintro i⟨T,ii⟩hi e hT;dsimp only at e hT ⊢;subst e;subst hT;rw[kd hi,aK];have hx:a.aQ[i]? =some a.aQ[i]:=aO hi;have hg:=b.xR.gb.ok _<|cL hi
  have hsq:=Nl hg.1 hg.2;have hplain:¬a.aQ[i].eP=true->qe (iR a.aQ[i]) pcs pcs.length= []:=λhp=>by
   unfold qe;rw[List.filter_eq_nil_iff];intro j _;rw[jy,Option.any_eq_false];intro p _;unfold iR;rw[jy]at hp;rw[hp];rfl
  refine Sr (Tw (Go:=λst=>st.1=ints (qe (iR a.aQ[i]) pcs pcs.length)) (Rt:=λ_=>False) (λst=>∃j:Nat,st.2=((j:Nat):Int)/\j<=pcs.length/\st.1=ints (qe (iR a.aQ[i]) pcs j)) (λst=>pcs.length - st.2.toNat) ?_ ⟨0,rfl,cZ _,rfl⟩ (by simp;omega)) ?_
  ·rintro⟨ow,jj⟩⟨j,e,hj,ho⟩;dsimp only at e ho ⊢;subst e;subst ho
   by_cases hlt:j<pcs.length
   ·rw[kd hlt,aK,cI hx,aB,aB];refine SP (λhpl=>?_)<|λhpl=>SU ?_
    ·have hpx:pcs[j]? =some pcs[j]:=aO hlt;have hlx:(pcs.map aH.dJ)[j]? =some pcs[j].dJ:=by rw[fL,hpx];rfl
     have hrx:(pcs.map aH.iq)[j]? =some pcs[j].iq:=by rw[fL,hpx];rfl
     obtain⟨f1,f2,_⟩:=hpf _<|cL hlt
     have hil:=Bs (iR a.aQ[i]) pcs j;have hcond:((some a.aQ[i]).bind λx932=>(idx (pcs.map aH.dJ) ((j:Nat):Int)).bind λx935=>(fT N x932 x935).bind λx936=>bif x936 then((idx (pcs.map aH.iq) ((j:Nat):Int)).bind λx938=>(some a.aQ[i]).bind λx941=>(cO N x941).bind λx944=>(jV N x938 x944).bind λx946=>some x946)else some false)=some (iR a.aQ[i] pcs[j]):=by
      rw[aB,cI hlx,aB,wC,aB,cI hrx,aB,aB,nv hg.1,aB,Mx (by omega) (λq hq=>FI (f2 q hq).1 (f2 q hq).2.1 (f2 q hq).2.2) hsq hN,aB];unfold iR;rw[hpl,Bool.true_and]
      cases kL a.aQ[i] pcs[j].dJ <;> rfl
     refine IT hcond ?_;refine Sr (P:=λst:List Int=>st=ints (qe (iR a.aQ[i]) pcs<|j+1)) (SP (λhb=>?_)<|λhb=>Sh ?_)<|λst hst=>SJ ⟨⟨j+1,bK (by omega),hlt,hst⟩,?_⟩
     ·refine Td (by rw[mA];simp only[dX,List.length_nil];omega)<|Sh ?_
      rw[zv hpx,aC hb,rJ];rfl
     ·rw[zv hpx,aD (by rw[jy];exact hb)]
     ·dsimp only;rw[bK (by omega)];simp only[cA];omega
    ·have hn:=hplain (by rw[hpl];exact j8);have hj0:qe (iR a.aQ[i]) pcs j= []:=by
      unfold qe;rw[List.filter_eq_nil_iff];intro j' hj';rw[jy,Option.any_eq_false];intro p _;unfold iR;rw[hpl];rfl
     dsimp only;rw[hn,hj0]
   ·have:j=pcs.length:=by omega
    subst this;rw[lW,aM,aB,aM];exact SU rfl
  intro o ho;refine SV ho ?_<|λr hr=>hr.elim
  rintro⟨ow,jj⟩ho2;dsimp only at ho2 ⊢;subst ho2;refine Td ?_<|SJ ⟨bK (by omega),?_⟩
  ·unfold cP;rw[dA,cQ];simp only[dX,List.length_nil];omega
  ·dsimp only;unfold cP;rw[eI hi,eG];rfl
 ·rintro⟨T,ii⟩e hT;dsimp only at e hT ⊢;subst e;rw[lW,aM];exact SU (by rw[eK]at hT;exact hT)
 intro o ho;refine SV ho ?_<|λr hr=>hr.elim
 rintro⟨T,ii⟩hT;dsimp only at hT ⊢;subst hT;have hcon:=b.Np;rw[hpcs]at hcon;have hnb:=λl=>Jq b l;rw[hpcs]at hnb;refine IT (Kh (r:=r) b.xR.gb (by omega) (by omega) (λp hp=>⟨by have:=(hpf p hp).1;omega,λx hx=>((hpf p hp).2.1 x hx).2.1⟩) hnb hcon.conn hN)<|Sh ?_
 rw[<-hcon.gs]
end
section
variable {N:Nat}{a:jr}{kS:List (List aA)}{dS:List (List (List aA))}{r:Nat->Nat}{gs:List cK}{ofP ofB l9:List Int}{lZ:List dP}
end
section
variable {N:Nat}
end
section
variable {bs:List bT}{ls:List cX}{pcs:List aH}{r:Nat->Nat}{gs:List cK}{ofP ofB l9:List Int}{lZ:List dP}
end
section
variable {N:Nat}{a:jr}{kS:List (List aA)}{dS:List (List (List aA))}{r:Nat->Nat}{gs:List cK}{ofP ofB l9:List Int}{lZ:List dP}
end
section
variable {N:Nat}
end
section
variable {N:Nat}{a:jr}{kS:List (List aA)}{dS:List (List (List aA))}{r:Nat->Nat}{gs:List cK}{ofP ofB l9:List Int}{lZ:List dP}
theorem Jr(x:cX)(p:dO):kK x=p↔x.Part=p.Part/\x.dO=p.dO:=by
 cases p;unfold kK;rw[dO.mk.injEq]
theorem s9(g:vJ a)(p:dO)(hN:4398046511104<=N):il N a p=some (jI a p):=by
 obtain⟨r,h1,h2⟩:=Hr (N:=N) (p:=p) g.up (by have:=g.xd;omega) (by omega) (φ:=jS N) (λx=>by unfold jS;rw[Bo,aB,m9,aB]);unfold il;have e:gN N a.bM p (jS N)=KX N a.bM p (jS N):=rfl;rw[e,h1,aB];exact h2
end
section
variable {N:Nat}
end
theorem Ci.uniq{n m:Nat}{tch:List (List Int)}{r1 r2:Nat->Nat}(h1:Ci n m tch r1)(h2:Ci n m tch r2){i j:Nat}(hi:i<n+m)(hj:j<n+m):r1 i=r1 j↔r2 i=r2 j:=by
 have key:∀{r1 r2:Nat->Nat},Ci n m tch r1->Ci n m tch r2->r1 i=r1 j->r2 i=r2 j:=λ{r1 r2}h1 h2 e=>
  (h1.fi (λx=>r2 i=r2 x) (λa b hab=>by rw[h2.co a b hab]) i j hi hj e) rfl
 exact⟨key h1 h2,key h2 h1⟩
section
variable {N:Nat}{a:jr}{kS:List (List aA)}{dS:List (List (List aA))}{r:Nat->Nat}{gs:List cK}{ofP ofB l9:List Int}{lZ:List dP}
theorem Ob(x y:Int)(u:List Int):jT N x y [] u=eV N u x y:=by
 show(((eV N u x y).bind λx38=>some x38).bind λs36=>some s36)=_
 cases eV N u x y <;> rfl
theorem FT{bs:List bT}{pcs:List aH}{l:cX}{h:dP}(hh:qj bs pcs l=some h)(hn:pcs.length+bs.length<=1000000000):
  i7 N h ((pcs.length:Nat):Int)=some ((eF pcs.length h:Nat):Int)/\eF pcs.length h<pcs.length+bs.length:=by
 obtain⟨k,e,h1,h2⟩:=(Bu hh).num;unfold i7 eF
 cases hB:h.bT with
 |true=>
  have:=(h1 hB).1;rw[aK,aC rfl,e,cA,wrap_add (by omega)];exact⟨rfl,by omega⟩
 |false=>
  have:=h2 hB;rw[aM,aD j8,e,cA];exact⟨rfl,by omega⟩
structure Mz (bs:List bT) (pcs:List aH) (ls:List cX) (r2:Nat->Nat) (j:Nat) (up:List Int) (fm:List (Int×Int)) (out:List Int):Prop where
 uf:UF (pcs.length+bs.length) up r2
 len:out.length=ls.length
 no:∀i l,i<j->ls[i]? =some l->qj bs pcs l=none->out[i]? =some (-1)
 yes:∀i l h,i<j->ls[i]? =some l->qj bs pcs l=some h->lA fm ((r2 (eF pcs.length h):Nat):Int)=true/\out[i]? =some (fD fm ((r2 (eF pcs.length h):Nat):Int) 0)
 low:∀x,lA fm x=true->∃v:Nat,fD fm x 0=((v:Nat):Int)/\v<j
 inj:∀x y,lA fm x=true->lA fm y=true->fD fm x 0=fD fm y 0->x=y
theorem Iu{bs:List bT}{pcs:List aH}{ls:List cX}(hn:pcs.length+bs.length<=1000000000)(hp:pcs.length<=1073741824)(hbl:bs.length<=1073741824)(hl:ls.length<=1073741824)(hof:l9=ls.map (Eh bs pcs r))(hat:lZ=ls.map (λl=>(qj bs pcs l).getD ⟨false,0⟩))(hN:4398046511104<=N):
  ∃r2 c up fm,gF N bs ls pcs (cP bs pcs) l9 lZ []=some c/\Ci pcs.length bs.length (cP bs pcs) r2/\Mz bs pcs ls r2 ls.length up fm c:=by
 suffices h:Ok (gF N bs ls pcs (cP bs pcs) l9 lZ []) (λc=>∃r2 up fm,Ci pcs.length bs.length (cP bs pcs) r2/\Mz bs pcs ls r2 ls.length up fm c)by
  obtain⟨c,h1,r2,up,fm,h2,h3⟩:=h;exact⟨r2,c,up,fm,h1,h2,h3⟩
 unfold gF;refine IT (x:=[]) rfl ?_;rw[wrap_add (by omega)];obtain⟨up0,u1,u2⟩:=xK (N:=N) (n:=pcs.length+bs.length) (by omega);refine IT u1 ?_;simp only[Ob];refine Sr (ET (n:=pcs.length) (m:=bs.length) (by unfold cP;simp) (xQ (by omega)) (by omega) (by omega) u2 hN) ?_;rintro up1⟨r2,v1,v2⟩;refine IT (x:=up1) rfl<|IT (pE 0 (by omega)) ?_
 have uS:lZ.length=ls.length:=by rw[hat,dA]
 refine Sr (Ts (λj(st:List Int×List (Int×Int)×List Int)=>Mz bs pcs ls r2 j st.1 st.2.1 st.2.2) (by omega) ⟨v1,by simp,λi l h=>by omega,λi l h h1=>by omega,λx hx=>(by cases hx),λx y hx=>(by cases hx)⟩ ?_)<|λst I=>Sh ⟨r2,st.1,st.2.1,v2,by rw[<-uS];exact I⟩
 rintro j⟨up,fm,out⟩hj I;rw[uS]at hj;dsimp only at I ⊢;have hx:ls[j]? =some ls[j]:=aO hj;have h1:lZ[j]? =some ((qj bs pcs ls[j]).getD ⟨false,0⟩):=by rw[hat,fL,hx];rfl
 have h2:l9[j]? =some (Eh bs pcs r ls[j]):=by rw[hof,fL,hx];rfl
 have h3:out[j]? =some (out[j]'(by rw[I.len];exact hj)):=aO _;have hjo:j<out.length:=by rw[I.len];exact hj
 refine Sy h1 ?_
 cases hh:qj bs pcs ls[j]with
 |none=>
  have e1:Eh bs pcs r ls[j] = -1:=by unfold Eh uM;rw[hh];rfl
  refine IT (x:=0) rfl<|IT (x:=true) (by rw[cI h2,aB,e1];rfl) ?_
  refine Sy h3<|Sh ?_
  dsimp only;rw[cA];refine⟨I.uf,by rw[gY];exact I.len,λi l hi hil hn=>?_,λi l h hi hil hs=>?_,λx hx=>?_,I.inj⟩
  ·by_cases e:i=j
   ·subst e;rw[List.getElem?_set_self hjo]
   ·rw[List.getElem?_set_ne<|Ne.symm e];exact I.no i l (by omega) hil hn
  ·by_cases e:i=j
   ·subst e;rw[hx]at hil;injection hil with hil;subst hil;rw[hh]at hs;cases hs
   ·rw[List.getElem?_set_ne<|Ne.symm e];exact I.yes i l h (by omega) hil hs
  ·obtain⟨v,q1,q2⟩:=I.low x hx;exact⟨v,q1,by omega⟩
 |some h=>
  obtain⟨c1,c2⟩:=FT (N:=N) hh hn;have e1:∃g:Nat,Eh bs pcs r ls[j]=((g:Nat):Int):=by unfold Eh uM;rw[hh];exact⟨_,rfl⟩
  obtain⟨g,e1⟩:=e1;refine IT c1<|IT (x:=false) (by rw[cI h2,aB,e1,bG (show ¬((g:Nat):Int)<0 by omega),aM];rfl) ?_
  rw[aM];obtain⟨up2,t1,t2⟩:=r5 (N:=N) I.uf c2 (by omega);refine IT t1 ?_;dsimp only;have fin:∀(up3:List Int)(fm2:List (Int×Int)),UF (pcs.length+bs.length) up3 r2->(∀x,lA fm x=true->lA fm2 x=true/\fD fm2 x 0=fD fm x 0)->lA fm2 ((r2 (eF pcs.length h):Nat):Int)=true->(∀x,lA fm2 x=true->∃v:Nat,fD fm2 x 0=((v:Nat):Int)/\v<j+1)->(∀x y,lA fm2 x=true->lA fm2 y=true->fD fm2 x 0=fD fm2 y 0->x=y)->
    Mz bs pcs ls r2 (j+1) up3 fm2 (out.set j<|fD fm2 ((r2 (eF pcs.length h):Nat):Int) 0):=λup3 fm2 g1 g2 g3 g4 g5=>by
   refine⟨g1,by rw[gY];exact I.len,λi l hi hil hn=>?_,λi l h' hi hil hs=>?_,g4,g5⟩
   ·by_cases e:i=j
    ·subst e;rw[hx]at hil;injection hil with hil;subst hil;rw[hh]at hn;cases hn
    ·rw[List.getElem?_set_ne<|Ne.symm e];exact I.no i l (by omega) hil hn
   ·by_cases e:i=j
    ·subst e;rw[hx]at hil;injection hil with hil;subst hil;rw[hh]at hs;injection hs with hs;subst hs
     exact⟨g3,by rw[List.getElem?_set_self hjo]⟩
    ·obtain⟨q1,q2⟩:=I.yes i l h' (by omega) hil hs;rw[List.getElem?_set_ne<|Ne.symm e,q2,(g2 _ q1).2];exact⟨(g2 _ q1).1,rfl⟩
  cases hm:lA fm ((r2 (eF pcs.length h):Nat):Int)with
  |true=>
   rw[jz,aM];obtain⟨up3,t3,t4⟩:=r5 (N:=N) t2 c2 (by omega);refine IT (x:=(up2,fm)) rfl<|IT t3<|Sy h3<|Sh ?_
   dsimp only;rw[cA];exact fin up3 fm t4 (λx hx=>⟨hx,rfl⟩) hm (λx hx=>by obtain⟨v,q1,q2⟩:=I.low x hx;exact⟨v,q1,by omega⟩) I.inj
  |false=>
   rw[jo,aK];obtain⟨up3,t3,t4⟩:=r5 (N:=N) t2 c2 (by omega);obtain⟨up4,t5,t6⟩:=r5 (N:=N) t4 c2 (by omega);refine IT (x:=(up3,qP fm ((r2 (eF pcs.length h):Nat):Int) ((j:Nat):Int))) (by rw[t3,aB])<|IT t5<|Sy h3<|Sh ?_
   dsimp only;rw[cA];refine fin up4 _ t6 (λx hx=>?_) (by rw[oR];simp) (λx hx=>?_)<|λx y hx hy e=>?_
   ·have hne:x≠((r2 (eF pcs.length h):Nat):Int):=λe=>by rw[e,hm]at hx;cases hx
    rw[oR,lK,aD hne,hx];exact⟨by simp,rfl⟩
   ·rw[lK]
    by_cases e:x=((r2 (eF pcs.length h):Nat):Int)
    ·rw[aC e];exact⟨j,rfl,by omega⟩
    ·rw[aD e];rw[oR,bG e,Bool.false_or]at hx;obtain⟨v,q1,q2⟩:=I.low x hx;exact⟨v,q1,by omega⟩
   ·rw[lK,lK]at e;rw[oR]at hx hy
    by_cases ex:x=((r2 (eF pcs.length h):Nat):Int)
    ·by_cases ey:y=((r2 (eF pcs.length h):Nat):Int)
     ·rw[ex,ey]
     ·rw[aC ex,aD ey]at e;rw[bG ey,Bool.false_or]at hy;obtain⟨v,q1,q2⟩:=I.low y hy;omega
    ·rw[bG ex,Bool.false_or]at hx
     by_cases ey:y=((r2 (eF pcs.length h):Nat):Int)
     ·rw[aD ex,aC ey]at e;obtain⟨v,q1,q2⟩:=I.low x hx;omega
     ·rw[aD ex,aD ey]at e;rw[bG ey,Bool.false_or]at hy;exact I.inj x y hx hy e
theorem MA(b:l8 a kS dS r gs ofP ofB l9 lZ){x y:cX}{h h':dP}(hx:qj a.aQ (cE 0 dS) x=some h)(hy:qj a.aQ (cE 0 dS) y=some h'):(uM a.aQ (cE 0 dS) r x=uM a.aQ (cE 0 dS) r y)↔r (eF (cE 0 dS).length h)=r (eF (cE 0 dS).length h'):=by
 have gp:∀{z:cX}{h:dP},qj a.aQ (cE 0 dS) z=some h->(live a.aQ (cE 0 dS).length ((cE 0 dS).length+a.aQ.length) r<|bU ((cE 0 dS).length+a.aQ.length) r)[gi a.aQ (cE 0 dS).length ((cE 0 dS).length+a.aQ.length) r<|r<|eF (cE 0 dS).length h]? =some (r<|eF (cE 0 dS).length h):=by
  intro z h hz;obtain⟨k,e,g1,g2⟩:=(Bu hz).num;have hle:=b.Np.conn.le;have hrr:=b.Np.conn.rr;have hd:∀i,i<(cE 0 dS).length+a.aQ.length->r i∈bU ((cE 0 dS).length+a.aQ.length) r:=λi hi=>j7.2 ⟨oy.2 (by have:=hle i hi;omega),by rw[bJ];exact hrr i hi⟩;unfold eF
  cases hB:h.bT with
  |true=>
   obtain⟨k1,k2⟩:=g1 hB;rw[aC rfl,e,cA];exact(Jf (hd _ (by omega))<|Jh k2 (by omega)).2
  |false=>
   have k1:=g2 hB;rw[aD j8,e,cA];exact(Jf (hd _ (by omega))<|Jg k1 (by omega)).2
 unfold uM;rw[hx,hy];constructor
 ·intro e;simp only[Option.map_some,Option.some.injEq]at e;have h1:=gp hx;have h2:=gp hy;rw[e,h2]at h1;injection h1 with h1;exact h1.symm
 ·intro e;simp only[Option.map_some,Option.some.injEq];rw[e]
theorem FU(b:l8 a kS dS r gs ofP ofB l9 lZ)(h1:fF N a=some (some (a.aJ,a.cN,a.aQ,a.bM,kS,cE 0 dS,cP a.aQ<|cE 0 dS,gs,ofP,ofB,l9,lZ),0)){p q:dO}{i k:Nat}{x y:cX}(ep:jI a p=((i:Nat):Int))(hx:a.bM[i]? =some x)(eq:jI a q=((k:Nat):Int))(hy:a.bM[k]? =some y)(hN:4398046511104<=N):
  eJ N a [] p q=some ((uM a.aQ (cE 0 dS) r x).isSome&&decide (uM a.aQ (cE 0 dS) r x=uM a.aQ (cE 0 dS) r y),0):=by
 have hf:=b.xd.2;have hbl:=b.xR.gb.len;have hlf:=b.uk.xd;obtain⟨r2,c,up,fm,c1,c2,c3⟩:=Iu (N:=N) (r:=r) (l9:=l9) (lZ:=lZ) (bs:=a.aQ) (pcs:=cE 0 dS) (ls:=a.bM) (by omega) (by omega) (by omega) (by omega) b.Np.l9 b.Np.lZ hN;have hil:=(bD.1 hx).1;have hkl:=(bD.1 hy).1;unfold eJ;rw[h1,aB,s9 b.uk p hN,s9 b.uk q hN];simp only[Gq,bne_self_eq_false,aM,aB];have hz:∀(p0:List (List aI))(p1:List aI)(p2:List bT)(p3:List cX)(p4:List (List aA))(p5:List aH)(p6:List (List Int))(p7:List cK)(p8 p9 p10:List Int)(p11:List dP),jR N p0 p1 p2 p3 p4 p5 p6 p7 p8 p9 p10 p11 []=some 0:=λ_ _ _ _ _ _ _ _ _ _ _ _=>rfl;rw[hz,aB,bne_self_eq_false,aM,ep,eq,bG (show ¬((i:Nat):Int)<0 by omega),bG (show ¬((k:Nat):Int)<0 by omega),Bool.or_false,aM,c1,aB]
 cases hhx:qj a.aQ (cE 0 dS) x with
 |none=>
  have e1:uM a.aQ (cE 0 dS) r x=none:=by unfold uM;rw[hhx];rfl
  rw[cI<|c3.no i x hil hx hhx,aB,e1];rfl
 |some h=>
  obtain⟨q1,q2⟩:=c3.yes i x h hil hx hhx;obtain⟨v,v1,_⟩:=c3.low _ q1;have e1:(uM a.aQ (cE 0 dS) r x).isSome=true:=by unfold uM;rw[hhx];rfl
  rw[cI q2,aB,v1,bL (show((v:Nat):Int)>=0 by omega),aK,aB,e1,Bool.true_and]
  cases hhy:qj a.aQ (cE 0 dS) y with
  |none=>
   have e2:uM a.aQ (cE 0 dS) r y=none:=by unfold uM;rw[hhy];rfl
   rw[cI<|c3.no k y hkl hy hhy,aB,aB,bG (λe=>by rw[e,e2]at e1;cases e1),show(((v:Nat):Int)== -1)=false from by rw[beq_eq_false_iff_ne];omega]
  |some h'=>
   obtain⟨s1,s2⟩:=c3.yes k y h' hkl hy hhy;obtain⟨w,w1,_⟩:=c3.low _ s1;rw[cI s2,aB,w1,aB];have t1:=(FT (N:=N) hhx (by omega)).2;have t2:=(FT (N:=N) hhy (by omega)).2;have key:(((v:Nat):Int)=((w:Nat):Int))↔uM a.aQ (cE 0 dS) r x=uM a.aQ (cE 0 dS) r y:=by
    rw[MA b hhx hhy,Ci.uniq b.Np.conn c2 t1 t2];constructor
    ·intro e;have:=c3.inj _ _ q1 s1 (by rw[v1,w1];exact e);omega
    ·intro e;rw[e,w1]at v1;exact v1.symm
   congr 2;rw[dY,beq_iff_eq,bJ];exact key
end
def tW:jr:=⟨[[⟨0,0,1,1⟩]],[],[],[⟨⟨[97]⟩,⟨[49]⟩,0,⟨0,0⟩⟩]⟩
def MB:dO:=⟨⟨[97]⟩,⟨[49]⟩⟩
def wN:aA:=⟨0,1,[0,1]⟩
theorem MC:tD [⟨0,0,1,1⟩] [wN]where
 can:=⟨λb hb=>by
  have e:b=cJ wN:=by simpa using hb
  subst e
  exact⟨by decide,by decide,by unfold kf;decide,by decide⟩,List.pairwise_singleton _ _⟩
 cover:=λx y=>by
  show qG (if(0:Int)<=y/\y<1 then [0,1]else []) x=((decide ((0:Int)<=x)&&decide (x<1))&&(decide ((0:Int)<=y)&&decide (y<1))||false)
  by_cases h:(0:Int)<=y/\y<1
  ·rw[aC h,bL h.1,bL h.2];unfold qG;rw[pr,pr,Fz]
   by_cases h0:(0:Int)<=x
   ·by_cases h1:(1:Int)<=x
    ·rw[aC h0,aC h1,bG (show ¬x<1 by omega)];simp
    ·rw[aC h0,aD h1,bL h0,bL (show x<1 by omega)];rfl
   ·rw[aD h0,aD (show ¬(1:Int)<=x by omega),bG h0];rfl
  ·rw[aD h];have:(decide ((0:Int)<=y)&&decide (y<1))=false:=by
    rw[Bool.eq_false_iff];intro h';rw[bX,bJ,bJ]at h';exact h h'
   rw[this,Bool.and_false];rfl
 lim:=λb hb=>by
  have e:b=cJ wN:=by simpa using hb
  subst e;exact⟨by decide,by decide,by decide⟩
theorem RP:tD [] []:=⟨fJ.nil,λ_ _=>rfl,λb hb=>by cases hb⟩
theorem RQ:jL [⟨0,0,1,1⟩]=0:=rI.2 ⟨by decide,λk a b h1 h2=>(by cases k <;> simp at h2),⟨_,MC,rfl⟩⟩
theorem RR:jL []=0:=rI.2 ⟨by decide,λk a b h1 h2=>(by simp at h2),⟨_,RP,rfl⟩⟩
theorem Oc:vD tW:=⟨by decide,by decide,by decide,by decide,by decide,by
 intro x hx;have e:x= ⟨⟨[97]⟩,⟨[49]⟩,0,⟨0,0⟩⟩:=by simpa[tW]using hx
 subst e;decide⟩
theorem Od:kM tW=0:=by
 have e1:tW.aJ.findSome? vC=none:=by
  show [[(⟨0,0,1,1⟩:aI)]].findSome? vC=none;have:vC [⟨0,0,1,1⟩]=none:=by unfold vC;rw[RQ];simp
  simp[this]
 have e2:jH tW=0:=by decide
 have e3:mz tW=0:=by
  unfold mz;have:qg tW.bM.length (kD tW)=none:=kA.2 λk hk=>by
   have hk:k<1:=hk;obtain rfl:k=0:=by omega
   unfold kD;have hx0:tW.bM[0]? =some ⟨⟨[97]⟩,⟨[49]⟩,0,⟨0,0⟩⟩:=rfl;rw[hx0,Option.bind_some,aC (by decide),aC (by decide),aD (by rintro⟨h,_⟩;omega)]
  rw[this,aD (by decide)];rfl
 have e4:¬sq tW:=by
  rintro⟨i,k,x,y,_,h,_⟩;simp[tW]at h
 unfold kM;rw[aD (by decide),aD (by decide)];unfold J7;rw[e1];show(if jL []≠0 then jL []else Ei tW)=0;rw[RR,aD (by simp)];unfold Ei;rw[aD (by decide),e2,aD (by simp),e3,aD (by simp),aD e4]
theorem Qd{kS:List (List aA)}{dS:List (List<|List aA)}(D:xP tW.aJ tW.aQ tW.aJ.length kS dS):kS= [[wN]]/\dS= [[[wN]]]:=by
 obtain⟨s,rfl⟩:=List.length_eq_one_iff.1 D.len;obtain⟨ps,rfl⟩:=List.length_eq_one_iff.1 D.Bq;have hd:=D.dr 0 [⟨0,0,1,1⟩] s (by decide) rfl rfl;have hs:s= [wN]:=G9 hd.can MC.can λx y=>by
  rw[hd.cover,MC.cover];show(_&& !uL [] x y)=_;simp[uL]
 subst hs;obtain⟨u,hu⟩:=D.pt 0 [wN] ps (by decide) rfl rfl;have u0:u 0=0:=Nat.le_zero.1<|hu.join.le 0 (by decide)
 have hh:bU (aU [wN]).length u= [0]:=by
  show(List.range 1).filter (λk=>decide<|u k=k)= [0];simp[List.range_succ,u0]
 obtain⟨p,rfl⟩:=List.length_eq_one_iff.1 (show ps.length=1 by rw[hu.len,hh];rfl);have hp:=hu.each 0 0 p (by rw[hh];rfl) rfl;have hc:o5 (aU [wN]) (aU [wN]).length u 0= [⟨0,0,1,1⟩]:=by
  show((List.range 1).filter<|λi=>decide<|u i=0).filterMap (λi=>(aU [wN])[i]?)=_;simp[List.range_succ,u0];rfl
 rw[hc]at hp;exact⟨rfl,by rw[hp.unique MC]⟩
section
variable {N:Nat}
theorem MD(hN:4398046511104<=N):km N=some true:=by
 have key:eJ N tW [] MB MB=some (true,0):=by
  obtain⟨x,hx,hI⟩:=Bw (N:=N) Oc hN
  rcases hI with⟨he,_⟩|⟨_,hg,hcl,kS,dS,D,⟨hf,_⟩|⟨hf,r,gs,ofP,ofB,l9,lZ,hC,rfl⟩⟩
  ·exact absurd Od he
  ·obtain⟨rfl,rfl⟩:=Qd D;exact absurd ⟨by decide,by decide⟩ hf
  ·have b:l8 tW kS dS r gs ofP ofB l9 lZ:=⟨hg,hcl,D,hf,hC⟩;have e:jI tW MB=((0:Nat):Int):=by
    rcases rL tW MB with⟨_,h⟩|⟨k,x,h,hk,_⟩
    ·exact absurd rfl<|h ⟨⟨[97]⟩,⟨[49]⟩,0,⟨0,0⟩⟩ (by simp[tW])
    ·have:k<1:=(bD.1 hk).1;rw[h];omega
   have hl:tW.bM[0]? =some ⟨⟨[97]⟩,⟨[49]⟩,0,⟨0,0⟩⟩:=rfl;rw[FU b hx e hl e hl hN];obtain⟨rfl,rfl⟩:=Qd D;have hh:qj tW.aQ (cE 0 [[[wN]]]) ⟨⟨[97]⟩,⟨[49]⟩,0,⟨0,0⟩⟩=some ⟨false,0⟩:=by decide
   unfold uM;rw[hh];simp
 unfold km;have e:eJ N (⟨([([(⟨0,0,1,1⟩:aI)]:List aI)]:List (List aI)),([]:List aI),([]:List bT),([(⟨⟨[97]⟩,⟨[49]⟩,0,⟨0,0⟩⟩:cX)]:List cX)⟩:jr) ([]:List fo) (⟨⟨[97]⟩,⟨[49]⟩⟩:dO) (⟨⟨[97]⟩,⟨[49]⟩⟩:dO)=some (true,0):=key;rw[e,aB];rfl
end
def lY(n:Nat)(fl:List fo)(v:Nat):Prop:=∃x∈fl,x.Open=true/\eF n x.dP=v
structure Oe (bs:List bT) (n m:Nat) (fl:List fo):Prop where
 op:∀x∈fl,x.Open=true->EV bs n m x.dP
 br:∀x∈fl,x.Open=false->∃i k:Nat,x.A=((i:Nat):Int)/\x.B=((k:Nat):Int)/\i<k/\k<n
def F0(n:Nat)(tch:List (List Int))(fl:List fo)(i j:Nat):Prop:=Lk n tch i j\/∃x∈fl,x.Open=false/\x.A=((i:Nat):Int)/\x.B=((j:Nat):Int)
def ME(n:Nat)(tch:List (List Int))(fl:List fo)(i j:Nat):Prop:=F0 n tch fl i j/\¬lY n fl i/\¬lY n fl j
structure yU (t:Nat) (L:Nat->Nat->Prop) (r:Nat->Nat):Prop where
 le:∀i,i<t->r i<=i
 rr:∀i,i<t->r (r i)=r i
 co:∀i j,L i j->r i=r j
 fi:∀S:Nat->Prop,(∀i j,L i j->(S i↔S j))->∀i j,i<t->j<t->r i=r j->S i->S j
theorem yU.uniq{t:Nat}{L:Nat->Nat->Prop}{r1 r2:Nat->Nat}(h1:yU t L r1)(h2:yU t L r2){i j:Nat}(hi:i<t)(hj:j<t):r1 i=r1 j↔r2 i=r2 j:=by
 have key:∀{r1 r2:Nat->Nat},yU t L r1->yU t L r2->r1 i=r1 j->r2 i=r2 j:=λ{r1 r2}h1 h2 e=>
  (h1.fi (λx=>r2 i=r2 x) (λa b hab=>by rw[h2.co a b hab]) i j hi hj e) rfl
 exact⟨key h1 h2,key h2 h1⟩
noncomputable def lu(bs:List bT)(pcs:List aH)(fl:List fo)(l:cX):Option Nat:=(qj bs pcs l).bind λh=>if lY pcs.length fl (eF pcs.length h)then none else some (eF pcs.length h)
section
variable {N:Nat}{r:Nat->Nat}{l9:List Int}{lZ:List dP}
theorem Of{bs:List bT}{n m:Nat}{h:dP}(hh:EV bs n m h)(hn:n+m<=1000000000):i7 N h ((n:Nat):Int)=some ((eF n h:Nat):Int)/\eF n h<n+m:=by
 obtain⟨k,e,h1,h2⟩:=hh.num;unfold i7 eF
 cases hB:h.bT with
 |true=>
  have:=(h1 hB).1;rw[aK,aC rfl,e,cA,wrap_add (by omega)];exact⟨rfl,by omega⟩
 |false=>
  have:=h2 hB;rw[aM,aD j8,e,cA];exact⟨rfl,by omega⟩
def LK(t:Nat)(L:Nat->Nat->Prop)(op:Nat->Prop)(done:Nat->Nat->Prop)(u:List Int):Prop:=
 ∃r E,UF t u r/\nE r E/\w6 t r E/\(∀p∈E,L p.1 p.2/\¬op p.1/\¬op p.2)/\∀i j,done i j->¬op i->¬op j->(i,j)∈E
theorem LK.mono{t:Nat}{L:Nat->Nat->Prop}{op:Nat->Prop}{d d':Nat->Nat->Prop}{u:List Int}(h:LK t L op d u)(hd:∀i j,d' i j->d i j):LK t L op d' u:=by
 obtain⟨r,E,h1,h2,h3,h4,h5⟩:=h;exact⟨r,E,h1,h2,h3,h4,λi j hij=>h5 i j<|hd i j hij⟩
theorem Lw{t:Nat}{L:Nat->Nat->Prop}{op:Nat->Prop}{done:Nat->Nat->Prop}{u:List Int}{om:List (Int×Bool)}(hom:∀v:Nat,fD om ((v:Nat):Int) false=true↔op v)(hI:LK t L op done u){i k:Nat}(hi:i<t)(hk:k<t)(ht:t<N)(hL:L i k):
  Ok (jT N ((i:Nat):Int) ((k:Nat):Int) om u) (LK t L op<|λa b=>done a b\/(a=i/\b=k)):=by
 obtain⟨r,E,h1,h2,h3,h4,h5⟩:=hI
 have skip:op i\/op k->LK t L op (λa b=>done a b\/(a=i/\b=k)) u:=λho=>⟨r,E,h1,h2,h3,h4,λa b hab ha hb=>by
  rcases hab with hab|⟨rfl,rfl⟩
  ·exact h5 a b hab ha hb
  ·rcases ho with ho|ho
   ·exact absurd ho ha
   ·exact absurd ho hb⟩
 unfold jT
 by_cases ho:op i
 ·refine IT (x:=false) (by rw[(hom i).2 ho];rfl)<|Sh<|skip<|.inl ho
 ·have e1:fD om ((i:Nat):Int) false=false:=by rw[Bool.eq_false_iff];exact λh=>ho<|(hom i).1 h
  by_cases hp:op k
  ·refine IT (x:=false) (by rw[e1,(hom k).2 hp];rfl)<|Sh<|skip<|.inr hp
  ·have e2:fD om ((k:Nat):Int) false=false:=by rw[Bool.eq_false_iff];exact λh=>hp<|(hom k).1 h
   refine IT (x:=true) (by rw[e1,e2];rfl) ?_;obtain⟨u2,a1,a2⟩:=I9 (N:=N) h1 hi hk ht;rw[aK,a1];refine Sh ⟨_,_,a2,h2.join i k<|h1.rr i hi,h3.join hi hk,λp hp'=>?_,λa b hab ha hb=>?_⟩
   ·rcases cR.1 hp' with h|h
    ·exact h4 p h
    ·simp at h;subst h;exact⟨hL,ho,hp⟩
   ·rcases hab with hab|⟨rfl,rfl⟩
    ·exact List.mem_append_left _<|h5 a b hab ha hb
    ·simp
structure Ek (bs:List bT) (pcs:List aH) (fl:List fo) (ls:List cX) (r2:Nat->Nat) (j:Nat) (up:List Int) (fm:List (Int×Int)) (out:List Int):Prop where
 uf:UF (pcs.length+bs.length) up r2
 len:out.length=ls.length
 no:∀i l,i<j->ls[i]? =some l->lu bs pcs fl l=none->out[i]? =some (-1)
 yes:∀i l v,i<j->ls[i]? =some l->lu bs pcs fl l=some v->lA fm ((r2 v:Nat):Int)=true/\out[i]? =some (fD fm ((r2 v:Nat):Int) 0)
 low:∀x,lA fm x=true->∃(v:Nat)(l:cX)(u:Nat),fD fm x 0=((v:Nat):Int)/\v<j/\ls[v]? =some l/\lu bs pcs fl l=some u/\((r2 u:Nat):Int)=x
 inj:∀x y,lA fm x=true->lA fm y=true->fD fm x 0=fD fm y 0->x=y
 le:∀(i v:Nat),out[i]? =some ((v:Nat):Int)->v<=i
theorem Hy{bs:List bT}{pcs:List aH}{ls:List cX}{fl:List fo}(hfl:Oe bs pcs.length bs.length fl)(hfn:fl.length<=1073741824)(hn:pcs.length+bs.length<=1000000000)(hp:pcs.length<=1073741824)(hbl:bs.length<=1073741824)(hl:ls.length<=1073741824)(hof:l9=ls.map (Eh bs pcs r))(hat:lZ=ls.map (λl=>(qj bs pcs l).getD ⟨false,0⟩))(hN:4398046511104<=N):
  ∃r2 c up fm,gF N bs ls pcs (cP bs pcs) l9 lZ fl=some c/\yU (pcs.length+bs.length) (ME pcs.length (cP bs pcs) fl) r2/\Ek bs pcs fl ls r2 ls.length up fm c:=by
 suffices h:Ok (gF N bs ls pcs (cP bs pcs) l9 lZ fl) (λc=>∃r2 up fm,yU (pcs.length+bs.length) (ME pcs.length (cP bs pcs) fl) r2/\Ek bs pcs fl ls r2 ls.length up fm c)by
  obtain⟨c,h1,r2,up,fm,h2,h3⟩:=h;exact⟨r2,c,up,fm,h1,h2,h3⟩
 unfold gF;refine Sr (Ts (λq om=>∀v:Nat,fD om ((v:Nat):Int) false=true↔lY pcs.length (fl.take q) v) (by omega) (λv=>⟨λh=>(by cases h),λ⟨x,hx,_⟩=>(by simp at hx)⟩)<|λq om hq hI=>?_) ?_
 ·have hx:fl[q]? =some fl[q]:=aO hq;have hts:=eI hq;refine Sy hx ?_
  cases ho:fl[q].Open with
  |true=>
   obtain⟨c1,_⟩:=Of (N:=N) (hfl.op _ (cL hq) ho) hn;refine IT (x:=qP om ((eF pcs.length fl[q].dP:Nat):Int) true) (by rw[aK,c1,aB])<|Sh λv=>?_
   rw[lK,hts]
   by_cases e:((v:Nat):Int)=((eF pcs.length fl[q].dP:Nat):Int)
   ·rw[aC e];exact⟨λ_=>⟨fl[q],List.mem_append_right _<|kp.2 rfl,ho,by omega⟩,λ_=>rfl⟩
   ·rw[aD e,hI v];constructor
    ·rintro⟨x,hx,h1,h2⟩;exact⟨x,List.mem_append_left _ hx,h1,h2⟩
    ·rintro⟨x,hx,h1,h2⟩
     rcases cR.1 hx with hx|hx
     ·exact⟨x,hx,h1,h2⟩
     ·simp at hx;subst hx;exact absurd (by rw[h2]) e
  |false=>
   refine IT (x:=om) rfl<|Sh λv=>?_
   rw[hI v,hts];constructor
   ·rintro⟨x,hx,h1,h2⟩;exact⟨x,List.mem_append_left _ hx,h1,h2⟩
   ·rintro⟨x,hx,h1,h2⟩
    rcases cR.1 hx with hx|hx
    ·exact⟨x,hx,h1,h2⟩
    ·simp at hx;subst hx;rw[ho]at h1;cases h1
 intro om hom;rw[eK]at hom;rw[wrap_add (by omega)];obtain⟨up0,u1,u2⟩:=xK (N:=N) (n:=pcs.length+bs.length) (by omega);refine IT u1 ?_;have htl:(cP bs pcs).length=bs.length:=by unfold cP;simp
 have hto:=xQ (bs:=bs) (pcs:=pcs) (by omega)
 refine Sr (Ts (λq u=>LK (pcs.length+bs.length) (F0 pcs.length (cP bs pcs) fl) (lY pcs.length fl) (λa b=>∃k l,k<q/\(cP bs pcs)[k]? =some l/\((a:Nat):Int)∈l/\b=pcs.length+k) u) (by omega)
  ⟨_,_,u2,nE.id,w6.id _,λp hp=>(by cases hp),λi j⟨k,l,hk,_⟩=>by omega⟩ (λq u hq hI=>?_)) ?_
 ·have hqx:(cP bs pcs)[q]? =some (cP bs pcs)[q]:=aO hq;obtain⟨hl1,hl2⟩:=hto _<|cL hq
  refine Sy hqx ?_;rw[wrap_add (by omega)]
  refine Sr (Ts (λt u=>LK (pcs.length+bs.length) (F0 pcs.length (cP bs pcs) fl) (lY pcs.length fl) (λa b=>(∃k l,k<q/\(cP bs pcs)[k]? =some l/\((a:Nat):Int)∈l/\b=pcs.length+k)\/(((a:Nat):Int)∈(cP bs pcs)[q].take t/\b=pcs.length+q)) u) (by omega)
   (hI.mono λi j h=>by rcases h with h|⟨h,_⟩;exact h;simp at h) (λt u ht hJ=>?_)) (λu hJ=>Sh (hJ.mono λi j⟨k,l,hk,h1,h2,h3⟩=>?_))
  ·have htx:(cP bs pcs)[q][t]? =some (cP bs pcs)[q][t]:=aO ht;obtain⟨i,hi,e⟩:=hl2 _<|cL ht
   refine Sy htx ?_;rw[e];refine Sr (Lw hom hJ (i:=i) (k:=pcs.length+q) (by omega) (by omega) (by omega)<|.inl ⟨q,_,hqx,by rw[<-e];exact cL ht,rfl⟩)<|λu2 hu2=>Sh<|hu2.mono λa b h=>?_
   rw[eI ht]at h
   rcases h with h|⟨h,hb⟩
   ·exact .inl<|.inl h
   ·rcases cR.1 h with h|h
    ·exact .inl<|.inr ⟨h,hb⟩
    ·rw[kp,e]at h;exact .inr ⟨by omega,hb⟩
  ·by_cases hkq:k<q
   ·exact .inl ⟨k,l,hkq,h1,h2,h3⟩
   ·have:k=q:=by omega
    subst this;rw[hqx]at h1;injection h1 with h1;subst h1
    exact .inr ⟨by rw[eK];exact h2,h3⟩
 intro u3 h3
 refine Sr (Ts (λq u=>LK (pcs.length+bs.length) (F0 pcs.length (cP bs pcs) fl) (lY pcs.length fl) (λa b=>Lk pcs.length (cP bs pcs) a b\/∃x∈fl.take q,x.Open=false/\x.A=((a:Nat):Int)/\x.B=((b:Nat):Int)) u) (by omega)
  (h3.mono λi j h=>by
   rcases h with⟨k,l,h1,h2,h3⟩|⟨x,hx,_⟩
   ·exact⟨k,l,(bD.1 h1).1,h1,h2,h3⟩
   ·simp at hx) (λq u hq hI=>?_)) ?_
 ·have hx:fl[q]? =some fl[q]:=aO hq;have hts:=eI hq;refine Sy hx ?_
  cases ho:fl[q].Open with
  |true=>
   refine IT (x:=u) rfl<|Sh<|hI.mono λa b h=>?_
   rw[hts]at h
   rcases h with h|⟨x,hx,h1,h2⟩
   ·exact .inl h
   ·rcases cR.1 hx with hx|hx
    ·exact .inr ⟨x,hx,h1,h2⟩
    ·simp at hx;subst hx;rw[ho]at h1;cases h1
  |false=>
   obtain⟨i,k,e1,e2,e3,e4⟩:=hfl.br _ (cL hq) ho;rw[jo,aK,e1,e2];refine Sr (P:=LK (pcs.length+bs.length) (F0 pcs.length (cP bs pcs) fl) (lY pcs.length fl)<|λa b=>(Lk pcs.length (cP bs pcs) a b\/∃x∈fl.take q,x.Open=false/\x.A=((a:Nat):Int)/\x.B=((b:Nat):Int))\/(a=i/\b=k)) (Sr (Lw hom hI (i:=i) (k:=k) (by omega) (by omega) (by omega)<|.inr ⟨fl[q],cL hq,ho,e1,e2⟩)<|λu2 hu2=>Sh hu2)<|λu2 hu2=>Sh<|hu2.mono λa b h=>?_
   rw[hts]at h
   rcases h with h|⟨x,hx,h1,h2,h3⟩
   ·exact .inl<|.inl h
   ·rcases cR.1 hx with hx|hx
    ·exact .inl<|.inr ⟨x,hx,h1,h2,h3⟩
    ·simp at hx;subst hx;rw[e1]at h2;rw[e2]at h3;exact .inr ⟨by omega,by omega⟩
 rintro up1⟨r2,E,v1,v2,v3,v4,v5⟩;rw[eK]at v5;have hC:yU (pcs.length+bs.length) (ME pcs.length (cP bs pcs) fl) r2:=
  ⟨v1.le,v1.rr,λi j h=>v2 (i,j)<|v5 i j h.1 h.2.1 h.2.2,λS hS i j hi hj=>v3 S (λp hp=>hS p.1 p.2<|v4 p hp) i j hi hj⟩
 refine IT (pE 0 (by omega)) ?_;have uS:lZ.length=ls.length:=by rw[hat,dA]
 refine Sr (Ts (λj(st:List Int×List (Int×Int)×List Int)=>Ek bs pcs fl ls r2 j st.1 st.2.1 st.2.2) (by omega) ⟨v1,by simp,λi l h=>by omega,λi l h h1=>by omega,λx hx=>(by cases hx),λx y hx=>(by cases hx),λi v hv=>by rw[List.getElem?_replicate]at hv;split at hv;injection hv with hv;omega;cases hv⟩ ?_)<|λst I=>Sh ⟨r2,st.1,st.2.1,hC,by rw[<-uS];exact I⟩
 rintro j⟨up,fm,out⟩hj I;rw[uS]at hj;dsimp only at I ⊢;have hx:ls[j]? =some ls[j]:=aO hj;have h1:lZ[j]? =some ((qj bs pcs ls[j]).getD ⟨false,0⟩):=by rw[hat,fL,hx];rfl
 have h2:l9[j]? =some (Eh bs pcs r ls[j]):=by rw[hof,fL,hx];rfl
 have h3:out[j]? =some (out[j]'(by rw[I.len];exact hj)):=aO _;have hjo:j<out.length:=by rw[I.len];exact hj
 have hx0:=hx;have dead:lu bs pcs fl ls[j]=none->Ek bs pcs fl ls r2 (j+1) up fm (out.set j<|-1):=λhnd=>by
  refine⟨I.uf,by rw[gY];exact I.len,λi l hi hil hn=>?_,λi l v hi hil hs=>?_,λx hx=>?_,I.inj,λi v hv=>?_⟩
  ·by_cases e:i=j
   ·subst e;rw[List.getElem?_set_self hjo]
   ·rw[List.getElem?_set_ne<|Ne.symm e];exact I.no i l (by omega) hil hn
  ·by_cases e:i=j
   ·subst e;rw[hx]at hil;injection hil with hil;subst hil;rw[hnd]at hs;cases hs
   ·rw[List.getElem?_set_ne<|Ne.symm e];exact I.yes i l v (by omega) hil hs
  ·obtain⟨v,l,u,q1,q2,q3⟩:=I.low x hx;exact⟨v,l,u,q1,by omega,q3⟩
  ·by_cases e:i=j
   ·subst e;rw[List.getElem?_set_self hjo]at hv;injection hv with hv;omega
   ·rw[List.getElem?_set_ne<|Ne.symm e]at hv;exact I.le i v hv
 refine Sy h1 ?_
 cases hh:qj bs pcs ls[j]with
 |none=>
  have e1:Eh bs pcs r ls[j] = -1:=by unfold Eh uM;rw[hh];rfl
  refine IT (x:=0) rfl<|IT (x:=true) (by rw[cI h2,aB,e1];rfl) ?_
  refine Sy h3<|Sh ?_
  dsimp only;rw[cA];exact dead (by unfold lu;rw[hh];rfl)
 |some h=>
  obtain⟨c1,c2⟩:=FT (N:=N) hh hn;have e1:∃g:Nat,Eh bs pcs r ls[j]=((g:Nat):Int):=by unfold Eh uM;rw[hh];exact⟨_,rfl⟩
  obtain⟨g,e1⟩:=e1;refine IT c1 ?_
  by_cases hop:lY pcs.length fl (eF pcs.length h)
  ·refine IT (x:=true) (by rw[cI h2,aB,e1,bG (show ¬((g:Nat):Int)<0 by omega),aM,(hom _).2 hop]) ?_;refine Sy h3<|Sh ?_
   dsimp only;rw[cA];exact dead (by unfold lu;rw[hh,Option.bind_some,aC hop])
  have hnd:lu bs pcs fl ls[j]=some (eF pcs.length h):=by unfold lu;rw[hh,Option.bind_some,aD hop]
  refine IT (x:=false) (by rw[cI h2,aB,e1,bG (show ¬((g:Nat):Int)<0 by omega),aM];rw[Bool.eq_false_iff.2 λh=>hop<|(hom _).1 h]) ?_;rw[aM];obtain⟨up2,t1,t2⟩:=r5 (N:=N) I.uf c2 (by omega);refine IT t1 ?_;dsimp only;have fin:∀(up3:List Int)(fm2:List (Int×Int)),UF (pcs.length+bs.length) up3 r2->(∀x,lA fm x=true->lA fm2 x=true/\fD fm2 x 0=fD fm x 0)->lA fm2 ((r2 (eF pcs.length h):Nat):Int)=true->(∀x,lA fm2 x=true->∃(v:Nat)(l:cX)(u:Nat),fD fm2 x 0=((v:Nat):Int)/\v<j+1/\ls[v]? =some l/\lu bs pcs fl l=some u/\((r2 u:Nat):Int)=x)->(∀x y,lA fm2 x=true->lA fm2 y=true->fD fm2 x 0=fD fm2 y 0->x=y)->
    Ek bs pcs fl ls r2 (j+1) up3 fm2 (out.set j<|fD fm2 ((r2 (eF pcs.length h):Nat):Int) 0):=λup3 fm2 g1 g2 g3 g4 g5=>by
   refine⟨g1,by rw[gY];exact I.len,λi l hi hil hn=>?_,λi l h' hi hil hs=>?_,g4,g5,λi v hv=>?_⟩
   ·by_cases e:i=j
    ·subst e;rw[hx]at hil;injection hil with hil;subst hil;rw[hnd]at hn;cases hn
    ·rw[List.getElem?_set_ne<|Ne.symm e];exact I.no i l (by omega) hil hn
   ·by_cases e:i=j
    ·subst e;rw[hx]at hil;injection hil with hil;subst hil;rw[hnd]at hs;injection hs with hs;subst hs
     exact⟨g3,by rw[List.getElem?_set_self hjo]⟩
    ·obtain⟨q1,q2⟩:=I.yes i l h' (by omega) hil hs;rw[List.getElem?_set_ne<|Ne.symm e,q2,(g2 _ q1).2];exact⟨(g2 _ q1).1,rfl⟩
   ·by_cases e:i=j
    ·subst e;rw[List.getElem?_set_self hjo]at hv;injection hv with hv
     obtain⟨v',_,_,q1,q2,_⟩:=g4 _ g3;rw[q1]at hv;omega
    ·rw[List.getElem?_set_ne<|Ne.symm e]at hv;exact I.le i v hv
  cases hm:lA fm ((r2 (eF pcs.length h):Nat):Int)with
  |true=>
   rw[jz,aM];obtain⟨up3,t3,t4⟩:=r5 (N:=N) t2 c2 (by omega);refine IT (x:=(up2,fm)) rfl<|IT t3<|Sy h3<|Sh ?_
   dsimp only;rw[cA];exact fin up3 fm t4 (λx hx=>⟨hx,rfl⟩) hm (λx hx=>by obtain⟨v,l,u,q1,q2,q3⟩:=I.low x hx;exact⟨v,l,u,q1,by omega,q3⟩) I.inj
  |false=>
   rw[jo,aK];obtain⟨up3,t3,t4⟩:=r5 (N:=N) t2 c2 (by omega);obtain⟨up4,t5,t6⟩:=r5 (N:=N) t4 c2 (by omega);refine IT (x:=(up3,qP fm ((r2 (eF pcs.length h):Nat):Int) ((j:Nat):Int))) (by rw[t3,aB])<|IT t5<|Sy h3<|Sh ?_
   dsimp only;rw[cA];refine fin up4 _ t6 (λx hx=>?_) (by rw[oR];simp) (λx hx=>?_)<|λx y hx hy e=>?_
   ·have hne:x≠((r2 (eF pcs.length h):Nat):Int):=λe=>by rw[e,hm]at hx;cases hx
    rw[oR,lK,aD hne,hx];exact⟨by simp,rfl⟩
   ·rw[lK]
    by_cases e:x=((r2 (eF pcs.length h):Nat):Int)
    ·rw[aC e];exact⟨j,ls[j],_,rfl,by omega,hx0,hnd,e.symm⟩
    ·rw[aD e];rw[oR,bG e,Bool.false_or]at hx;obtain⟨v,l,u,q1,q2,q3⟩:=I.low x hx;exact⟨v,l,u,q1,by omega,q3⟩
   ·rw[lK,lK]at e;rw[oR]at hx hy
    by_cases ex:x=((r2 (eF pcs.length h):Nat):Int)
    ·by_cases ey:y=((r2 (eF pcs.length h):Nat):Int)
     ·rw[ex,ey]
     ·rw[aC ex,aD ey]at e;rw[bG ey,Bool.false_or]at hy;obtain⟨v,_,_,q1,q2,_⟩:=I.low y hy;omega
    ·rw[bG ex,Bool.false_or]at hx
     by_cases ey:y=((r2 (eF pcs.length h):Nat):Int)
     ·rw[aD ex,aC ey]at e;obtain⟨v,_,_,q1,q2,_⟩:=I.low x hx;omega
     ·rw[aD ex,aD ey]at e;rw[bG ey,Bool.false_or]at hy;exact I.inj x y hx hy e
def DW(n:Nat)(k:Int):Bool:=decide (k>=0)&&decide (k<=((n:Nat):Int) - 1)
def uN(bs:List bT)(n:Nat)(x:fo):Bool:=bif x.Open then(bif x.dP.bT then DW bs.length x.dP.Number&&tH bs x.dP.Number.toNat else DW n x.dP.Number)else DW n x.A&&DW n x.B
def AP(x:fo):Bool:=bif x.Open then x.A != 0||x.B != 0 else !decide (x.dP= ⟨false,0⟩)
def vK(bs:List bT)(n:Nat)(fl:List fo)(k:Nat):Option Int:=(fl[k]?).bind λx=>
 if AP x=true then some 3 else if uN bs n x=false then some 9 else if(!x.Open&&decide (x.B<=x.A))=true then some 8 else if x∈fl.take k then some 7 else none
def mS(bs:List bT)(n:Nat)(fl:List fo):Int:=if 20<fl.length then 2 else(qg fl.length<|vK bs n fl).getD 0
theorem El{l:List fo}{x:fo}(hl:l.length<=1048576):ki N l x=some (decide<|x∈l):=by
 have e:ki N l x=A9 l x:=rfl;rw[e,Fw (by omega)]
theorem uO{a1:List (List aI)}{a2:List aI}{bs:List bT}{a4:List cX}{a5:List (List aA)}{pcs:List aH}{a7:List (List Int)}{a8:List cK}{a9 a10 a11:List Int}{a12:List dP}{fl:List fo}(hp:pcs.length<=1073741824)(hb:bs.length<=1073741824)(hf:fl.length<=1048576):
  jR N a1 a2 bs a4 a5 pcs a7 a8 a9 a10 a11 a12 fl=some (mS bs pcs.length fl):=by
 unfold jR mS
 by_cases h20:20<fl.length
 ·rw[bL (show((fl.length:Nat):Int)>20 by omega),aK,aC h20]
 rw[bG (show ¬((fl.length:Nat):Int)>20 by omega),aM,aD h20];have w:∀(n:Nat)(k:Int),n<=1073741824->qt N k 0 (wrap .i64<|((n:Nat):Int) - 1)=some (DW n k):=λn k hn=>by
  rw[fw (by omega) (by omega)];rfl
 have w1:∀k:Int,iE N k pcs=some (DW pcs.length k):=λk=>by
  unfold iE;rw[w _ _ hp];rfl
 have assoc:∀{β:Type}(a:Option Bool)(b c:Bool->Option Bool)(g:Bool->Option β),(a.bind λs=>(b s).bind λt=>(c t).bind g)=(a.bind λs=>(b s).bind c).bind g:=λa b c g=>by
  cases a with
  |none=>rfl
  |some s=>show(b s).bind _=((b s).bind c).bind g;cases b s <;> rfl
 rw[ru (vK bs pcs.length fl) (by omega) (λk hk _=>by
  have hx:fl[k]? =some fl[k]:=aO hk;have hs:uv fl 0 ((k:Nat):Int)=some (fl.take k):=by
   unfold uv;rw[aC ⟨by omega,by omega,by omega⟩];simp
  rw[cI hx,aB];unfold vK;rw[hx,Option.bind_some];have e1:(bif fl[k].Open&&((fl[k].A != 0)||(fl[k].B != 0))then some true else(bif(!fl[k].Open)then some (!(decide<|fl[k].dP=(⟨false,0⟩:dP)))else some false))=some (AP fl[k]):=by
   unfold AP
   cases fl[k].Open with
   |true=>cases(fl[k].A != 0||fl[k].B != 0) <;> rfl
   |false=>rfl
  rw[e1,aB]
  cases hfm:AP fl[k]with
  |true=>rw[aK,aC rfl];rfl
  |false=>
   rw[aM,aD j8,w1,w1,w1,w _ _ hb];have e2:(((some<|DW pcs.length fl[k].A).bind λx117=>bif x117 then((some<|DW pcs.length fl[k].B).bind λx119=>some x119)else some false).bind λs116=>(bif fl[k].Open then((some<|DW pcs.length fl[k].dP.Number).bind λx122=>some x122)else some s116).bind λs121=>(bif fl[k].Open&&fl[k].dP.bT then(((some<|DW bs.length fl[k].dP.Number).bind λx143=>bif x143 then((idx bs fl[k].dP.Number).bind λCa=>some Ca.eP)else some false).bind λs142=>some s142)else some s121):Option Bool)=some (uN bs pcs.length fl[k]):=by
    unfold uN;simp only[aB]
    cases fl[k].Open with
    |false=>
     cases DW pcs.length fl[k].A <;> rfl
    |true=>
     simp only[aK,Bool.true_and]
     cases hA:DW pcs.length fl[k].A <;> simp only[aK,aM,aB]
     all_goals
      cases fl[k].dP.bT with
      |false=>rfl
      |true=>
       simp only[aK]
       cases hB:DW bs.length fl[k].dP.Number with
       |false=>rfl
       |true=>
        unfold DW at hB;rw[bX,bJ,bJ]at hB;have hlt:fl[k].dP.Number.toNat<bs.length:=by omega
        have hbx:bs[fl[k].dP.Number.toNat]? =some bs[fl[k].dP.Number.toNat]:=aO hlt;have hi:=cI hbx;rw[Int.toNat_of_nonneg hB.1]at hi;rw[aK,hi,aB,aB,Bool.true_and];unfold tH;rw[hbx];rfl
   refine(assoc _ _ _ _).trans<|(congrArg (λo=>Option.bind o _) e2).trans ?_
   rw[aB]
   cases uN bs pcs.length fl[k]with
   |false=>rfl
   |true=>
    rw[jz,aM,aD (by decide)]
    cases(!fl[k].Open&&decide (fl[k].B<=fl[k].A))with
    |true=>rfl
    |false=>
     rw[aM,aD j8,hs,aB,El (by rw[cQ];omega),aB]
     by_cases hm:fl[k]∈fl.take k
     ·rw[bL hm,aK,aC hm];rfl
     ·rw[bG hm,aM,aD hm];rfl),aB]
 cases qg fl.length (vK bs pcs.length fl) <;> rfl
theorem xX{bs:List bT}{n:Nat}{fl:List fo}(h:mS bs n fl=0):fl.length<=20/\Oe bs n bs.length fl:=by
 unfold mS at h;split at h
 ·cases h
 rename_i h20;have hn:∀k,k<fl.length->vK bs n fl k=none:=by
  cases hf:qg fl.length (vK bs n fl)with
  |none=>exact kA.1 hf
  |some e=>
   rw[hf]at h;obtain⟨k,hk,he,_⟩:=jY.1 hf;have h:e=0:=h;subst h;unfold vK at he;rw[aO hk,Option.bind_some]at he
   repeat' split at he
   all_goals (first|(injection he with he;omega)|cases he)
 have hx:∀x∈fl,uN bs n x=true/\(x.Open=false->x.A<x.B):=λx hx=>by
  obtain⟨k,hk,rfl⟩:=List.mem_iff_getElem.1 hx;have:=hn k hk;unfold vK at this;rw[aO hk,Option.bind_some]at this;split at this
  ·cases this
  ·split at this
   ·cases this
   ·rename_i h2;split at this
    ·cases this
    ·rename_i h3;refine⟨by simpa using h2,λho=>?_⟩;rw[ho,jo,Bool.true_and,bJ]at h3;omega
 have inp:∀{n:Nat}{k:Int},DW n k=true->∃j:Nat,k=((j:Nat):Int)/\j<n:=λ{n k}h=>by
  unfold DW at h;rw[bX,bJ,bJ]at h;exact⟨k.toNat,by omega,by omega⟩
 refine⟨by omega,λx hm ho=>?_,λx hm ho=>?_⟩
 ·obtain⟨h1,_⟩:=hx x hm;unfold uN at h1;rw[ho,aK]at h1
  cases hB:x.dP.bT with
  |true=>
   rw[hB,aK,bX]at h1;obtain⟨j,e,hj⟩:=inp h1.1;refine⟨j,e,λ_=>⟨hj,?_⟩,λh=>(by rw[hB]at h;cases h)⟩;rw[e,cA]at h1;exact h1.2
  |false=>
   rw[hB,aM]at h1;obtain⟨j,e,hj⟩:=inp h1;exact⟨j,e,λh=>(by rw[hB]at h;cases h),λ_=>hj⟩
 ·obtain⟨h1,h2⟩:=hx x hm;unfold uN at h1;rw[ho,aM,bX]at h1;obtain⟨i,e1,hi⟩:=inp h1.1;obtain⟨k,e2,hk⟩:=inp h1.2;have:=h2 ho;exact⟨i,k,e1,e2,by omega,hk⟩
end
structure Lx (c:List Int):Prop where
 neg:∀(i:Nat)(x:Int),c[i]? =some x->x<0->x = -1
 own:∀(i v:Nat),c[i]? =some ((v:Nat):Int)->c[v]? =some ((v:Nat):Int)
def wO(c:List Int)(i k:Nat):Bool:=decide (c.getD i (-1)>=0)&&c.getD i (-1)==c.getD k (-1)
section
variable {r:Nat->Nat}
theorem Ek.first{bs:List bT}{pcs:List aH}{fl:List fo}{ls:List cX}{r2:Nat->Nat}{up:List Int}{fm:List (Int×Int)}{c:List Int}(h:Ek bs pcs fl ls r2 ls.length up fm c):Lx c where
 neg:=λi x hx h0=>by
  have hi:=(bD.1 hx).1;rw[h.len]at hi;have hl:ls[i]? =some ls[i]:=aO hi
  cases hn:lu bs pcs fl ls[i]with
  |none=>have:=h.no i _ hi hl hn;rw[hx]at this;injection this
  |some u=>
   obtain⟨q1,q2⟩:=h.yes i _ u hi hl hn;obtain⟨v,_,_,q3,_⟩:=h.low _ q1;rw[hx,q3]at q2;injection q2 with q2;omega
 own:=λi v hx=>by
  have hi:=(bD.1 hx).1;rw[h.len]at hi;have hl:ls[i]? =some ls[i]:=aO hi
  cases hn:lu bs pcs fl ls[i]with
  |none=>have:=h.no i _ hi hl hn;rw[hx]at this;injection this with this;omega
  |some u=>
   obtain⟨q1,q2⟩:=h.yes i _ u hi hl hn;obtain⟨v',l',u',q3,q4,q5,q6,q7⟩:=h.low _ q1;have e:v=v':=by rw[hx,q3]at q2;injection q2 with q2;omega
   subst e;obtain⟨s1,s2⟩:=h.yes v l' u' q4 q5 q6;rw[q7,q3]at s2;exact s2
theorem Ek.conn{bs:List bT}{pcs:List aH}{fl:List fo}{ls:List cX}{r2:Nat->Nat}{up:List Int}{fm:List (Int×Int)}{c:List Int}(h:Ek bs pcs fl ls r2 ls.length up fm c){i k:Nat}{x y:cX}(hx:ls[i]? =some x)(hy:ls[k]? =some y):
  wO c i k=true↔∃u v,lu bs pcs fl x=some u/\lu bs pcs fl y=some v/\r2 u=r2 v:=by
 have hi:=(bD.1 hx).1;have hk:=(bD.1 hy).1;unfold wO;rw[bX,bJ,beq_iff_eq,List.getD_eq_getElem?_getD,List.getD_eq_getElem?_getD]
 cases hn:lu bs pcs fl x with
 |none=>
  rw[h.no i x hi hx hn,Option.getD_some];exact⟨λh=>absurd h.1 (by decide),λ⟨u,v,e,_⟩=>(by cases e)⟩
 |some u=>
  obtain⟨q1,q2⟩:=h.yes i x u hi hx hn;obtain⟨a,_,_,q3,_⟩:=h.low _ q1;rw[q2,Option.getD_some,q3]
  cases hm:lu bs pcs fl y with
  |none=>
   rw[h.no k y hk hy hm,Option.getD_some];exact⟨λh=>absurd h.2 (by omega),λ⟨u,v,_,e,_⟩=>(by cases e)⟩
  |some v=>
   obtain⟨s1,s2⟩:=h.yes k y v hk hy hm;obtain⟨b,_,_,s3,_⟩:=h.low _ s1;rw[s2,Option.getD_some,s3];constructor
   ·rintro⟨_,e⟩;have:=h.inj _ _ q1 s1 (by rw[q3,s3];exact e);exact⟨u,v,rfl,rfl,by omega⟩
   ·rintro⟨u',v',e1,e2,e3⟩;injection e1 with e1;injection e2 with e2
    subst e1;subst e2;rw[e3,s3]at q3;exact⟨by omega,q3.symm⟩
end
section
variable {N:Nat}{a:jr}{kS:List (List aA)}{dS:List (List (List aA))}{r:Nat->Nat}{gs:List cK}{ofP ofB l9:List Int}{lZ:List dP}
theorem Hz(b:l8 a kS dS r gs ofP ofB l9 lZ){fl:List fo}(h0:mS a.aQ (cE 0 dS).length fl=0)(hN:4398046511104<=N):
  ∃r2 c up fm,gF N a.aQ a.bM (cE 0 dS) (cP a.aQ<|cE 0 dS) l9 lZ fl=some c/\yU ((cE 0 dS).length+a.aQ.length) (ME (cE 0 dS).length (cP a.aQ<|cE 0 dS) fl) r2/\Ek a.aQ (cE 0 dS) fl a.bM r2 a.bM.length up fm c:=by
 have hf:=b.xd.2;have hbl:=b.xR.gb.len;have hlf:=b.uk.xd;obtain⟨h20,hok⟩:=xX h0;exact Hy (N:=N) (r:=r) hok (by omega) (by omega) (by omega) (by omega) (by omega) b.Np.l9 b.Np.lZ hN
theorem DN(b:l8 a kS dS r gs ofP ofB l9 lZ)(h1:fF N a=some (some (a.aJ,a.cN,a.aQ,a.bM,kS,cE 0 dS,cP a.aQ<|cE 0 dS,gs,ofP,ofB,l9,lZ),0)){fl:List fo}(hl:fl.length<=1048576)(h0:mS a.aQ (cE 0 dS).length fl≠0)(p q:dO):
  eJ N a fl p q=some (false,mS a.aQ (cE 0 dS).length fl):=by
 have hf:=b.xd.2;have hbl:=b.xR.gb.len;have hb:(mS a.aQ (cE 0 dS).length fl != 0)=true:=by simpa using h0
 unfold eJ;rw[h1,aB];simp only[Gq,bne_self_eq_false,aM];rw[uO (by omega) (by omega) hl,aB,hb,aK]
theorem Em(b:l8 a kS dS r gs ofP ofB l9 lZ)(h1:fF N a=some (some (a.aJ,a.cN,a.aQ,a.bM,kS,cE 0 dS,cP a.aQ<|cE 0 dS,gs,ofP,ofB,l9,lZ),0)){fl:List fo}(h0:mS a.aQ (cE 0 dS).length fl=0){c:List Int}
  (hc:gF N a.aQ a.bM (cE 0 dS) (cP a.aQ<|cE 0 dS) l9 lZ fl=some c) (hl:c.length=a.bM.length) (p q:dO) (hN:4398046511104<=N):
  eJ N a fl p q=some (bif decide (jI a p<0)||decide (jI a q<0)then(false,9)else(wO c (jI a p).toNat (jI a q).toNat,0)):=by
 have hf:=b.xd.2;have hbl:=b.xR.gb.len;obtain⟨h20,_⟩:=xX h0;unfold eJ;rw[h1,aB,s9 b.uk p hN,s9 b.uk q hN];simp only[Gq,bne_self_eq_false,aM,aB];rw[uO (by omega) (by omega) (by omega),h0,aB,bne_self_eq_false,aM]
 rcases rL a p with⟨e1,_⟩|⟨i,x,e1,hx,_⟩
 ·rw[e1];rfl
 ·rcases rL a q with⟨e2,_⟩|⟨k,y,e2,hy,_⟩
  ·rw[e2,e1,bL (show(-1:Int)<0 by decide),Bool.or_true,aK,aK]
  ·have hi:=(bD.1 hx).1;have hk:=(bD.1 hy).1;have ei:c[i]? =some (c[i]'(by omega)):=aO _;have ek:c[k]? =some (c[k]'(by omega)):=aO _;rw[e1,e2,bG (show ¬((i:Nat):Int)<0 by omega),bG (show ¬((k:Nat):Int)<0 by omega),Bool.or_false,aM,aM,hc,aB,cI ei,cI ek];unfold wO;rw[cA,cA,List.getD_eq_getElem?_getD,List.getD_eq_getElem?_getD,ei,ek,Option.getD_some,Option.getD_some,aB]
   cases decide (c[i]'(by omega)>=0) <;> rfl
end
section
variable {N:Nat}
end
section
variable {N:Nat}{a:jr}{kS:List (List aA)}{dS:List (List (List aA))}{r:Nat->Nat}{gs:List cK}{ofP ofB l9:List Int}{lZ:List dP}
end
noncomputable def En(N:Nat)(a:jr)(dS:List (List<|List aA))(l9:List Int)(lZ:List dP)(fl:List fo):List Int:=(gF N a.aQ a.bM (cE 0 dS) (cP a.aQ<|cE 0 dS) l9 lZ fl).getD []
section
variable {N:Nat}{a:jr}{kS:List (List aA)}{dS:List (List (List aA))}{r:Nat->Nat}{gs:List cK}{ofP ofB l9:List Int}{lZ:List dP}
theorem Og(b:l8 a kS dS r gs ofP ofB l9 lZ){fl:List fo}(h0:mS a.aQ (cE 0 dS).length fl=0)(hN:4398046511104<=N):
  gF N a.aQ a.bM (cE 0 dS) (cP a.aQ<|cE 0 dS) l9 lZ fl=some (En N a dS l9 lZ fl)/\(En N a dS l9 lZ fl).length=a.bM.length/\Lx (En N a dS l9 lZ fl):=by
 obtain⟨r2,c,up,fm,c1,c2,c3⟩:=Hz b h0 hN;have e:En N a dS l9 lZ fl=c:=by unfold En;rw[c1];rfl
 rw[e];exact⟨c1,c3.len,c3.first⟩
end
section
variable {N:Nat}
end
def px(t u:Test):Int:=if gQ t.A u.A≠0 then gQ t.A u.A else gQ t.B u.B
def tM(a:jr)(l:List Test)(k:Nat):Option Int:=(l[k]?).bind λt=>
 if jI a t.A<0\/jI a t.B<0 then some 9 else if gQ t.B t.A<=0 then some 8 else if 0<k/\((l[k - 1]?).elim false λu=>decide<|px t u<=0)=true then some 8 else none
def qF(a:jr)(l:List Test):Int:=if 2000<l.length then 2 else(qg l.length<|tM a l).getD 0
structure RZ (a:jr) (t:Test):Prop where
 la:0<=jI a t.A
 lb:0<=jI a t.B
 lt:xU t.A t.B
section
variable {N:Nat}
theorem Oh(u v:Int):tf N [u,v]=some (if u≠0 then u else v):=by
 unfold tf
 rw[Ae (l:=[u,v]) (λx=>if x≠0 then some x else none) (by simp) (λk x hx=>by
  rw[cI hx,aB]
  by_cases h:x=0
  ·subst h;rfl
  ·rw[show(x != 0)=true by simpa using h,aK,aC h];rfl),aB]
 by_cases h:u=0
 ·subst h
  by_cases h':v=0
  ·subst h';rfl
  ·simp[h',Ft,Fo.cs]
 ·simp[h,Ft,Fo.cs]
theorem Ck(t u:Test):iY N t u=some (px t u):=by
 unfold iY px;rw[m9,aB,m9,aB,Oh,aB]
theorem Ly{a:jr}{e:Int}(he:e≠0)(h:fF N a=some (none,e))(l:List Test):mJ N a l=some (none,e):=by
 unfold mJ;rw[h,aB];simp only[Gq,show(e != 0)=true by simpa using he,aK]
end
section
variable {N:Nat}{a:jr}{kS:List (List aA)}{dS:List (List (List aA))}{r:Nat->Nat}{gs:List cK}{ofP ofB l9:List Int}{lZ:List dP}
theorem MF(b:l8 a kS dS r gs ofP ofB l9 lZ)(h1:fF N a=some (some (a.aJ,a.cN,a.aQ,a.bM,kS,cE 0 dS,cP a.aQ<|cE 0 dS,gs,ofP,ofB,l9,lZ),0)){l:List Test}(hl:l.length<=1048576)(hN:4398046511104<=N):
  (qF a l≠0/\mJ N a l=some (none,qF a l))\/(qF a l=0/\mJ N a l=some (some (a.aJ,a.cN,a.aQ,a.bM,kS,cE 0 dS,cP a.aQ<|cE 0 dS,gs,ofP,ofB,l9,lZ),0)):=by
 unfold mJ;rw[h1,aB];simp only[Gq,bne_self_eq_false,aM]
 by_cases h2:2000<l.length
 ·have e:qF a l=2:=by unfold qF;rw[aC h2]
  rw[bL (show((l.length:Nat):Int)>2000 by omega),aK,e];exact .inl ⟨by decide,rfl⟩
 rw[bG (show ¬((l.length:Nat):Int)>2000 by omega),aM]
 rw[ru (λk=>(tM a l k).map (λc=>(none,c))) (by omega) (λk hk _=>by
  have hx:l[k]? =some l[k]:=aO hk;have e1:((il N a l[k].A).bind λx149=>bif decide (x149<0)then some true else((il N a l[k].B).bind λx153=>some<|decide<|x153<0))=some (decide (jI a l[k].A<0)||decide (jI a l[k].B<0)):=by
   rw[s9 b.uk _ hN,s9 b.uk _ hN,aB,aB]
   cases decide (jI a l[k].A<0) <;> rfl
  have e2:(bif decide ((k:Int)>0)then((idx l<|wrap .i64<|(k:Int) - 1).bind λx208=>(iY N l[k] x208).bind λx211=>some<|decide<|x211<=0)else some false)=some (decide<|0<k/\((l[k - 1]?).elim false λu=>decide<|px l[k] u<=0)=true):=by
   by_cases h0:0<k
   ·have hp:k - 1<l.length:=by omega
    have hy:l[k - 1]? =some l[k - 1]:=aO hp;rw[bL (show((k:Nat):Int)>0 by omega),aK,jg h0 (by omega),cI hy,aB,Ck,aB,hy];simp only[Option.elim_some,h0,true_and,bJ]
   ·rw[bG (show ¬((k:Nat):Int)>0 by omega),aM,bG<|λh=>h0 h.1]
  rw[cI hx,aB,e1,aB];unfold tM;rw[hx,Option.bind_some]
  by_cases hA:jI a l[k].A<0\/jI a l[k].B<0
  ·rw[aC hA,show(decide (jI a l[k].A<0)||decide (jI a l[k].B<0))=true by rw[dU,bJ,bJ];exact hA];rfl
  rw[aD hA,show(decide (jI a l[k].A<0)||decide (jI a l[k].B<0))=false by rw[Bool.or_eq_false_iff,decide_eq_false_iff_not,decide_eq_false_iff_not];omega,aM,m9,aB]
  by_cases hB:gQ l[k].B l[k].A<=0
  ·rw[aC hB,bL hB];rfl
  rw[aD hB,bG hB,aM,e2,aB]
  by_cases hC:0<k/\((l[k - 1]?).elim false λu=>decide<|px l[k] u<=0)=true
  ·rw[aC hC,bL hC];rfl
  ·rw[aD hC,bG hC];rfl),aB,<-KQ]
 have hz:qF a l=(qg l.length<|tM a l).getD 0:=by unfold qF;rw[aD h2]
 cases hf:qg l.length (tM a l)with
 |none=>
  rw[hf]at hz;exact .inr ⟨hz,rfl⟩
 |some e=>
  rw[hf]at hz;have hz:qF a l=e:=hz;refine .inl ⟨?_,by rw[hz];rfl⟩;obtain⟨k,hk,he,_⟩:=jY.1 hf;rw[hz];unfold tM at he;rw[aO hk,Option.bind_some]at he
  repeat' split at he
  all_goals (first|(injection he with he;omega)|cases he)
end
section
variable {N:Nat}
end
section
variable {N:Nat}
end
section
variable {N:Nat}{a:jr}{kS:List (List aA)}{dS:List (List (List aA))}{r:Nat->Nat}{gs:List cK}{ofP ofB l9:List Int}{lZ:List dP}
theorem uP{l:List Test}{o:Option (List (List aI)×List aI×List bT×List cX×List (List aA)×List aH×List (List Int)×List cK×List Int×List Int×List Int×List dP)}{e:Int}(h:mJ N a l=some (o,e)):kV N a l=some e:=by
 unfold kV;rw[h,aB]
 cases o <;> rfl
end
section
variable {N:Nat}
end
section
variable (T:Nat->Nat->Bool)(n:Nat)
def xY(i k:Nat)(K:List Nat):Nat:=(List.range k).countP (T i)+K.countP (T i)
def MG(K:List Nat)(k:Nat):Bool:=(List.range n).any<|λi=>T i k&&decide (xY T i (k+1) K=1)
def Nr:Nat->List Nat->List Nat
 | 0,K=>K
 |k+1,K=>Nr k (if MG T n K k=true then k::K else K)
variable {T n}
theorem zy(i k:Nat)(K:List Nat):xY T i (k+1) K=xY T i k K+if T i k=true then 1 else 0:=by
 unfold xY;rw[List.range_succ,List.countP_append,List.countP_singleton];omega
theorem zz(i k:Nat)(K:List Nat):xY T i k (k::K)=xY T i (k+1) K:=by
 rw[zy];unfold xY;rw[List.countP_cons];omega
structure Lz (T:Nat->Nat->Bool) (n m k:Nat) (K:List Nat):Prop where
 up:K.Pairwise (· < ·)
 lo:∀j∈K,k<=j/\j<m
 all:∀i,i<n->(∃j,j<m/\T i j=true)->0<xY T i k K
 own:∀j∈K,∃i,i<n/\T i j=true/\xY T i k K=1
theorem Lz.step{m k:Nat}{K:List Nat}(h:Lz T n m (k+1) K)(hk:k<m):Lz T n m k (if MG T n K k=true then k::K else K):=by
 by_cases hn:MG T n K k=true
 ·rw[aC hn];refine⟨py.2 ⟨λj hj=>by have:=h.lo j hj;omega,h.up⟩,λj hj=>?_,λi hi hj=>?_,λj hj=>?_⟩
  ·rcases dI.1 hj with rfl|hj
   ·exact⟨bZ _,hk⟩
   ·have:=h.lo j hj;omega
  ·rw[zz];exact h.all i hi hj
  ·rcases dI.1 hj with rfl|hj
   ·unfold MG at hn;obtain⟨i,hi,h1⟩:=kq.1 hn;rw[bX,bJ]at h1;exact⟨i,oy.1 hi,h1.1,by rw[zz];exact h1.2⟩
   ·obtain⟨i,h1,h2,h3⟩:=h.own j hj;exact⟨i,h1,h2,by rw[zz];exact h3⟩
 ·rw[aD hn];have hno:∀i,i<n->T i k=true->xY T i (k+1) K≠1:=λi hi ht e=>hn<|kq.2 ⟨i,oy.2 hi,by rw[ht,e];rfl⟩
  refine⟨h.up,λj hj=>by have:=h.lo j hj;omega,λi hi hj=>?_,λj hj=>?_⟩
  ·have h1:=h.all i hi hj;have e:=zy (T:=T) i k K
   by_cases ht:T i k=true
   ·have:=hno i hi ht;rw[aC ht]at e;omega
   ·rw[aD ht]at e;omega
  ·obtain⟨i,h1,h2,h3⟩:=h.own j hj;refine⟨i,h1,h2,?_⟩;have e:=zy (T:=T) i k K;have hp:0<K.countP (T i):=List.countP_pos_iff.2 ⟨j,hj,h2⟩;have:xY T i k K=(List.range k).countP (T i)+K.countP (T i):=rfl;split at e <;> omega
def R0(T:Nat->Nat->Bool)(n m:Nat):List Nat:=Nr T n m []
end
def Js(n:Nat)(f:Nat->Int):List Int:=(List.range n).map f
theorem uo(n:Nat)(f:Nat->Int):(Js n f).length=n:=by unfold Js;simp
theorem DO{n:Nat}{f:Nat->Int}{i:Nat}(h:i<n):(Js n f)[i]? =some (f i):=by unfold Js;rw[fL,List.getElem?_range h];rfl
theorem vL{n:Nat}{f g:Nat->Int}(h:∀i,i<n->f i=g i):Js n f=Js n g:=List.map_congr_left λi hi=>h i<|oy.1 hi
theorem Jt{n:Nat}{f g:Nat->Int}{i:Nat}{v:Int}(hv:i<n->v=g i)(hg:∀j,j<n->j≠i->f j=g j):(Js n f).set i v=Js n g:=by
 refine List.ext_getElem? λj=>?_
 by_cases hj:j<n
 ·rw[DO hj]
  by_cases e:i=j
  ·subst e;rw[List.getElem?_set_self (by rw[uo];exact hj),hv hj]
  ·rw[List.getElem?_set_ne e,DO hj,hg j hj<|Ne.symm e]
 ·rw[List.getElem?_eq_none (by rw[gY,uo];omega),List.getElem?_eq_none (by rw[uo];omega)]
theorem LA(n:Nat):List.replicate n (0:Int)=Js n (λ_=>0):=by
 refine List.ext_getElem? λj=>?_
 by_cases hj:j<n
 ·rw[DO hj,List.getElem?_replicate,aC hj]
 ·rw[List.getElem?_eq_none (by simp;omega),List.getElem?_eq_none (by rw[uo];omega)]
section
variable {N:Nat}
end
section
variable {N:Nat}{a:jr}{kS:List (List aA)}{dS:List (List (List aA))}{r:Nat->Nat}{gs:List cK}{ofP ofB l9:List Int}{lZ:List dP}
end
section
variable {N:Nat}
end
def LL(u t:Test):Prop:=xU u.A t.A\/(u.A=t.A/\xU u.B t.B)
theorem HA{t u:Test}:0<px t u↔LL u t:=by
 unfold px LL
 by_cases h:gQ t.A u.A=0
 ·have e:=mR.1 h;rw[aD (by simpa using h),qZ];constructor
  ·exact λh=> .inr ⟨e.symm,h⟩
  ·rintro(h1|⟨_,h1⟩)
   ·rw[e]at h1;exact absurd h1<|xU.irrefl _
   ·exact h1
 ·rw[aC h,qZ];constructor
  ·exact .inl
  ·rintro(h1|⟨e,_⟩)
   ·exact h1
   ·exact absurd (mR.2 e.symm) h
theorem LL.trans{s t u:Test}(h1:LL s t)(h2:LL t u):LL s u:=by
 rcases h1 with h1|⟨e1,h1⟩
 ·rcases h2 with h2|⟨e2,_⟩
  ·exact .inl<|h1.trans h2
  ·exact .inl<|e2▸h1
 ·rcases h2 with h2|⟨e2,h2⟩
  ·exact .inl<|e1▸h2
  ·exact .inr ⟨e1.trans e2,h1.trans h2⟩
section
variable {T:Nat->Nat->Bool}{n:Nat}{l:List Test}
end
section
variable {N:Nat}
end
section
variable {N:Nat}{a:jr}{kS:List (List aA)}{dS:List (List (List aA))}{r:Nat->Nat}{gs:List cK}{ofP ofB l9:List Int}{lZ:List dP}
theorem LB(b:l8 a kS dS r gs ofP ofB l9 lZ){fl:List fo}(h0:mS a.aQ (cE 0 dS).length fl=0)(hN:4398046511104<=N):
  ∃r2,yU ((cE 0 dS).length+a.aQ.length) (ME (cE 0 dS).length (cP a.aQ<|cE 0 dS) fl) r2/\∀{i k:Nat}{x y:cX},a.bM[i]? =some x->a.bM[k]? =some y->
   (wO (En N a dS l9 lZ fl) i k=true↔∃u v,lu a.aQ (cE 0 dS) fl x=some u/\lu a.aQ (cE 0 dS) fl y=some v/\r2 u=r2 v):=by
 obtain⟨r2,c,up,fm,c1,c2,c3⟩:=Hz b h0 hN;have e:En N a dS l9 lZ fl=c:=by unfold En;rw[c1];rfl
 rw[e];exact⟨r2,c2,λhx hy=>c3.conn hx hy⟩
end
def Cl(r:Nat->Nat)(p q:Nat):Nat->Nat:=λx=>if r x=q then p else r x
theorem nE.rel{r:Nat->Nat}{E:List (Nat×Nat)}(h:nE r E)(i k:Nat):nE (Cl r (r i)<|r k) (E++[(i,k)]):=λp hp=>by
 rcases cR.1 hp with hp|hp
 ·unfold Cl;rw[h p hp]
 ·simp at hp;subst hp;unfold Cl;dsimp only;rw[aC rfl];split <;> rfl
theorem w6.rel{n:Nat}{r:Nat->Nat}{E:List (Nat×Nat)}(h:w6 n r E){i k:Nat}(hi:i<n)(hk:k<n):w6 n (Cl r (r i)<|r k) (E++[(i,k)]):=λS hS x y hx hy hr hSx=>by
 have hE:∀p∈E,S p.1↔S p.2:=λp hp=>hS p<|List.mem_append_left _ hp
 have hik:S i↔S k:=hS (i,k) (by simp);have key:=h S hE;unfold Cl at hr
 by_cases h1:r x=r y
 ·exact key x y hx hy h1 hSx
 ·by_cases h2:r x=r k
  ·rw[aC h2]at hr
   by_cases h3:r y=r k
   ·exact absurd (h2.trans h3.symm) h1
   ·rw[aD h3]at hr;exact key i y hi hy hr<|hik.2<|key x k hx hk h2 hSx
  ·rw[aD h2]at hr
   by_cases h3:r y=r k
   ·rw[aC h3]at hr;exact key k y hk hy h3.symm<|hik.1<|key x i hx hi hr hSx
   ·rw[aD h3]at hr;exact absurd hr h1
def FV(t:Nat)(u:List Int)(r:Nat->Nat):Prop:=u=(List.range t).map (λi=>((r i:Nat):Int))
theorem FV.len{t:Nat}{u:List Int}{r:Nat->Nat}(h:FV t u r):u.length=t:=by rw[h];simp
theorem FV.at{t:Nat}{u:List Int}{r:Nat->Nat}(h:FV t u r){i:Nat}(hi:i<t):u[i]? =some ((r i:Nat):Int):=by rw[h,fL,List.getElem?_range hi];rfl
structure AQ (t:Nat) (L:Nat->Nat->Prop) (r:Nat->Nat):Prop where
 co:∀i j,L i j->r i=r j
 fi:∀S:Nat->Prop,(∀i j,L i j->(S i↔S j))->∀i j,i<t->j<t->r i=r j->S i->S j
theorem AQ.uniq{t:Nat}{L:Nat->Nat->Prop}{r1 r2:Nat->Nat}(h1:AQ t L r1)(h2:AQ t L r2){i j:Nat}(hi:i<t)(hj:j<t):r1 i=r1 j↔r2 i=r2 j:=by
 have key:∀{r1 r2:Nat->Nat},AQ t L r1->AQ t L r2->r1 i=r1 j->r2 i=r2 j:=λ{r1 r2}h1 h2 e=>
  (h1.fi (λx=>r2 i=r2 x) (λa b hab=>by rw[h2.co a b hab]) i j hi hj e) rfl
 exact⟨key h1 h2,key h2 h1⟩
end Go.Gk
