/-
  Helping texts: plain functions and plain laws. No statement of the seed is proved here.
-/
import Derived.Test.YthjjhaommlojiaaGreatDoorE1
import Derived.Test.YthjjhaommlojiaaGreatDoorA2
set_option linter.unusedVariables false
set_option linter.unusedSimpArgs false
set_option linter.unusedSectionVars false
namespace Go.Gk
open Go IntKind Classical
section
variable {N:Nat}
def Cu(a:jT):Prop:=∀x∈a.bN,x.Part.dP.length<=1048576/\x.eE.dP.length<=1048576
theorem Dd{a:jT}(h1:a.aJ.length<=1073741824)(h2:a.bN.length<=1073741824)(h3:Cu a)(hN:4194304<=N):ll N a=some (nK a):=by
 unfold ll nK
 by_cases h:1000<a.bN.length
 ·rw[bJ (by omega),aK,aC h]
 ·have hw:wrap .i64 (((a.aJ.length:Nat):Int) - 1)=((a.aJ.length:Nat):Int) - 1:=fJ (by omega) (by omega)
  rw[bQ (by omega),aM,aF h,tS (kU a) (by omega) (λk hk _=>by
   have hx:a.bN[k]? =some a.bN[k]:=aQ hk;have hs:=h3 _<|cC hk
   rw[dC hx,aB,zo hs.1 hN,aB]
   have hle:kU a k=(if(oj a.bN[k].Part&&isWord a.bN[k].eE)=true then
     if(gu a.bN[k].dL 0 (((a.aJ.length:Nat):Int) - 1)&&sD a.bN[k].At)=true then
      if 0<k/\(∃y,a.bN[k - 1]? =some y/\kh (kq a.bN[k]) (kq y)<=0)then some 8 else none
     else some 1
    else some 5):=by unfold kU;rw[hx];rfl
   rw[hle];have e1:((bif(!oj a.bN[k].Part)then some true else((j3 N a.bN[k].eE).bind λx225=>some<|!x225)):Option Bool)=some (!(oj a.bN[k].Part&&isWord a.bN[k].eE)):=by
    rw[ti hs.2,aB]
    cases oj a.bN[k].Part <;> rfl
   have e2:((jm N a.bN[k].dL 0<|wrap .i64<|((a.aJ.length:Nat):Int) - 1).bind λx318=>bif(!x318)then some true else((ky N a.bN[k].At).bind λx321=>some<|!x321))=some (!(gu a.bN[k].dL 0 (((a.aJ.length:Nat):Int) - 1)&&sD a.bN[k].At)):=by
    rw[hw,ym,aB,AK,aB]
    cases gu a.bN[k].dL 0 (((a.aJ.length:Nat):Int) - 1) <;> rfl
   show((bif(!oj a.bN[k].Part)then some true else((j3 N a.bN[k].eE).bind λx225=>some<|!x225)):Option Bool).bind _=_;rw[e1,aB]
   cases h4:(oj a.bN[k].Part&&isWord a.bN[k].eE)with
   |false=>rfl
   |true=>
    rw[kQ,aM,aC rfl];show(((jm N a.bN[k].dL 0<|wrap .i64<|((a.aJ.length:Nat):Int) - 1).bind λx318=>bif(!x318)then some true else((ky N a.bN[k].At).bind λx321=>some<|!x321))).bind _=_;rw[e2,aB]
    cases h5:(gu a.bN[k].dL 0 (((a.aJ.length:Nat):Int) - 1)&&sD a.bN[k].At)with
    |false=>rfl
    |true=>
     rw[kQ,aM,aC rfl]
     by_cases h0:0<k
     ·rw[bJ (by omega),aK,iH h0 (by omega),lH _ _ (by omega:k - 1<a.bN.length)];simp only[Af,aB,vu]
      by_cases h6:kh (kq a.bN[k]) (kq a.bN[k - 1])<=0
      ·rw[bJ h6,aC ⟨h0,_,aQ (by omega:k - 1<a.bN.length),h6⟩];rfl
      ·rw[bQ h6,aF (by
        rintro⟨_,y,hy,h7⟩;rw[aQ (by omega:k - 1<a.bN.length)]at hy;injection hy with hy
        rw[<-hy]at h7;exact h6 h7)];rfl
     ·rw[bQ (by omega),aF (λh=>h0 h.1)];rfl),aB]
  cases xh a.bN.length (kU a) <;> rfl
def kr(b:cD)(k:Int):Bool:=decide (b.cV<=k)&&decide (k<=b.To)
theorem Cv(b:cD)(k:Int):lM N b k=some (kr b k):=rfl
def kz(bs:List cD)(k:Int):List aH:=(bs.filter<|λb=>kr b k).map vM
structure k8 (bs:List cD):Prop where
 len:bs.length<=500
 ok:∀b∈bs,ri b=true/\fY (vM b)=true
structure va (r hs:List aH) (s:List aA):Prop where
 can:fM (s.map cH)
 cover:∀x y,vL (s.map cH) x y=(ue r x y&& !ue hs x y)
 lim:yu (uk r++uk hs) (jX r++jX hs) (s.map cH)
theorem Ag{bs:List cD}(h:k8 bs)(k:Int):(kz bs k).length<=500:=by
 unfold kz;rw[cE];have:=kP (λb=>kr b k) bs;have:=h.len;omega
theorem sE{bs:List cD}(h:k8 bs)(k:Int):∀r∈kz bs k,CY r/\fY r=true:=by
 intro r hr;unfold kz at hr;obtain⟨b,hb,rfl⟩:=dD.1 hr;have:=h.ok b (jo.1 hb).1;exact⟨L3 this.1 this.2,this.2⟩
theorem va.small{r hs:List aH}{s:List aA}(h:va r hs s)(h1:∀x∈r,CY x)(h2:∀x∈hs,CY x):(∀c∈uk r++uk hs,small c)/\∀c∈jX r++jX hs,small c:=by
 constructor
 ·intro c hc
  rcases dI.1 hc with h|h
  ·obtain⟨x,hx,rfl|rfl⟩:=um.1 h
   ·exact(h1 x hx).s1
   ·exact(h1 x hx).s2
  ·obtain⟨x,hx,rfl|rfl⟩:=um.1 h
   ·exact(h2 x hx).s1
   ·exact(h2 x hx).s2
 ·intro c hc
  rcases dI.1 hc with h|h
  ·obtain⟨x,hx,rfl|rfl⟩:=lY.1 h
   ·exact(h1 x hx).s3
   ·exact(h1 x hx).s4
  ·obtain⟨x,hx,rfl|rfl⟩:=lY.1 h
   ·exact(h2 x hx).s3
   ·exact(h2 x hx).s4
theorem w4{s:List aA}{X Y:List Int}{A:Nat}(hc:fM (s.map cH))(h:yu X Y (s.map cH))(hX:X.length<=A)(hY:Y.length<=A):s.length<=A/\(∀b∈s,b.Xs.length<=A)/\(aS s).length<=A*A:=by
 have h1:s.length<=A:=by have:=h.len hc;rw[cE]at this;omega
 have h2:∀b∈s,b.Xs.length<=A:=λb hb=>by
  have:=h.row hc (b:=cH b)<|dD.2 ⟨b,hb,rfl⟩
  have e:(cH b).xs=b.Xs:=rfl;rw[e]at this;omega
 exact⟨h1,h2,Cf h1 h2⟩
theorem De{r hs:List aH}(h1:r.length<=2000)(h2:∀x∈r,CY x)(h3:hs.length<=500)(h4:∀x∈hs,CY x)(hN:4398046511104<=N){β:Type}{f:List aA->Option β}{Q:β->Prop}(k:∀s,va r hs s->Ok (f s) Q):
  Ok ((iY N r).bind λx378=>(iY N hs).bind λx380=>(lN N x378 x380).bind f) Q:=by
 refine QJ (qj (N:=N) (by omega) h2 (by omega))<|λs hs1=>?_
 refine QJ (qj (N:=N) (by omega) h4 (by omega))<|λt ht=>?_
 have hz:∀c∈jX r++jX hs,small c:=by
  intro c hc
  rcases dI.1 hc with h|h
  ·obtain⟨x,hx,rfl|rfl⟩:=lY.1 h
   ·exact(h2 x hx).s3
   ·exact(h2 x hx).s4
  ·obtain⟨x,hx,rfl|rfl⟩:=lY.1 h
   ·exact(h4 x hx).s3
   ·exact(h4 x hx).s4
 refine QJ (IY (X:=uk r++uk hs) (Y:=jX r++jX hs) hs1.can ht.can (hs1.lim.mono (λc h=>List.mem_append_left _ h) (λc h=>List.mem_append_left _ h)) (ht.lim.mono (λc h=>List.mem_append_right _ h) (λc h=>List.mem_append_right _ h))
  (by rw[dB,mD,mD];omega) (by rw[dB,j7,j7];omega) hz hN) (λu hu=>?_)
 exact k u ⟨hu.can,λx y=>by rw[hu.cover,hs1.cover,ht.cover],hu.lim⟩
def aR:Nat->List (List<|List aA)->List aI
 |_,[]=>[]
 |k,ps::r=>ps.map (λp=>⟨((k:Nat):Int),p,aS p⟩)++aR (k+1) r
theorem vc(ps:List (List aA)):∀(r:List (List<|List aA))(k:Nat),aR k (r++[ps])=aR k r++ps.map (λp=>⟨((k+r.length:Nat):Int),p,aS p⟩)
 | [],k=>by unfold aR;simp[aR]
 |q::r,k=>by
  show _++aR (k+1) (r++[ps])=(_++aR (k+1) r)++_;rw[vc ps r<|k+1,ku];congr 3;simp only[cS];rw[show k+(r.length+1)=k+1+r.length by omega]
theorem Cw{s p:List aA}{ps:List (List aA)}{r:Nat->Nat}{X Y:List Int}(h:tg s r ps)(hc:fM (s.map cH))(hl:yu X Y (s.map cH))(hX:∀c∈X,small c)(hY:∀c∈Y,small c)(hp:p∈ps):
  ∃j k:Nat,ps[j]? =some p/\(bT (aS s).length r)[j]? =some k/\uo (oF (aS s) (aS s).length r k) p/\yu X Y (p.map cH):=by
 obtain⟨j,hj⟩:=dN hp;have hjl:=(aZ.1 hj).1;rw[h.len]at hjl;have hh:(bT (aS s).length r)[j]? =some (bT (aS s).length r)[j]:=aQ hjl;have hs:=h.each j _ p hh hj;refine⟨j,_,hj,hh,hs,hs.lim.mono (λc hcx=>?_)<|λc hcx=>?_⟩
 ·obtain⟨x,hx,hxc⟩:=um.1 hcx;obtain⟨i,_,_,hi⟩:=mE.1 hx;have:=Ch hc hl hX hY x<|eL hi
  rcases hxc with rfl|rfl
  ·exact this.2.1.1
  ·exact this.2.1.2
 ·obtain⟨x,hx,hxc⟩:=lY.1 hcx;obtain⟨i,_,_,hi⟩:=mE.1 hx;have:=Ch hc hl hX hY x<|eL hi
  rcases hxc with rfl|rfl
  ·exact this.2.2.1
  ·exact this.2.2.2
structure yn (cs:List (List aH)) (bs:List cD) (k:Nat) (lE:List (List aA)) (dA:List (List (List aA))):Prop where
 len:lE.length=k
 Ba:dA.length=k
 dr:∀(i:Nat)r s,i<k->cs[i]? =some r->lE[i]? =some s->va r (kz bs ((i:Nat):Int)) s
 pt:∀(i:Nat)s ps,i<k->lE[i]? =some s->dA[i]? =some ps->∃u,tg s u ps
 w5:(aR 0 dA).length<=k*25000000
theorem tg.w5{s:List aA}{u:Nat->Nat}{ps:List (List aA)}(h:tg s u ps):ps.length<=(aS s).length:=by
 rw[h.len];exact lZ _ _
theorem He{cs:List (List aH)}{bs:List cD}(hcs:cs.length<=16)(hc:∀r∈cs,r.length<=2000/\∀x∈r,CY x)(hb:k8 bs)(hN:4398046511104<=N):
  Ok (kF N cs bs [] []) (λx=>∃dA,yn cs bs cs.length x.2.1 dA/\x.2.2=aR 0 dA/\(x.1=true↔(∀s∈x.2.1,(aS s).length<=2000)/\x.2.2.length<=2000)):=by
 unfold kF
 refine QJ (P:=λ(st:List (List aA)×List aI×Bool)=>∃dA,yn cs bs cs.length st.1 dA/\st.2.1=aR 0 dA/\(st.2.2=true↔∀s∈st.1,(aS s).length<=2000)) (RR (λ(k:Nat)(st:List (List aA)×List aI×Bool)=>∃dA,yn cs bs k st.1 dA/\st.2.1=aR 0 dA/\(st.2.2=true↔∀s∈st.1,(aS s).length<=2000)) (by omega)
  ⟨[],⟨rfl,rfl,λi r s hi=>by omega,λi s ps hi=>by omega,by simp[aR]⟩,rfl,by simp⟩ (λk st hk hI=>?_)) ?_
 ·obtain⟨lE,pcs,okk⟩:=st;obtain⟨dA,D,e1,e2⟩:=hI;dsimp only at D e1 e2 ⊢;subst e1;have hkx:cs[k]? =some cs[k]:=aQ hk;obtain⟨hr1,hr2⟩:=hc _<|cC hk
  refine QU hkx ?_;refine QJ (P:=λt=>t=kz bs ((k:Nat):Int)) (Ok.mono (RR (λj t=>t=kz (bs.take j) ((k:Nat):Int)) (by have:=hb.len;omega) rfl<|λj t hj e=>?_) (λt e=>by rw[e,eM]))<|λt e=>?_
  ·subst e;refine RE hj<|QD (Cv _ _) ?_
   have hts:bs.take (j+1)=bs.take j++[bs[j]]:=eD hj;have hgb:=hb.ok _<|cC hj
   have hl:(kz (bs.take j) ((k:Nat):Int)).length<=500:=by
    unfold kz;rw[cE];have:=kP (λb=>kr b ((k:Nat):Int))<|bs.take j
    rw[cQ]at this;have:=hb.len;omega
   cases ht:kr bs[j] ((k:Nat):Int)with
   |false=>
    rw[aM];refine QD rfl<|QC ?_
    unfold kz;rw[hts,jq];simp[ht]
   |true=>
    rw[aK];refine QD (x:=kz (bs.take j) ((k:Nat):Int)++[vM bs[j]]) (by rw[nI hgb.1,aB,j6 (by simp;omega),aB])<|QC ?_
    unfold kz;rw[hts,jq,dG];simp[ht]
  ·subst e;have hho:=sE hb ((k:Nat):Int);have hhl:=Ag hb ((k:Nat):Int);refine De hr1 hr2 hhl (λx hx=>(hho x hx).1) hN<|λs hs=>?_
   obtain⟨sx,sy⟩:=hs.small hr2<|λx hx=>(hho x hx).1
   obtain⟨z1,z2,z3⟩:=w4 (A:=5000) hs.can hs.lim (by rw[dB,mD,mD];omega) (by rw[dB,j7,j7];omega);have hmany:=K9 (N:=N) (s:=s) (by omega) (λb hb=>by have:=z2 b hb;omega) (by omega);refine QD (x:=(okk&&decide ((aS s).length<=2000),s)) ?_ ?_
   ·cases okk with
    |false=>rfl
    |true=>
     rw[aK,hmany,aB,Bool.true_and];rw[show decide ((((aS s).length:Nat):Int)<=2000)=decide ((aS s).length<=2000)from decide_eq_decide.2 (by omega)]
   dsimp only;refine Rp (by rw[D.len];simp;omega) ?_;refine QJ (Hb (N:=N) hs.can hs.lim sx sy (by omega) (λb hb=>by have:=z2 b hb;omega) (by omega) hN) ?_;rintro ps⟨u,hu⟩;have hfew:=hu.w5;have hk16:k*25000000<=16*25000000:=Nat.mul_le_mul_right _ (by omega);have hDf:=D.w5;refine QJ (P:=λt=>t=aR 0 dA++ps.map (λp=>(⟨((k:Nat):Int),p,aS p⟩:aI))) (Ok.mono (RR (λj t=>t=aR 0 dA++(ps.take j).map (λp=>(⟨((k:Nat):Int),p,aS p⟩:aI))) (by omega) (by simp)<|λj t hj e=>?_) (λt e=>by rw[e,eM]))<|λt e=>QC ?_
   ·subst e;have hjx:ps[j]? =some ps[j]:=aQ hj;refine QU hjx ?_;obtain⟨_,_,_,_,nN,hpl⟩:=Cw hu hs.can hs.lim sx sy<|cC hj
    obtain⟨y1,y2,y3⟩:=w4 (A:=5000) nN.can hpl (by rw[dB,mD,mD];omega) (by rw[dB,j7,j7];omega);refine QD (Cg (uu nN.can) (by omega) (λb hb=>by have:=y2 b hb;omega) (by omega))<|Rp ?_<|QC ?_
    ·simp only[dB,cE,cQ,List.length_singleton];omega
    ·rw[eD hj,dG,ku];rfl
   ·subst e;refine⟨dA++[ps],⟨by simp[D.len],by simp[D.Ba],λi r s' hi hr hs'=>?_,λi s' ps' hi hs' hps'=>?_,?_⟩,?_,?_⟩
    ·dsimp only at hs'
     by_cases hik:i<k
     ·rw[gp (by rw[D.len];exact hik)]at hs';exact D.dr i r s' hik hr hs'
     ·have:i=k:=by omega
      subst this;rw[g9 (by rw[D.len];omega),D.len,Nat.sub_self]at hs';simp at hs';subst hs';rw[hkx]at hr;injection hr with hr;subst hr
      exact hs
    ·dsimp only at hs'
     by_cases hik:i<k
     ·rw[gp (by rw[D.len];exact hik)]at hs';rw[gp (by rw[D.Ba];exact hik)]at hps';exact D.pt i s' ps' hik hs' hps'
     ·have:i=k:=by omega
      subst this;rw[g9 (by rw[D.len];omega),D.len,Nat.sub_self]at hs';rw[g9 (by rw[D.Ba];omega),D.Ba,Nat.sub_self]at hps';simp at hs' hps';subst hs';subst hps';exact⟨u,hu⟩
    ·rw[vc,dB,cE];omega
    ·dsimp only;rw[vc,D.Ba,iO]
    ·dsimp only;rw[bY,e2,bP];constructor
     ·rintro⟨h1,h2⟩s' hs'
      rcases dI.1 hs' with h|h
      ·exact h1 s' h
      ·simp at h;subst h;exact h2
     ·intro h;exact⟨λs' hs'=>h s'<|List.mem_append_left _ hs',h s (by simp)⟩
 ·rintro⟨lE,pcs,okk⟩⟨dA,D,e1,e2⟩;dsimp only at D e1 e2 ⊢;subst e1;refine QJ (P:=λb=>b=true↔(∀s∈lE,(aS s).length<=2000)/\(aR 0 dA).length<=2000) (Q8 (λh=>QC ?_)<|λh=>QC ?_)<|λb hb=>QC ⟨dA,D,rfl,hb⟩
  ·rw[bP];constructor
   ·intro h';exact⟨e2.1 h,by omega⟩
   ·rintro⟨_,h'⟩;omega
  ·constructor
   ·intro h';cases h'
   ·rintro⟨h',_⟩;rw[e2.2 h']at h;cases h
end
section
variable {N:Nat}
section
variable {α:Type}
def pj(P:α->Bool)(l:List α)(n:Nat):List Nat:=(List.range n).filter<|λk=>(l[k]?).any P
theorem yo{P:α->Bool}{l:List α}{n:Nat}{x:α}(h:l[n]? =some x):pj P l (n+1)=if P x=true then pj P l n++[n]else pj P l n:=by
 unfold pj;rw[List.range_succ,jq]
 by_cases hp:P x=true
 ·rw[aC hp];simp[h,hp]
 ·rw[aF hp];simp[h,hp]
theorem w6(P:α->Bool)(l:List α)(n:Nat):(pj P l n).length<=n:=by
 have:=kP (λk=>(l[k]?).any P)<|List.range n
 rw[List.length_range]at this;exact this
theorem I4{P:α->Bool}{l:List α}{n k:Nat}:k∈pj P l n↔k<n/\(l[k]?).any P=true:=by unfold pj;simp
theorem zu{β:Type}{l:List α}(P:α->Bool)(g:Nat->β):xh l.length (λk=>(l[k]?).bind λx=>if P x=true then some (g k)else none)=(l.findIdx? P).map g:=by
 cases h:l.findIdx? P with
 |none=>
  rw[List.findIdx?_eq_none_iff]at h;refine o9.2 λk hk=>?_;rw[aQ hk];have:=h _<|cC hk
  simp[this]
 |some j=>
  obtain⟨hj,hp,hn⟩:=List.findIdx?_eq_some_iff_getElem.1 h;refine qg.2 ⟨j,hj,by rw[aQ hj];simp[hp],λi hi=>?_⟩;rw[aQ (by omega)];have:=hn i hi;simp[this]
end
def ints(l:List Nat):List Int:=l.map λi=>((i:Nat):Int)
theorem mg(l m:List Nat):ints (l++m)=ints l++ints m:=dG
theorem gX(l:List Nat):(ints l).length=l.length:=cE _
theorem qM{l:List Nat}{x:Int}:x∈ints l↔∃i∈l,x=((i:Nat):Int):=by
 unfold ints;rw[dD];constructor
 ·rintro⟨i,h1,h2⟩;exact⟨i,h1,h2.symm⟩
 ·rintro⟨i,h1,h2⟩;exact⟨i,h1,h2.symm⟩
def rC(p0 p1:aH):Bool:=(((decide (p0.X0<p1.X1)&&decide (p1.X0<p0.X1))&&((p0.Y1==p1.Y0)||(p1.Y1==p0.Y0)))||((decide (p0.Y0<p1.Y1)&&decide (p1.Y0<p0.Y1))&&((p0.X1==p1.X0)||(p1.X1==p0.X0))))
def il(b:cD)(p:aI):Bool:=b.gw&&(kr b p.dL&&p.gI.any (λr=>rC r<|vM b))
def dO(bs:List cD)(pcs:List aI):List (List Int):=bs.map λb=>ints<|pj (il b) pcs pcs.length
theorem tj{l:List aH}{φ:aH->Option Bool}(p:aH->Bool)(hl:l.length<=4611686018427387904)(h:∀x∈l,φ x=some (p x)):iJ N l φ=some (l.any p):=
 tT p hl h
theorem Kf{bs:List cD}{pcs:List aI}(hb:k8 bs)(hp:pcs.length<=1073741824)(hr:∀p∈pcs,p.gI.length<=1073741824):kG N bs pcs []=some (dO bs pcs):=by
 refine RD ?_;have hbl:=hb.len;unfold kG;refine QJ (RR (λk st=>st=dO (bs.take k) pcs) (by omega) rfl<|λk st hk e=>?_)<|λst e=>QC (by rw[e,eM])
 subst e;have hg:=hb.ok _<|cC hk
 refine RE hk ?_;refine QJ (P:=λt=>t=ints (pj (il bs[k]) pcs pcs.length)) (RR (λj t=>t=ints (pj (il bs[k]) pcs j)) (by omega) rfl<|λj t hj e=>?_)<|λt e=>?_
 ·subst e;have hjx:pcs[j]? =some pcs[j]:=aQ hj;have hl:=w6 (il bs[k]) pcs j;refine QU hjx ?_;refine QD (x:=il bs[k] pcs[j]) ?_ ?_
  ·unfold il
   cases bs[k].gw with
   |false=>rfl
   |true=>
    rw[aK,Cv,aB,Bool.true_and]
    cases kr bs[k] pcs[j].dL with
    |false=>rfl
    |true=>
     rw[aK,tj (λr=>rC r (vM bs[k])) (by have:=hr _ (cC hj);omega) (λr _=>by
      unfold kS;rw[nI hg.1];rfl),aB,Bool.true_and]
  ·rw[yo hjx]
   cases ht:il bs[k] pcs[j]with
   |false=>rw[aM,aF (by simp)];exact QD rfl (QC rfl)
   |true=>
    rw[aK,aC rfl];refine QD (x:=ints (pj (il bs[k]) pcs j)++[((j:Nat):Int)]) (by rw[j6 (by rw[gX];simp;omega),aB])<|QC ?_
    rw[mg];rfl
 ·subst e;refine Rp ?_<|QC ?_
  ·unfold dO;simp;omega
  ·unfold dO;rw[eD hk,dG];rfl
def AM(r:List aH)(p:jS):Bool:=r.any<|λx=>decide (p.X>=x.X0)&&(decide (p.X<x.X1)&&(decide (p.Y>=x.Y0)&&decide (p.Y<x.Y1)))
theorem zv{r:List aH}{p:jS}(hl:r.length<=4611686018427387904):k6 N r p=some (AM r p):=by
 unfold k6
 rw[tj (λx=>decide (p.X>=x.X0)&&(decide (p.X<x.X1)&&(decide (p.Y>=x.Y0)&&decide (p.Y<x.Y1)))) hl (λx _=>by
  unfold mm
  cases decide (p.X>=x.X0) <;> cases decide (p.X<x.X1) <;> cases decide (p.Y>=x.Y0) <;> rfl)];rfl
def l4(l:eP)(b:cD):Bool:=b.gw&&(kr b l.dL&&AM [vM b] l.At)
def lx(l:eP)(p:aI):Bool:=(p.dL==l.dL)&&AM p.gI l.At
def l5(bs:List cD)(pcs:List aI)(l:eP):Option cL:=match bs.findIdx? (l4 l)with
 |some k=>some ⟨true,((k:Nat):Int)⟩
 |none=>(pcs.findIdx? (lx l)).map λk=>⟨false,((k:Nat):Int)⟩
theorem Kg{bs:List cD}{pcs:List aI}(hb:k8 bs)(hp:pcs.length<=1073741824)(hr:∀p∈pcs,p.gI.length<=1073741824)(l:eP):
  kI N bs pcs l=some ((l5 bs pcs l).getD ⟨false,0⟩,(l5 bs pcs l).isSome):=by
 have hbl:=hb.len;unfold kI
 rw[tS (λk=>(bs[k]?).bind λx=>if l4 l x=true then some ((⟨true,((k:Nat):Int)⟩:cL),true)else none) (by omega) (λk hk _=>by
  have hkx:bs[k]? =some bs[k]:=aQ hk;have hg:=hb.ok _<|cC hk
  rw[dC hkx,aB,hkx,nI hg.1,aB,aB,zv (by simp)];unfold l4
  cases bs[k].gw with
  |false=>rfl
  |true=>
   show(((bif kr bs[k] l.dL then _ else _:Option Bool)).bind _)=_
   cases kr bs[k] l.dL with
   |false=>rfl
   |true=>
    cases AM [vM bs[k]] l.At <;> rfl),aB,zu (l4 l) (λk=>((⟨true,((k:Nat):Int)⟩:cL),true))]
 unfold l5
 cases bs.findIdx? (l4 l)with
 |some k=>rfl
 |none=>
  show((uH pcs.length _ ()).bind _)=_
  rw[tS (λk=>(pcs[k]?).bind λx=>if lx l x=true then some ((⟨false,((k:Nat):Int)⟩:cL),true)else none) (by omega) (λk hk _=>by
   have hkx:pcs[k]? =some pcs[k]:=aQ hk;rw[dC hkx,aB,hkx,aB,zv (by have:=hr _<|cC hk;omega)];unfold lx
   cases pcs[k].dL==l.dL with
   |false=>rfl
   |true=>cases AM pcs[k].gI l.At <;> rfl),aB,zu (lx l) (λk=>((⟨false,((k:Nat):Int)⟩:cL),true))]
  cases pcs.findIdx? (lx l) <;> rfl
def Lk(n:Nat)(tch:List (List Int))(i j:Nat):Prop:=∃(k:Nat)(l:List Int),tch[k]? =some l/\((i:Nat):Int)∈l/\j=n+k
structure Es (n m:Nat) (tch:List (List Int)) (r:Nat->Nat):Prop where
 le:∀i,i<n+m->r i<=i
 rr:∀i,i<n+m->r (r i)=r i
 co:∀i j,Lk n tch i j->r i=r j
 fi:∀S:Nat->Prop,(∀i j,Lk n tch i j->(S i↔S j))->∀i j,i<n+m->j<n+m->r i=r j->S i->S j
theorem I5{n m:Nat}{tch:List (List Int)}(hm:tch.length=m)(ht:∀l∈tch,l.length<=1073741824/\∀x∈l,∃i:Nat,i<n/\x=((i:Nat):Int))(hn:n<=1073741824)(hm2:m<=1073741824){up:List Int}(hu:UF (n+m) up (λi=>i))(hN:4398046511104<=N):
  Ok (my tch.length (λ(k34:Nat)(s35:List Int)=>((idx tch (k34:Int)).bind λx89=>(my x89.length (λ(k92:Nat)(s93:List Int)=>((idx x89 (k92:Int)).bind λx107=>(iS N s93 x107<|wrap .i64<|(n:Int)+(k34:Int)).bind λx109=>some x109:Option (List Int))) s35).bind λs93=>some s93:Option (List Int))) up)
   (λup'=>∃r,UF (n+m) up' r/\Es n m tch r):=by
 have base:Ok (my tch.length (λ(k34:Nat)(s35:List Int)=>((idx tch (k34:Int)).bind λx89=>(my x89.length (λ(k92:Nat)(s93:List Int)=>((idx x89 (k92:Int)).bind λx107=>(iS N s93 x107<|wrap .i64<|(n:Int)+(k34:Int)).bind λx109=>some x109:Option (List Int))) s35).bind λs93=>some s93:Option (List Int))) up)
   (λup'=>∃r E,UF (n+m) up' r/\sB r E/\Ck (n+m) r E/\(∀p∈E,Lk n tch p.1 p.2)/\∀(k:Nat)l(i:Nat),k<tch.length->tch[k]? =some l->((i:Nat):Int)∈l->(i,n+k)∈E):=by
  refine RR (λq up'=>∃r E,UF (n+m) up' r/\sB r E/\Ck (n+m) r E/\(∀p∈E,Lk n tch p.1 p.2)/\∀(k:Nat)l(i:Nat),k<q->tch[k]? =some l->((i:Nat):Int)∈l->(i,n+k)∈E) (by omega)
   ⟨_,_,hu,sB.id,Ck.id _,λp hp=>(by cases hp),λk l i hk=>by omega⟩ (λq up' hq hI=>?_)
  obtain⟨r,E,h1,h2,h3,h4,h5⟩:=hI;have hqx:tch[q]? =some tch[q]:=aQ hq;obtain⟨hl1,hl2⟩:=ht _<|cC hq
  refine QU hqx ?_;rw[wrap_add (by omega)]
  refine QJ (RR (λt up'=>∃r E,UF (n+m) up' r/\sB r E/\Ck (n+m) r E/\(∀p∈E,Lk n tch p.1 p.2)/\(∀(k:Nat)l(i:Nat),k<q->tch[k]? =some l->((i:Nat):Int)∈l->(i,n+k)∈E)/\∀i:Nat,((i:Nat):Int)∈tch[q].take t->(i,n+q)∈E) (by omega)
   ⟨r,E,h1,h2,h3,h4,h5,λi hi=>by simp at hi⟩ (λt up' htl hI=>?_)) (λup' hI=>QC ?_)
  ·obtain⟨r,E,h1,h2,h3,h4,h5,h6⟩:=hI;refine RE htl ?_;obtain⟨i,hi,e⟩:=hl2 _<|cC htl
   rw[e];obtain⟨u2,a1,a2⟩:=Lb (N:=N) h1 (i:=i) (k:=n+q) (by omega) (by omega) (by omega);refine QD a1<|QC ⟨_,_,a2,h2.join i (n+q)<|h1.rr i (by omega),h3.join (by omega) (by omega),λp hp=>?_,λk l j hk hl hj=>List.mem_append_left _<|h5 k l j hk hl hj,λj hj=>?_⟩
   ·rcases dI.1 hp with hp|hp
    ·exact h4 p hp
    ·simp at hp;subst hp;exact⟨q,tch[q],hqx,by rw[<-e];exact cC htl,rfl⟩
   ·rw[eD htl,dI]at hj
    rcases hj with hj|hj
    ·exact List.mem_append_left _<|h6 j hj
    ·rw[oI,e]at hj;have:j=i:=by omega
     subst this;simp
  ·obtain⟨r,E,h1,h2,h3,h4,h5,h6⟩:=hI;refine⟨r,E,h1,h2,h3,h4,λk l i hk hl hi=>?_⟩
   by_cases hkq:k<q
   ·exact h5 k l i hkq hl hi
   ·have:k=q:=by omega
    subst this;rw[hqx]at hl;injection hl with hl;subst hl
    exact h6 i (by rw[eM];exact hi)
 obtain⟨up',e,r,E,h1,h2,h3,h4,h5⟩:=base;have hE:∀i j,Lk n tch i j->(i,j)∈E:=λi j⟨k,l,hl,hi,hj⟩=>by
  rw[hj];exact h5 k l i (aZ.1 hl).1 hl hi
 exact⟨up',e,r,h1,h1.le,h1.rr,λi j h=>h2 (i,j)<|hE i j h,λS hS i j hi hj=>h3 S (λp hp=>hS p.1 p.2<|h4 p hp) i j hi hj⟩
def uw(bs:List cD)(j:Nat):Bool:=(bs[j]?).any<|λb=>b.gw
def gP(n:Nat)(c:List Nat):List Nat:=c.filter<|λi=>decide<|i<n
def gB(bs:List cD)(n:Nat)(c:List Nat):List Nat:=(c.filter<|λi=> !decide (i<n)&&uw bs (i - n)).map<|λi=>i - n
def F4(bs:List cD)(n:Nat)(c:List Nat):Bool:=decide<|0<(gP n c).length+(gB bs n c).length
def L4(bs:List cD)(n:Nat)(c:List Nat):cP:=⟨ints<|gP n c,ints<|gB bs n c,[]⟩
theorem H8(n:Nat)(c:List Nat)(i:Nat):gP n (c++[i])=if i<n then gP n c++[i]else gP n c:=by
 unfold gP;rw[jq];split <;> rename_i h <;> simp[h]
theorem H9(bs:List cD)(n:Nat)(c:List Nat)(i:Nat):gB bs n (c++[i])=if i<n then gB bs n c else if uw bs (i - n)=true then gB bs n c++[i - n]else gB bs n c:=by
 unfold gB;rw[jq,dG];split
 ·rename_i h;simp[h]
 ·rename_i h;split <;> rename_i h2 <;> simp[h,h2]
theorem Hf(n:Nat)(c:List Nat):(gP n c).length<=c.length:=kP _ _
theorem Hg(bs:List cD)(n:Nat)(c:List Nat):(gB bs n c).length<=c.length:=by unfold gB;rw[cE];exact kP _ _
def live(bs:List cD)(n t:Nat)(r:Nat->Nat)(hs:List Nat):List Nat:=hs.filter<|λh=>F4 bs n<|cls t r h
def l6(bs:List cD)(n t:Nat)(r:Nat->Nat)(hs:List Nat):List cP:=(live bs n t r hs).map<|λh=>L4 bs n<|cls t r h
theorem DI(bs:List cD)(n t:Nat)(r:Nat->Nat)(hs:List Nat)(h:Nat):live bs n t r (hs++[h])=if F4 bs n (cls t r h)=true then live bs n t r hs++[h]else live bs n t r hs:=by
 unfold live;rw[jq];split <;> rename_i h2 <;> simp[h2]
theorem ux(bs:List cD)(n t:Nat)(r:Nat->Nat)(hs:List Nat):(l6 bs n t r hs).length=(live bs n t r hs).length:=by unfold l6;rw[cE]
def gi(bs:List cD)(n t:Nat)(r:Nat->Nat)(h:Nat):Nat:=(live bs n t r<|(bT t r).takeWhile<|λx=>decide<|x≠h).length
theorem xN{l:List Nat}(hn:l.Nodup){k h:Nat}(hk:l[k]? =some h):l.takeWhile (λx=>decide<|x≠h)=l.take k:=by
 induction l generalizing k with
 |nil=>simp at hk
 |cons a l ih=>
  cases k with
  |zero=>simp at hk;subst hk;simp
  |succ k=>
   have hk:l[k]? =some h:=by simpa using hk
   have hne:a≠h:=λe=>(List.nodup_cons.1 hn).1 (by rw[e];exact eL hk);rw[List.takeWhile_cons,aC (by simpa using hne),List.take_succ_cons,ih (List.nodup_cons.1 hn).2 hk]
theorem rD(bs:List cD)(n t:Nat)(r:Nat->Nat)(hs:List Nat):(live bs n t r hs).length<=hs.length:=kP _ _
theorem L5{bs:List cD}{n t:Nat}{r:Nat->Nat}{h:Nat}(hh:h∈bT t r)(hne:F4 bs n (cls t r h)=true):gi bs n t r h<(live bs n t r<|bT t r).length/\(live bs n t r<|bT t r)[gi bs n t r h]? =some h:=by
 obtain⟨k,hk⟩:=dN hh;have hkl:=(aZ.1 hk).1;unfold gi;rw[xN (nH t r) hk];have e:bT t r=(bT t r).take k++h::(bT t r).drop (k+1):=by
  have h1:=(List.take_append_drop k<|bT t r).symm;rw[sW hkl,(aZ.1 hk).2]at h1;exact h1
 have e2:live bs n t r (bT t r)=live bs n t r ((bT t r).take k)++h::live bs n t r ((bT t r).drop<|k+1):=by
  conv=>lhs;rw[e]
  unfold live;rw[jq,List.filter_cons,aC hne]
 constructor
 ·rw[e2];simp
 ·rw[e2];simp
end
section
variable {N:Nat}
theorem Ah{l:List Nat}(h:l.Nodup){i j a:Nat}(hi:l[i]? =some a)(hj:l[j]? =some a):i=j:=
 (List.getElem_inj (h₀:=(aZ.1 hi).1) (h₁:=(aZ.1 hj).1) h).1 (by rw[(aZ.1 hi).2,(aZ.1 hj).2])
theorem qs{n i k:Nat}{r:Nat->Nat}:i∈cls n r k↔i<n/\r i=k:=by unfold cls;simp
theorem I6(n:Nat)(r:Nat->Nat)(k:Nat):(cls n r k).Nodup:=List.Nodup.sublist List.filter_sublist List.nodup_range
structure OD (bs:List cD) (n m:Nat) (r:Nat->Nat) (hs:List Nat) (ofP ofB:List Int):Prop where
 lp:ofP.length=n
 lb:ofB.length=m
 pc:∀i,i<n->r i∈hs->ofP[i]? =some ((gi bs n (n+m) r (r i):Nat):Int)
 bo:∀j,j<m->r (n+j)∈hs->ofB[j]? =some (if uw bs j=true then((gi bs n (n+m) r (r<|n+j):Nat):Int)else -1)
theorem F5{bs:List cD}{n m:Nat}{r:Nat->Nat}(hm:bs.length=m)(hn:n<=1073741824)(hm2:m<=1073741824){op ob:List Int}(hop:op.length=n)(hob:ob.length=m)
  {body:Nat->List cP×List Int×List Int->Option (List cP×List Int×List Int)}
  (hbody:body=(λ(k123:Nat)(s124:List cP×List Int×List Int)=>((idx (sC (n+m) r) (k123:Int)).bind λx455=>(my x455.length (λ(k458:Nat)(s459:List Int×List Int×List Int×List Int)=>((idx x455 (k458:Int)).bind λx556=>(bif decide (x556<(n:Int))then((idx s459.1 x556).bind λx580=>(app 8 s459.2.2.1 ([x556]:List Int)).bind λx582=>some (s459.1.set (Int.toNat x556) (s124.1.length:Int),s459.2.1,x582,s459.2.2.2))else((idx bs<|wrap .i64<|x556 -(n:Int)).bind λx584=>(bif x584.gw then((idx s459.2.1<|wrap .i64<|x556 -(n:Int)).bind λx594=>(app 8 s459.2.2.2 ([wrap .i64<|x556 -(n:Int)]:List Int)).bind λx596=>some (s459.2.1.set (Int.toNat<|wrap .i64<|x556 -(n:Int)) (s124.1.length:Int),x596))else((idx s459.2.1<|wrap .i64<|x556 -(n:Int)).bind λx598=>some (s459.2.1.set (Int.toNat<|wrap .i64<|x556 -(n:Int))<|-1,s459.2.2.2))).bind λs592=>some (s459.1,s592.1,s459.2.2.1,s592.2))).bind λs577=>some (s577.1,s577.2.1,s577.2.2.1,s577.2.2.2):Option (List Int×List Int×List Int×List Int))) (s124.2.1,s124.2.2,([]:List Int),([]:List Int))).bind λs459=>(bif decide (wrap .i64 ((s459.2.2.1.length:Int)+(s459.2.2.2.length:Int))>0)then((app 72 s124.1 [(⟨s459.2.2.1,s459.2.2.2,([]:List eE)⟩:cP)]).bind λx610=>some x610)else some s124.1).bind λs606=>some (s606,s459.1,s459.2.1):Option (List cP×List Int×List Int)))):
  Ok (my (sC (n+m) r).length body ([],op,ob)) (λst=>st.1=l6 bs n (n+m) r (bT (n+m) r)/\OD bs n m r (bT (n+m) r) st.2.1 st.2.2):=by
 subst hbody;have hsl:(sC (n+m) r).length=(bT (n+m) r).length:=by unfold sC;simp
 have hhl:=lZ (n+m) r;refine Ok.mono (RR (λ(k:Nat)(st:List cP×List Int×List Int)=>st.1=l6 bs n (n+m) r ((bT (n+m) r).take k)/\OD bs n m r ((bT (n+m) r).take k) st.2.1 st.2.2) (by omega) ⟨rfl,hop,hob,λi hi h=>by simp at h,λj hj h=>by simp at h⟩<|λk st hk hI=>?_) (λst h=>by rw[hsl,eM]at h;exact h);obtain⟨gs,ofP,ofB⟩:=st;obtain⟨e1,I⟩:=hI;dsimp only at e1 I ⊢;subst e1;rw[hsl]at hk;have hkx:(bT (n+m) r)[k]? =some (bT (n+m) r)[k]:=aQ hk;have hts:(bT (n+m) r).take (k+1)=(bT (n+m) r).take k++[(bT (n+m) r)[k]]:=eD hk;have hgk:gi bs n (n+m) r (bT (n+m) r)[k]=(l6 bs n (n+m) r<|(bT (n+m) r).take k).length:=by
  unfold gi;rw[xN (nH _ _) hkx,ux]
 generalize hh:(bT (n+m) r)[k]=h at *;have hsx:(sC (n+m) r)[k]? =some (ints<|cls (n+m) r h):=by unfold sC;rw[eR,hkx];rfl
 refine QU hsx ?_;have hcl:=Bp (n+m) r h;rw[gX];have hgl:(l6 bs n (n+m) r<|(bT (n+m) r).take k).length<=n+m:=by
  rw[ux];have:=rD bs n (n+m) r<|(bT (n+m) r).take k
  rw[cQ]at this;omega
 have hold:∀i∈cls (n+m) r h,∀i',r i'∈(bT (n+m) r).take k->i≠i':=λi hi i' hi' e=>by
  subst e;rw[(qs.1 hi).2]at hi';obtain⟨j,hj⟩:=dN hi';have hjk:j<k:=by have:=(aZ.1 hj).1;rw[cQ]at this;omega
  rw[List.getElem?_take_of_lt hjk]at hj;have:=Ah (nH (n+m) r) hj hkx;omega
 refine QJ (P:=λs'=>OD bs n m r ((bT (n+m) r).take (k+1)) s'.1 s'.2.1/\s'.2.2.1=ints (gP n (cls (n+m) r h))/\s'.2.2.2=ints (gB bs n (cls (n+m) r h))) (Ok.mono (RR
  (λ(t:Nat)(s':List Int×List Int×List Int×List Int)=>OD bs n m r ((bT (n+m) r).take k) s'.1 s'.2.1/\s'.2.2.1=ints (gP n ((cls (n+m) r h).take t))/\s'.2.2.2=ints (gB bs n ((cls (n+m) r h).take t))/\
   (∀i∈(cls (n+m) r h).take t,i<n->s'.1[i]? =some ((gi bs n (n+m) r h:Nat):Int))/\∀i∈(cls (n+m) r h).take t,¬i<n->s'.2.1[i - n]? =some (if uw bs (i - n)=true then((gi bs n (n+m) r h:Nat):Int)else -1)) (by omega)
   ⟨I,rfl,rfl,λi hi=>by simp at hi,λi hi=>by simp at hi⟩ (λt s' ht hI'=>?_)) ?_) ?_
 ·obtain⟨oP,oB,pp,bb⟩:=s';obtain⟨J,e2,e3,J1,J2⟩:=hI';dsimp only at J e2 e3 J1 J2 ⊢;subst e2;subst e3;have htx:(ints<|cls (n+m) r h)[t]? =some (((cls (n+m) r h)[t]:Nat):Int):=by unfold ints;rw[eR,aQ ht];rfl
  refine QU htx ?_;have htt:(cls (n+m) r h).take (t+1)=(cls (n+m) r h).take t++[(cls (n+m) r h)[t]]:=eD ht;have hcm:=cC ht;have hdist:∀i∈(cls (n+m) r h).take t,i≠(cls (n+m) r h)[t]:=λi hi e=>by
   obtain⟨j,hj⟩:=dN hi;have hjt:j<t:=by have:=(aZ.1 hj).1;rw[cQ]at this;omega
   rw[List.getElem?_take_of_lt hjt]at hj;have:=Ah (I6 (n+m) r h) hj (by rw[e];exact aQ ht);omega
  generalize (cls (n+m) r h)[t]=c at *;obtain⟨hc1,hc2⟩:=qs.1 hcm;have hgp:=Hf n<|(cls (n+m) r h).take t
  have hgb:=Hg bs n<|(cls (n+m) r h).take t
  rw[cQ]at hgp hgb
  by_cases hcn:c<n
  ·rw[bJ (by omega:((c:Nat):Int)<((n:Nat):Int)),aK];refine QJ (P:=λx=>x=(oP.set c ((gi bs n (n+m) r h:Nat):Int),oB,ints (gP n<|(cls (n+m) r h).take t)++[((c:Nat):Int)],ints<|gB bs n<|(cls (n+m) r h).take t)) ?_ ?_
   ·refine RE (by rw[J.lp];exact hcn)<|Rp (by rw[gX];simp;omega)<|QC ?_
    rw[cB,hgk]
   ·rintro _ rfl;refine QC ⟨⟨by simp[J.lp],J.lb,λi hi hr=>?_,J.bo⟩,?_,?_,λi hi hin=>?_,λi hi hin=>?_⟩
    ·dsimp only;rw[oQ (by rw[J.lp];exact hcn),aF<|λe=>hold c hcm i hr e.symm];exact J.pc i hi hr
    ·dsimp only;rw[htt,H8,aC hcn,mg];rfl
    ·dsimp only;rw[htt,H9,aC hcn]
    ·dsimp only;rw[oQ (by rw[J.lp];exact hcn)];split
     ·rfl
     ·rename_i hne;rw[htt]at hi
      rcases dI.1 hi with hi|hi
      ·exact J1 i hi hin
      ·exact absurd (by simpa using hi) hne
    ·rw[htt]at hi
     rcases dI.1 hi with hi|hi
     ·exact J2 i hi hin
     ·have:i=c:=by simpa using hi
      subst this;exact absurd hcn hin
  ·rw[bQ (by omega:¬((c:Nat):Int)<((n:Nat):Int)),aM];have hw:wrap .i64 (((c:Nat):Int) -((n:Nat):Int))=((c - n:Nat):Int):=by rw[fJ (by omega) (by omega)];omega
   have hcm2:c - n<bs.length:=by omega
   have hpl:uw bs (c - n)=bs[c - n].gw:=by unfold uw;rw[aQ hcm2];rfl
   rw[hw];refine QJ (P:=λx=>x=(oP,oB.set (c - n) (if uw bs (c - n)=true then((gi bs n (n+m) r h:Nat):Int)else -1),ints<|gP n<|(cls (n+m) r h).take t,ints<|gB bs n<|(cls (n+m) r h).take t++[c])) ?_ ?_
   ·refine RE hcm2 ?_;rw[H9,aF hcn,hpl]
    cases hp:bs[c - n].gw with
    |true=>
     rw[aK,aC rfl,aC rfl];refine QD (x:=(oB.set (c - n) ((gi bs n (n+m) r h:Nat):Int),ints<|gB bs n ((cls (n+m) r h).take t)++[c - n])) ?_<|QC rfl
     rw[lH _ _ (by rw[J.lb];omega),aB,j6 (by rw[gX];simp;omega),aB,cB,hgk,mg];rfl
    |false=>
     rw[aM,aF (by simp),aF (by simp)];refine QD (x:=(oB.set (c - n)<|-1,ints<|gB bs n<|(cls (n+m) r h).take t)) ?_<|QC rfl
     rw[lH _ _ (by rw[J.lb];omega),aB,cB]
   ·rintro _ rfl;refine QC ⟨⟨J.lp,by simp[J.lb],J.pc,λj hj hr=>?_⟩,?_,?_,λi hi hin=>?_,λi hi hin=>?_⟩
    ·dsimp only;rw[oQ (by rw[J.lb];omega),aF<|λe=>hold c hcm (n+j) hr (by omega)];exact J.bo j hj hr
    ·dsimp only;rw[htt,H8,aF hcn]
    ·dsimp only;rw[htt]
    ·rw[htt]at hi
     rcases dI.1 hi with hi|hi
     ·exact J1 i hi hin
     ·have:i=c:=by simpa using hi
      subst this;exact absurd hin hcn
    ·dsimp only;rw[oQ (by rw[J.lb];omega)];split
     ·rename_i e;rw[e]
     ·rename_i hne;rw[htt]at hi
      rcases dI.1 hi with hi|hi
      ·exact J2 i hi hin
      ·exact absurd (by have:i=c:=(by simpa using hi);rw[this]) hne
 ·rintro⟨oP,oB,pp,bb⟩⟨J,e2,e3,J1,J2⟩;dsimp only at J e2 e3 J1 J2 ⊢;rw[eM]at e2 e3 J1 J2;refine⟨⟨J.lp,J.lb,λi hi hr=>?_,λj hj hr=>?_⟩,e2,e3⟩
  ·rw[hts]at hr
   rcases dI.1 hr with hr|hr
   ·exact J.pc i hi hr
   ·have hr:r i=h:=by simpa using hr
    rw[hr];exact J1 i (qs.2 ⟨by omega,hr⟩) hi
  ·rw[hts]at hr
   rcases dI.1 hr with hr|hr
   ·exact J.bo j hj hr
   ·have hr:r (n+j)=h:=by simpa using hr
    rw[hr];have:=J2 (n+j) (qs.2 ⟨by omega,hr⟩) (by omega);rwa[Nat.add_sub_cancel_left]at this
 ·rintro⟨oP,oB,pp,bb⟩⟨J,e2,e3⟩;dsimp only at J e2 e3 ⊢;subst e2;subst e3;have hgp:=Hf n<|cls (n+m) r h
  have hgb:=Hg bs n<|cls (n+m) r h
  rw[gX,gX,wrap_add (by omega)];have hgs:l6 bs n (n+m) r ((bT (n+m) r).take<|k+1)=if F4 bs n (cls (n+m) r h)=true then l6 bs n (n+m) r ((bT (n+m) r).take k)++[L4 bs n<|cls (n+m) r h]else l6 bs n (n+m) r ((bT (n+m) r).take k):=by
   unfold l6;rw[hts,DI];split
   ·rw[dG];rfl
   ·rfl
  refine QJ (P:=λx=>x=l6 bs n (n+m) r ((bT (n+m) r).take<|k+1)) (Q8 (λhb=>?_)<|λhb=>QC ?_)<|λx e=>QC ⟨e,J⟩
  ·have hne:F4 bs n (cls (n+m) r h)=true:=bJ (by have:=of_decide_eq_true hb;omega);refine Rp (by simp;omega)<|QC ?_
   rw[hgs,aC hne];rfl
  ·have hne:¬F4 bs n (cls (n+m) r h)=true:=λh'=>by
    have h1:=of_decide_eq_true h';have h2:=of_decide_eq_false hb;omega
   rw[hgs,aF hne]
end
section
variable {N:Nat}
def eJ(n:Nat)(h:cL):Nat:=if h.cD=true then n+h.Number.toNat else h.Number.toNat
structure Ia (bs:List cD) (n m:Nat) (h:cL):Prop where
 num:∃k:Nat,h.Number=((k:Nat):Int)/\(h.cD=true->k<m/\uw bs k=true)/\(h.cD=false->k<n)
theorem q6{bs:List cD}{pcs:List aI}{l:eP}{h:cL}(hh:l5 bs pcs l=some h):Ia bs pcs.length bs.length h:=by
 unfold l5 at hh
 cases hf:bs.findIdx? (l4 l)with
 |some k=>
  rw[hf]at hh;injection hh with hh;subst hh
  obtain⟨hk,hp,_⟩:=List.findIdx?_eq_some_iff_getElem.1 hf;refine⟨k,rfl,λ_=>⟨hk,?_⟩,λh=>by cases h⟩;unfold l4 at hp;unfold uw;rw[aQ hk];rw[bY]at hp;exact hp.1
 |none=>
  rw[hf]at hh;dsimp only at hh;rw[sV]at hh;obtain⟨k,hk,rfl⟩:=hh;obtain⟨hk,_⟩:=List.findIdx?_eq_some_iff_getElem.1 hk;exact⟨k,rfl,λh=>(by cases h),λ_=>hk⟩
def Bb(bs:List cD)(pcs:List aI)(r:Nat->Nat)(l:eP):Option Nat:=(l5 bs pcs l).map λh=>gi bs pcs.length (pcs.length+bs.length) r<|r<|eJ pcs.length h
def I7(bs:List cD)(pcs:List aI)(r:Nat->Nat)(l:eP):Int:=match Bb bs pcs r l with|some g=>((g:Nat):Int)|none=> -1
def gF(gs:List cP)(lg:eP->Option Nat)(ls:List eP):List cP:=gs.mapIdx<|λg x=>{x with gH:=(ls.filter<|λl=>decide<|lg l=some g).map kq}
theorem jY{gs:List cP}{lg:eP->Option Nat}{ls:List eP}{g:Nat}:(gF gs lg ls)[g]? =(gs[g]?).map λx=>{x with gH:=(ls.filter<|λl=>decide<|lg l=some g).map kq}:=by
 unfold gF;rw[List.getElem?_mapIdx]
theorem zw(gs:List cP)(lg:eP->Option Nat)(ls:List eP):(gF gs lg ls).length=gs.length:=by unfold gF;rw[List.length_mapIdx]
theorem xO{gs:List cP}{lg:eP->Option Nat}{ls:List eP}{l:eP}(h:lg l=none):gF gs lg (ls++[l])=gF gs lg ls:=by
 apply List.ext_getElem?;intro g;rw[jY,jY];congr 2;funext x;rw[jq];simp[h]
theorem zx{gs:List cP}{lg:eP->Option Nat}{ls:List eP}{l:eP}{k:Nat}{x:cP}(h:lg l=some k)(hx:(gF gs lg ls)[k]? =some x):
  (gF gs lg ls).set k {x with gH:=x.gH++[kq l]}=gF gs lg (ls++[l]):=by
 apply List.ext_getElem?;intro g;have hk:=(aZ.1 hx).1;rw[fE]
 by_cases e:k=g
 ·subst e;rw[aC rfl,aC hk,jY];rw[jY,sV]at hx;obtain⟨y,hy,rfl⟩:=hx;rw[hy,jq];simp[h]
 ·rw[aF e,jY,jY];congr 2;funext x;rw[jq];have:¬(lg l=some g):=by rw[h];intro h';injection h' with h';exact e h'
  simp[this]
theorem Kh{bs:List cD}{n t:Nat}{r:Nat->Nat}{i:Nat}(hi:i<n)(ht:i<t):F4 bs n (cls t r<|r i)=true:=by
 unfold F4;rw[bP];have:i∈gP n (cls t r<|r i):=jo.2 ⟨qs.2 ⟨ht,rfl⟩,by simpa using hi⟩;have:=List.length_pos_of_mem this;omega
theorem Ki{bs:List cD}{n t:Nat}{r:Nat->Nat}{j:Nat}(hp:uw bs j=true)(ht:n+j<t):F4 bs n (cls t r<|r<|n+j)=true:=by
 unfold F4;rw[bP];have:j∈gB bs n (cls t r<|r<|n+j):=dD.2 ⟨n+j,jo.2 ⟨qs.2 ⟨ht,rfl⟩,by simp[hp]⟩,by omega⟩;have:=List.length_pos_of_mem this;omega
structure Hh (bs:List cD) (ls:List eP) (pcs:List aI) (r:Nat->Nat) (gs:List cP) (ofP ofB pW:List Int) (pX:List cL):Prop where
 conn:Es pcs.length bs.length (dO bs pcs) r
 gs:gs=gF (l6 bs pcs.length (pcs.length+bs.length) r<|bT (pcs.length+bs.length) r) (Bb bs pcs r) ls
 of:OD bs pcs.length bs.length r (bT (pcs.length+bs.length) r) ofP ofB
 pW:pW=ls.map (I7 bs pcs r)
 pX:pX=ls.map (λl=>(l5 bs pcs l).getD ⟨false,0⟩)
theorem Cx{bs:List cD}{pcs:List aI}(hp:pcs.length<=1073741824):∀l∈dO bs pcs,l.length<=1073741824/\∀x∈l,∃i:Nat,i<pcs.length/\x=((i:Nat):Int):=by
 intro l hl;unfold dO at hl;obtain⟨b,_,rfl⟩:=dD.1 hl;have:=w6 (il b) pcs pcs.length;refine⟨by rw[gX];omega,λx hx=>?_⟩;obtain⟨i,hi,rfl⟩:=qM.1 hx;exact⟨i,(I4.1 hi).1,rfl⟩
theorem Et{bs:List cD}{ls:List eP}{pcs:List aI}(hb:k8 bs)(hp:pcs.length<=1000000000)(hr:∀p∈pcs,p.gI.length<=1073741824)(hl:ls.length<=1073741824)(hN:4398046511104<=N):
  Ok (gM N bs ls pcs (dO bs pcs) [] [] [] []) (λx=>∃r,Hh bs ls pcs r x.1 x.2.1 x.2.2.1 x.2.2.2.1 x.2.2.2.2):=by
 have hbl:=hb.len;unfold gM;rw[wrap_add (by omega)];obtain⟨up0,u1,u2⟩:=FR (N:=N) (n:=pcs.length+bs.length) (by omega);refine QD u1 ?_;refine QJ (I5 (n:=pcs.length) (m:=bs.length) (by unfold dO;simp) (Cx (by omega)) (by omega) (by omega) u2 hN) ?_;rintro up1⟨r,v1,v2⟩;refine QD (qo 0 (by omega))<|QD (qo 0 (by omega)) ?_
 obtain⟨up2,w1,_⟩:=Lc (N:=N) v1 (by omega) (by omega);refine QD w1 ?_;refine QJ (F5 (bs:=bs) (n:=pcs.length) (m:=bs.length) (r:=r) rfl (by omega) (by omega) (op:=List.replicate pcs.length 0) (ob:=List.replicate bs.length 0) (by simp) (by simp) rfl) ?_;rintro⟨gs,ofP,ofB⟩⟨e1,I⟩;dsimp only at e1 I ⊢;subst e1;have hgl:(l6 bs pcs.length (pcs.length+bs.length) r<|bT (pcs.length+bs.length) r).length<=pcs.length+bs.length:=by
  rw[ux];have:=rD bs pcs.length (pcs.length+bs.length) r<|bT (pcs.length+bs.length) r
  have:=lZ (pcs.length+bs.length) r;omega
 refine QJ (RR (λ(k:Nat)(st:List cP×List Int×List Int×List Int×List cL)=>st=(gF (l6 bs pcs.length (pcs.length+bs.length) r<|bT (pcs.length+bs.length) r) (Bb bs pcs r)<|ls.take k,ofP,ofB,(ls.take k).map<|I7 bs pcs r,(ls.take k).map<|λl=>(l5 bs pcs l).getD ⟨false,0⟩)) (by omega) ?_<|λk st hk e=>?_) ?_
 ·congr 1;unfold gF;apply List.ext_getElem?;intro g;rw[List.getElem?_mapIdx];unfold l6;rw[eR]
  cases(live bs pcs.length (pcs.length+bs.length) r<|bT (pcs.length+bs.length) r)[g]? <;> rfl
 ·subst e;dsimp only;have hts:ls.take (k+1)=ls.take k++[ls[k]]:=eD hk;refine RE hk<|QD (Kg hb (by omega) hr _) ?_
  dsimp only;refine QJ (P:=λx=>x=(gF (l6 bs pcs.length (pcs.length+bs.length) r<|bT (pcs.length+bs.length) r) (Bb bs pcs r)<|ls.take k++[ls[k]],I7 bs pcs r ls[k])) ?_ ?_
  ·cases hh:l5 bs pcs ls[k]with
   |none=>
    refine QC ?_;have h1:Bb bs pcs r ls[k]=none:=by unfold Bb;rw[hh];rfl
    rw[xO h1];unfold I7;rw[h1]
   |some h=>
    have h1:Bb bs pcs r ls[k]=some (gi bs pcs.length (pcs.length+bs.length) r<|r<|eJ pcs.length h):=by unfold Bb;rw[hh];rfl
    have h2:I7 bs pcs r ls[k]=((gi bs pcs.length (pcs.length+bs.length) r (r<|eJ pcs.length h):Nat):Int):=by unfold I7;rw[h1]
    obtain⟨q,q1,q2,q3⟩:=(q6 hh).num;have hix:eJ pcs.length h<pcs.length+bs.length/\F4 bs pcs.length (cls (pcs.length+bs.length) r<|r<|eJ pcs.length h)=true/\iZ N ofP ofB h=some ((gi bs pcs.length (pcs.length+bs.length) r (r<|eJ pcs.length h):Nat):Int):=by
     unfold iZ eJ;rw[q1,cB]
     cases hbo:h.cD with
     |true=>
      obtain⟨q4,q5⟩:=q2 hbo;rw[aK,aC rfl];refine⟨by omega,Ki q5 (by omega),?_⟩;have:=I.bo q q4<|jR.2 ⟨by have:=v2.le (pcs.length+q) (by omega);omega,v2.rr _ (by omega)⟩
      rw[aC q5]at this;rw[dC this,aB]
     |false=>
      have q4:=q3 hbo;rw[aM,aF (by simp)];refine⟨by omega,Kh q4 (by omega),?_⟩;have:=I.pc q q4<|jR.2 ⟨by have:=v2.le q (by omega);omega,v2.rr _ (by omega)⟩
      rw[dC this,aB]
    obtain⟨i1,i2,i3⟩:=hix;have hgi:=L5 (r:=r) (t:=pcs.length+bs.length) (bs:=bs) (n:=pcs.length) (h:=r<|eJ pcs.length h) (jR.2 ⟨by have:=v2.le _ i1;omega,v2.rr _ i1⟩) i2;have hgx:gi bs pcs.length (pcs.length+bs.length) r (r<|eJ pcs.length h)<(gF (l6 bs pcs.length (pcs.length+bs.length) r<|bT (pcs.length+bs.length) r) (Bb bs pcs r)<|ls.take k).length:=by
     rw[zw,ux];exact hgi.1
    rw[h2];dsimp only[Option.getD,Option.isSome];rw[aK];refine QD i3 ?_;generalize gi bs pcs.length (pcs.length+bs.length) r (r<|eJ pcs.length h)=g at *;refine RE hgx<|QD (Af _) ?_
    have hpl:((gF (l6 bs pcs.length (pcs.length+bs.length) r<|bT (pcs.length+bs.length) r) (Bb bs pcs r)<|ls.take k)[g]).gH.length<=ls.length:=by
     have:=jY (gs:=l6 bs pcs.length (pcs.length+bs.length) r<|bT (pcs.length+bs.length) r) (lg:=Bb bs pcs r) (ls:=ls.take k) (g:=g);rw[aQ hgx]at this;have:=this.symm;rw[sV]at this;obtain⟨y,_,hy⟩:=this;rw[<-hy,cE];have:=kP (λl=>decide<|Bb bs pcs r l=some g)<|ls.take k
     rw[cQ]at this;omega
    refine Rp (by simp;omega)<|RE hgx<|QC ?_
    rw[cB];congr 1;exact zx h1<|aQ hgx
  ·rintro _ rfl;dsimp only;refine Rp (by simp;omega)<|Rp (by simp;omega)<|QC ?_
   rw[hts,dG,dG];rfl
 ·rintro st rfl;dsimp only;rw[eM];exact QC ⟨r,v2,rfl,I,rfl,rfl⟩
end
section
variable {N:Nat}
theorem Ai{p:aI}:∀{dA:List (List<|List aA)}{k:Nat},p∈aR k dA->∃(i:Nat)(ps:List (List aA))(q:List aA),dA[i]? =some ps/\q∈ps/\p= ⟨((k+i:Nat):Int),q,aS q⟩
 | [],k,h=>by cases h
 |ps::dA,k,h=>by
  rcases dI.1 h with h|h
  ·obtain⟨q,hq,rfl⟩:=dD.1 h;exact⟨0,ps,q,rfl,hq,rfl⟩
  ·obtain⟨i,ps',q,h1,h2,h3⟩:=Ai h;refine⟨i+1,ps',q,by simpa using h1,h2,?_⟩;rw[h3,show k+1+i=k+(i+1)by omega]
structure qt (a:jT):Prop where
 w5:0<a.aJ.length/\a.aJ.length<=16
 Qc:∀r∈a.aJ,kx r=0
 out:kx a.cM=0
 many:a.cM.length+(a.aJ.map List.length).sum<=2000
 zy:jG a=0
 F6:nK a=0
theorem qt.gb{a:jT}(h:qt a):k8 a.aL:=⟨(mN h.zy).1,λb hb=>⟨((mN h.zy).2 b hb).1,((mN h.zy).2 b hb).2.1⟩⟩
theorem qt.cs{a:jT}(h:qt a):∀r∈a.aJ,r.length<=2000/\∀x∈r,CY x:=λr hr=>Ct (wA.1<|h.Qc r hr).1
structure zz (a:jT) (lE:List (List aA)) (dA:List (List (List aA))) (p:aI) (i:Nat) (r:List aH) (s:List aA) (ps:List (List aA)) (u:Nat->Nat) (j k:Nat):Prop where
 Qz:a.aJ[i]? =some r
 lE:lE[i]? =some s
 dA:dA[i]? =some ps
 dr:va r (kz a.aL ((i:Nat):Int)) s
 pt:tg s u ps
 at_:ps[j]? =some p.Set
 head:(bT (aS s).length u)[j]? =some k
 set:uo (oF (aS s) (aS s).length u k) p.Set
 lim:yu (uk r++uk (kz a.aL ((i:Nat):Int))) (jX r++jX (kz a.aL ((i:Nat):Int))) (p.Set.map cH)
 OE:p.dL=((i:Nat):Int)
 OG:p.gI=aS p.Set
theorem Kj{a:jT}{lE:List (List aA)}{dA:List (List<|List aA)}(hg:qt a)(hD:yn a.aJ a.aL a.aJ.length lE dA){p:aI}(hp:p∈aR 0 dA):∃i r s ps u j k,zz a lE dA p i r s ps u j k:=by
 obtain⟨i,ps,q,h1,h2,rfl⟩:=Ai hp;have hil:i<a.aJ.length:=by have:=(aZ.1 h1).1;rw[hD.Ba]at this;exact this
 have hc:a.aJ[i]? =some a.aJ[i]:=aQ hil;have hd:lE[i]? =some (lE[i]'(by rw[hD.len];exact hil)):=aQ _;have hdr:=hD.dr i _ _ hil hc hd;obtain⟨u,hu⟩:=hD.pt i _ ps hil hd h1;obtain⟨sx,sy⟩:=hdr.small (hg.cs _<|cC hil).2<|λx hx=>(sE hg.gb _ x hx).1
 obtain⟨j,k,g1,g2,g3,g4⟩:=Cw hu hdr.can hdr.lim sx sy h2;exact⟨i,_,_,ps,u,j,k,hc,hd,h1,hdr,hu,g1,g2,g3,g4,by rw[iO],rfl⟩
theorem zz.FZ{a:jT}{lE:List (List aA)}{dA:List (List<|List aA)}(hg:qt a){p:aI}{i:Nat}{r:List aH}{s:List aA}{ps:List (List aA)}{u:Nat->Nat}{j k:Nat}(h:zz a lE dA p i r s ps u j k):
  p.Set.length<=5000/\(∀b∈p.Set,b.Xs.length<=5000)/\p.gI.length<=5000*5000:=by
 have h1:=(hg.cs r<|eL h.Qz).1;have h2:=Ag hg.gb ((i:Nat):Int);rw[h.OG];exact w4 (A:=5000) h.set.can h.lim (by rw[dB,mD,mD];omega) (by rw[dB,j7,j7];omega)
def zA(a0 a1 b0 b1:Int):Bool:=decide (b0<a1)&&decide (a0<b1)
def F7(a b:aH):Bool:=zA a.X0 a.X1 b.X0 b.X1&&zA a.Y0 a.Y1 b.Y0 b.Y1
theorem Cy{a0 a1 b0 b1:Int}(h1: -1000000<=a0/\a0<=1000000)(h2: -1000000<=a1/\a1<=1000000)(h3: -1000000<=b0/\b0<=1000000)(h4: -1000000<=b1/\b1<=1000000):∃n,mJ N a0 a1 b0 b1=some n/\0<=n/\(n=0↔zA a0 a1 b0 b1=true):=by
 unfold mJ zA;have e1:wrap .i64 (b0 - a1)=b0 - a1:=fJ (by omega) (by omega);have e2:wrap .i64 (a0 - b1)=a0 - b1:=fJ (by omega) (by omega);have e3:wrap .i64 (b0 - a1+1)=b0 - a1+1:=fJ (by omega) (by omega);have e4:wrap .i64 (a0 - b1+1)=a0 - b1+1:=fJ (by omega) (by omega);rw[e1,e2,e3,e4];refine⟨_,rfl,?_,?_⟩
 ·repeat' split
  all_goals omega
 ·rw[bY,bP,bP]
  repeat' split
  all_goals omega
theorem ML{a b:aH}(h1:fY a=true)(h2:fY b=true):∃n,tM N a b=some n/\(n=0↔F7 a b=true):=by
 have b1:=nJ h1;have b2:=nJ h2;obtain⟨n,n1,n2,n3⟩:=Cy (N:=N) (a0:=a.X0) (a1:=a.X1) (b0:=b.X0) (b1:=b.X1) (by omega) (by omega) (by omega) (by omega);obtain⟨m,m1,m2,m3⟩:=Cy (N:=N) (a0:=a.Y0) (a1:=a.Y1) (b0:=b.Y0) (b1:=b.Y1) (by omega) (by omega) (by omega) (by omega);unfold tM F7;rw[n1,aB,m1,aB];refine⟨_,rfl,?_⟩;rw[bY,<-n3,<-m3];split <;> omega
def sF(x y:cD):Bool:=(decide (x.cV<=y.To)&&decide (y.cV<=x.To))&&F7 (vM x) (vM y)
def sG(a:jT):Prop:=∃(i k:Nat)(x y:cD),k<i/\a.aL[i]? =some x/\a.aL[k]? =some y/\sF x y=true
noncomputable def xA(r:List aH):Option Int:=if kx r≠0 then some (kx r)else none
noncomputable def F8(a:jT):Int:=if 2000<a.cM.length+(a.aJ.map List.length).sum then 2 else if jG a≠0 then jG a else if nK a≠0 then nK a else if sG a then 12 else 0
noncomputable def Kk(a:jT):Int:=match a.aJ.findSome? xA with|some e=>e|none=>if kx a.cM≠0 then kx a.cM else F8 a
noncomputable def ly(a:jT):Int:=if a.aJ.length=0 then 9 else if 16<a.aJ.length then 2 else Kk a
def MY(lE:List (List aA))(dA:List (List<|List aA)):Prop:=(∀s∈lE,(aS s).length<=2000)/\(aR 0 dA).length<=2000
abbrev Cz:=List (List aH)×List aH×List cD×List eP×List (List aA)×List aI×List (List Int)×List cP×List Int×List Int×List Int×List cL
def L6(a:jT)(x:Option Cz×Int):Prop:=
 (ly a≠0/\x=(none,ly a))\/(ly a=0/\qt a/\¬sG a/\∃lE dA,yn a.aJ a.aL a.aJ.length lE dA/\
  ((¬MY lE dA/\x=(none,2))\/(MY lE dA/\∃r gs ofP ofB pW pX,Hh a.aL a.bN (aR 0 dA) r gs ofP ofB pW pX/\
   x=(some (a.aJ,a.cM,a.aL,a.bN,lE,aR 0 dA,dO a.aL (aR 0 dA),gs,ofP,ofB,pW,pX),0))))
structure uy (a:jT):Prop where
 cs:a.aJ.length<=1048576
 each:∀r∈a.aJ,r.length<=1048576
 out:a.cM.length<=1048576
 bs:a.aL.length<=1048576
 ls:a.bN.length<=1048576
 nm:Cu a
theorem F9{a:jT}(h:bk a<=1048576):uy a:=by
 rw[JX]at h;have h1:=zY a.aJ;have h2:=zY a.cM;have h3:=zY a.aL;have h4:=zY a.bN;refine⟨by omega,λr hr=>?_,by omega,by omega,by omega,λx hx=>?_⟩
 ·have:=GZ hr;have:=zY r;omega
 ·have:=GZ hx;rw[HW,JT,JT]at this;omega
theorem DJ{a:jT}(hs:uy a)(hN:4398046511104<=N):Ok (i5 N a) (L6 a):=by
 unfold i5;have pe:∀e:Int,e≠0->ly a=e->Ok (some ((none:Option Cz),e)) (L6 a):=λe he h=>QC<|.inl ⟨by rw[h];exact he,by rw[h]⟩
 have c1:=hs.cs;refine Q8 (λh=>?_)<|λh=>?_
 ·have:a.aJ.length=0:=by have:=beq_iff_eq.1 h;omega
  exact pe 9 (by omega) (by unfold ly;rw[aC this])
 have h0:¬a.aJ.length=0:=by rw[beq_eq_false_iff_ne]at h;omega
 refine Q8 (λh=>?_)<|λh=>?_
 ·have h1:16<a.aJ.length:=by have:=of_decide_eq_true h;omega
  exact pe 2 (by omega) (by unfold ly;rw[aF h0,aC h1])
 have h1:¬16<a.aJ.length:=by have:=of_decide_eq_false h;omega
 have pe1:ly a=Kk a:=by unfold ly;rw[aF h0,aF h1]
 have hso:=hs.out;have sumle:∀k,k<=a.aJ.length->((a.aJ.take k).map List.length).sum<=k*1048576:=by
  intro k
  induction k with
  |zero=>intro _;simp
  |succ k ih=>
   intro hk;have:=ih (by omega);have h2:=hs.each _<|cC (show k<a.aJ.length by omega)
   rw[eD (by omega),dG,List.sum_append];simp only[dW,List.map_nil,List.sum_cons,List.sum_nil];rw[Nat.add_mul];omega
 refine QJ (SM (Go:=λs:Int=>s=((a.cM.length+(a.aJ.map List.length).sum:Nat):Int)/\∀r∈a.aJ,kx r=0) (Rt:=λx:Option Cz×Int=>∃e,e≠0/\x=(none,e)/\a.aJ.findSome? xA=some e)
  (λ(k:Nat)(s:Int)=>s=((a.cM.length+((a.aJ.take k).map List.length).sum:Nat):Int)/\∀r∈a.aJ.take k,kx r=0) (by omega) ⟨by simp,λr hr=>by simp at hr⟩ (λk s hk hI=>?_) (λs hI=>by rw[eM]at hI;exact hI)) ?_
 ·obtain⟨e,hI⟩:=hI;subst e;have hkx:a.aJ[k]? =some a.aJ[k]:=aQ hk;have hts:a.aJ.take (k+1)=a.aJ.take k++[a.aJ[k]]:=eD hk;have he:=hs.each _<|cC hk
  refine QU hkx<|QD (wz (by omega) hN) ?_
  refine Q8 (λh=>RK ?_)<|λh=>Q4 ?_
  ·have h:kx a.aJ[k]≠0:=by simpa using h
   refine⟨_,h,rfl,?_⟩;rw[List.findSome?_eq_some_iff];refine⟨a.aJ.take k,a.aJ[k],a.aJ.drop<|k+1,?_,by unfold xA;rw[aC h],λr hr=>by unfold xA;rw[aF (by simpa using hI r hr)]⟩;rw[<-sW hk,List.take_append_drop]
  ·have h:kx a.aJ[k]=0:=by simpa using h
   have:=sumle k (by omega);have hk16:k*1048576<=16*1048576:=Nat.mul_le_mul_right _ (by omega);refine⟨?_,λr hr=>?_⟩
   ·rw[wrap_add (by omega),hts,dG,List.sum_append];simp only[dW,List.map_nil,List.sum_cons,List.sum_nil];congr 1;omega
   ·rw[hts]at hr
    rcases dI.1 hr with hr|hr
    ·exact hI r hr
    ·simp at hr;subst hr;exact h
 intro o ho;refine Ra ho ?_ ?_
 rotate_left
 ·rintro x⟨e,he,rfl,hf⟩;exact pe e he (by rw[pe1];unfold Kk;rw[hf])
 rintro s⟨rfl,hreg⟩;have OM:a.aJ.findSome? xA=none:=List.findSome?_eq_none_iff.2 λr hr=>by unfold xA;rw[aF (by simpa using hreg r hr)]
 have pe2:ly a=if kx a.cM≠0 then kx a.cM else F8 a:=by rw[pe1];unfold Kk;rw[OM]
 refine QD (wz (by omega) hN) ?_;refine Q8 (λh=>?_)<|λh=>?_
 ·have h:kx a.cM≠0:=by simpa using h
  exact pe _ h (by rw[pe2,aC h])
 have hout:kx a.cM=0:=by simpa using h
 have pe3:ly a=F8 a:=by rw[pe2,aF (by simpa using hout)]
 refine Q8 (λh=>?_)<|λh=>?_
 ·have h:2000<a.cM.length+(a.aJ.map List.length).sum:=by have:=of_decide_eq_true h;omega
  exact pe 2 (by omega) (by rw[pe3];unfold F8;rw[aC h])
 have hmany:¬2000<a.cM.length+(a.aJ.map List.length).sum:=by have:=of_decide_eq_false h;omega
 have hbs:=hs.bs;have hls:=hs.ls;refine QD (Dc (by omega) (by omega) (by omega)) ?_;refine Q8 (λh=>?_)<|λh=>?_
 ·have h:jG a≠0:=by simpa using h
  exact pe _ h (by rw[pe3];unfold F8;rw[aF hmany,aC h])
 have hbo:jG a=0:=by simpa using h
 refine QD (Dd (by omega) (by omega) hs.nm (by omega)) ?_;refine Q8 (λh=>?_)<|λh=>?_
 ·have h:nK a≠0:=by simpa using h
  exact pe _ h (by rw[pe3];unfold F8;rw[aF hmany,aF (by simpa using hbo),aC h])
 have hla:nK a=0:=by simpa using h
 have hg:qt a:=⟨by omega,hreg,hout,by omega,hbo,hla⟩;have pe4:ly a=if sG a then 12 else 0:=by rw[pe3];unfold F8;rw[aF hmany,aF (by simpa using hbo),aF (by simpa using hla)]
 refine QJ (SM (Go:=λ_:Unit=>¬sG a) (Rt:=λx:Option Cz×Int=>x=(none,12)/\sG a)
  (λ(k:Nat)(_:Unit)=>∀(i j:Nat)(x y:cD),i<k->j<i->a.aL[i]? =some x->a.aL[j]? =some y->¬sF x y=true) (by omega) (λi j x y h=>by omega) (λk s hk hI=>?_) (λs hI=>?_)) ?_
 ·have hkx:a.aL[k]? =some a.aL[k]:=aQ hk;refine QU hkx<|QD (r6 _ k (by omega)) ?_
  have hgk:=hg.gb.ok _<|cC hk
  refine QJ (SM (Go:=λ_:Unit=>∀(j:Nat)(y:cD),j<k->a.aL[j]? =some y->¬sF a.aL[k] y=true) (Rt:=λx:Option Cz×Int=>x=(none,12)/\sG a)
   (λ(t:Nat)(_:Unit)=>∀(j:Nat)(y:cD),j<t->a.aL[j]? =some y->¬sF a.aL[k] y=true) (by rw[cQ];omega) (λj y h=>by omega) (λt s ht hI2=>?_) (λs hI2 j y hj hy=>hI2 j y (by rw[cQ];omega) hy)) ?_
  ·have htk:t<k:=by rw[cQ]at ht;omega
   have htx:(a.aL.take k)[t]? =some a.aL[t]:=by rw[List.getElem?_take_of_lt htk];exact aQ (by omega)
   have hgt:=hg.gb.ok _<|cC (show t<a.aL.length by omega)
   refine QU htx ?_;refine QD (x:=sF a.aL[k] a.aL[t]) ?_ ?_
   ·unfold sF
    cases hc:(decide (a.aL[k].cV<=a.aL[t].To)&&decide (a.aL[t].cV<=a.aL[k].To))with
    |false=>rfl
    |true=>
     obtain⟨n,n1,n2⟩:=ML (N:=N) hgk.2 hgt.2;rw[aK,nI hgk.1,aB,nI hgt.1,aB,n1,aB,Bool.true_and];congr 1;rw[eT,beq_iff_eq];exact n2
   ·refine Q8 (λh=>RK ⟨rfl,k,t,_,_,htk,hkx,aQ (by omega),h⟩)<|λh=>Q4 λj y hj hy=>?_
    by_cases e:j<t
    ·exact hI2 j y e hy
    ·have:j=t:=by omega
     subst this;rw[aQ (by omega)]at hy;injection hy with hy
     rw[<-hy,h];simp
  ·intro o ho;refine Ra ho (λs hI2=>Q4 λi j x y hi hj hx hy=>?_)<|λx hx=>RK hx
   by_cases e:i<k
   ·exact hI i j x y e hj hx hy
   ·have:i=k:=by omega
    subst this;rw[hkx]at hx;injection hx with hx
    rw[<-hx];exact hI2 j y hj hy
 ·rintro⟨i,j,x,y,hj,hx,hy,hc⟩;exact hI i j x y (aZ.1 hx).1 hj hx hy hc
 intro o ho;refine Ra ho ?_ ?_
 rotate_left
 ·rintro x⟨rfl,hc⟩;exact pe 12 (by omega) (by rw[pe4,aC hc])
 intro _ hncl;have pe5:ly a=0:=by rw[pe4,aF hncl]
 refine QJ (He (N:=N) (by omega) hg.cs hg.gb hN) ?_;rintro⟨okk,lE,pcs⟩⟨dA,D,e1,e2⟩;dsimp only at D e1 e2 ⊢;subst e1;refine Q8 (λh=>QC<|.inr ⟨pe5,hg,hncl,lE,dA,D, .inl ⟨λhf=>?_,rfl⟩⟩)<|λh=>?_
 ·have:=e2.2 hf;rw[this]at h;cases h
 ·have hf:MY lE dA:=e2.1 (by cases okk <;> simp_all);have hpr:∀p∈aR 0 dA,p.gI.length<=1073741824:=λp hp=>by
   obtain⟨i,r,s,ps,u,j,k,hP⟩:=Kj hg D hp;have:=(hP.FZ hg).2.2;omega
  have hf2:=hf.2;refine QD (Kf hg.gb (by omega) hpr) ?_;refine QJ (Et (N:=N) hg.gb (by omega) hpr (by omega) hN) ?_;rintro⟨gs,ofP,ofB,pW,pX⟩⟨r,hC⟩;exact QC<|.inr ⟨pe5,hg,hncl,lE,dA,D, .inr ⟨hf,r,gs,ofP,ofB,pW,pX,hC,rfl⟩⟩
end
section
variable {N:Nat}
theorem Ib{w:Nat}{g:Nat->Nat}{a:Nat}:∀{ks:List Nat},ks.Nodup->a∈ks->(ks.map<|λk=>(if a=k then w else 0)+g k).sum=w+(ks.map g).sum
 | [],_,h=>by cases h
 |k::ks,hn,h=>by
  have hn':=List.nodup_cons.1 hn;simp only[dW,List.sum_cons]
  by_cases e:a=k
  ·subst e;rw[aC rfl];have:ks.map (λk=>(if a=k then w else 0)+g k)=ks.map g:=List.map_congr_left λx hx=>by
    rw[aF<|λe=>hn'.1 (by rw[e];exact hx),iO]
   rw[this];omega
  ·rw[aF e,Ib hn'.2 (by rcases dM.1 h with h|h;exact absurd h e;exact h)];omega
theorem Ga{α:Type}{ks:List Nat}(hn:ks.Nodup)(f w:α->Nat):∀{l:List α},(∀x∈l,f x∈ks)->(ks.map<|λk=>((l.filter<|λx=>decide<|f x=k).map w).sum).sum=(l.map w).sum
 | [],_=>by
  have:∀ks:List Nat,(ks.map<|λ_=>0).sum=0:=λks=>by
   induction ks with
   |nil=>rfl
   |cons k ks ih=>simp only[dW,List.sum_cons,ih]
  simpa using this ks
 |x::l,h=>by
  have ih:=Ga hn f w (l:=l) λy hy=>h y<|ir _ hy
  have:ks.map (λk=>(((x::l).filter<|λx=>decide<|f x=k).map w).sum)=ks.map (λk=>(if f x=k then w x else 0)+((l.filter<|λx=>decide<|f x=k).map w).sum):=List.map_congr_left λk _=>by
   rw[List.filter_cons]
   by_cases e:f x=k
   ·rw[aC (by simpa using e),aC e,dW,List.sum_cons]
   ·rw[aF (by simpa using e),aF e,iO]
  rw[this,Ib hn<|h x (by simp),ih,dW,List.sum_cons]
def Ic(s:List aA):jS:=match s with|b::_=>⟨b.Xs.headD 0,b.Y0⟩| []=>⟨0,0⟩
theorem zz.ne{a:jT}{lE:List (List aA)}{dA:List (List<|List aA)}{p:aI}{i:Nat}{r:List aH}{s:List aA}{ps:List (List aA)}{u:Nat->Nat}{j k:Nat}(h:zz a lE dA p i r s ps u j k):p.Set≠[]:=by
 intro e;have hh:=jR.1<|eL h.head
 have hx:(aS s)[k]? =some (aS s)[k]:=aQ hh.1;have hm:(aS s)[k]∈oF (aS s) (aS s).length u k:=mE.2 ⟨k,hh.1,hh.2,hx⟩;obtain⟨b,hb,q,hq,hr⟩:=rR<|eL hx
 have hbm:cH b∈s.map cH:=dD.2 ⟨b,hb,rfl⟩;have hq1:=G7 (h.dr.can.each _ hbm).2.2.1 q hq;have hb1:=(h.dr.can.each _ hbm).1;have hc:=h.set.cover q.1 b.Y0;rw[e]at hc;have:ue (oF (aS s) (aS s).length u k) q.1 b.Y0=true:=jy.2 ⟨_,hm,by rw[hr];exact⟨⟨Int.le_refl _,hq1⟩,Int.le_refl _,hb1⟩⟩;rw[this]at hc
 cases hc
structure mw (a:jT) (lE:List (List aA)) (dA:List (List (List aA))) (r:Nat->Nat) (gs:List cP) (ofP ofB pW:List Int) (pX:List cL):Prop where
 Aj:qt a
 QB:¬sG a
 dr:yn a.aJ a.aL a.aJ.length lE dA
 w5:MY lE dA
 L7:Hh a.aL a.bN (aR 0 dA) r gs ofP ofB pW pX
inductive MM (N:Nat) (a:jT):Prop
 |err (e:Int) (he:e≠0) (h:i5 N a=some (none,e))
 |ok {lE:List (List aA)} {dA:List (List (List aA))} {r:Nat->Nat} {gs:List cP} {ofP ofB pW:List Int} {pX:List cL} (b:mw a lE dA r gs ofP ofB pW pX)
  (h:i5 N a=some (some (a.aJ,a.cM,a.aL,a.bN,lE,aR 0 dA,dO a.aL<|aR 0 dA,gs,ofP,ofB,pW,pX),0))
theorem opened{a:jT}(hs:uy a)(hN:4398046511104<=N):MM N a:=by
 obtain⟨x,hx,hI⟩:=DJ (N:=N) hs hN
 rcases hI with⟨he,rfl⟩|⟨_,hg,hcl,lE,dA,D,⟨_,rfl⟩|⟨hf,r,gs,ofP,ofB,pW,pX,hC,rfl⟩⟩
 ·exact .err _ he hx
 ·exact .err 2 (by omega) hx
 ·exact .ok ⟨hg,hcl,D,hf,hC⟩ hx
end
section
variable {S R:Type}
theorem Rw{body:S->Option (Fl S R)}{N n:Nat}{s:S}(ι:S->Int)(Inv:Nat->S->Prop){Go:S->Prop}{Rt:R->Prop}
  (h1:∀k s,k<n->ι s=((k:Nat):Int)->Inv k s->Ok (body s) (KF (λs'=>ι s'=((k+1:Nat):Int)/\Inv (k+1) s') Go Rt))
  (h2:∀s,ι s=((n:Nat):Int)->Inv n s->Ok (body s) (KF (λ_=>False) Go Rt))
  {k0:Nat} (hk:k0<=n) (hi:ι s=((k0:Nat):Int)) (h0:Inv k0 s) (hn:n<N):Ok (Gk.iC body N s) (MJ Go Rt):=by
 refine RJ (λs=>∃k:Nat,k<=n/\ι s=((k:Nat):Int)/\Inv k s) (λs=>n -(ι s).toNat) ?_ ⟨k0,hk,hi,h0⟩ (by omega);rintro s⟨k,hk,e,hI⟩
 by_cases hlt:k<n
 ·refine(h1 k s hlt e hI).mono ?_;rintro(s'|s'|r)hp
  ·have hp1:ι s'=((k+1:Nat):Int):=hp.1;exact⟨⟨k+1,hlt,hp.1,hp.2⟩,by rw[e,hp1];simp only[cB];omega⟩
  ·exact hp
  ·exact hp
 ·have:k=n:=by omega
  subst this;refine(h2 s e hI).mono ?_;rintro(s'|s'|r)hp
  ·exact hp.elim
  ·exact hp
  ·exact hp
theorem j8{k n:Nat}(h:k<n):decide (((k:Nat):Int)<((n:Nat):Int))=true:=bJ (by omega)
theorem l8(n:Nat):decide (((n:Nat):Int)<((n:Nat):Int))=false:=bQ (by omega)
theorem wB{k n:Nat}(h:n<=k):decide (((k:Nat):Int)<((n:Nat):Int))=false:=bQ (by omega)
end
theorem rE{α:Type}{p:α->Bool}:∀{l:List α}{k:Nat},(∀(j:Nat)x,j<k->l[j]? =some x->p x=true)->(∀x,l[k]? =some x->p x=false)->l.takeWhile p=l.take k/\l.dropWhile p=l.drop k
 | [],k,_,_=>by simp
 |y::l,0,_,h2=>by
  have:=h2 y rfl;rw[List.takeWhile_cons,List.dropWhile_cons,this];simp
 |y::l,k+1,h1,h2=>by
  have h:=h1 0 y (by omega) rfl;obtain⟨e1,e2⟩:=rE (l:=l) (k:=k) (λj x hj hx=>h1 (j+1) x (by omega) hx)<|λx hx=>h2 x hx
  rw[List.takeWhile_cons,List.dropWhile_cons,h,aC rfl,aC rfl,e1,e2];simp
section
variable {N:Nat}
def rF(l:List Int)(c:Int):List Int:=if c∈l then l else l.takeWhile (λx=>decide<|x<c)++c::l.dropWhile (λx=>decide<|x<c)
theorem zB(l:List Int)(c:Int):(rF l c).length<=l.length+1:=by
 unfold rF;split
 ·omega
 ·have:(l.takeWhile<|λx=>decide<|x<c).length+(l.dropWhile<|λx=>decide<|x<c).length=l.length:=by rw[<-dB,List.takeWhile_append_dropWhile]
  rw[dB,cS];omega
theorem CA{l:List Int}{c x:Int}:x∈rF l c↔x∈l\/x=c:=by
 unfold rF;split
 ·rename_i h;exact⟨.inl,λh'=>h'.elim id λe=>e▸h⟩
 ·have:x∈l↔x∈l.takeWhile (λx=>decide<|x<c)\/x∈l.dropWhile (λx=>decide<|x<c):=by rw[<-dI,List.takeWhile_append_dropWhile]
  rw[dI,dM,this];constructor
  ·rintro(h|h|h)
   ·exact .inl<|.inl h
   ·exact .inr h
   ·exact .inl<|.inr h
  ·rintro((h|h)|h)
   ·exact .inl h
   ·exact .inr<|.inr h
   ·exact .inr<|.inl h
theorem Ie{l:List Int}(h:jW l)(c:Int):∀x∈l.dropWhile (λx=>decide<|x<c),c<=x:=by
 induction l with
 |nil=>intro x hx;cases hx
 |cons a l ih=>
  rw[List.dropWhile_cons]
  by_cases ha:a<c
  ·rw[aC (by simpa using ha)];exact ih h.tail
  ·rw[aF (by simpa using ha)];intro x hx
   rcases dM.1 hx with rfl|hx
   ·omega
   ·have:=h.head x hx;omega
theorem Le(l:List Int)(c:Int):∀x∈l.takeWhile (λx=>decide<|x<c),x<c:=by
 induction l with
 |nil=>intro x hx;cases hx
 |cons a l ih=>
  rw[List.takeWhile_cons]
  by_cases ha:a<c
  ·rw[aC (by simpa using ha)];intro x hx
   rcases dM.1 hx with rfl|hx
   ·exact ha
   ·exact ih x hx
  ·rw[aF (by simpa using ha)];intro x hx;cases hx
theorem uz{l:List Int}{c:Int}(h:jW l):jW (rF l c):=by
 unfold rF;split
 ·exact h
 ·rename_i hc;have hs:=h;rw[<-List.takeWhile_append_dropWhile (p:=λx=>decide<|x<c) (l:=l)]at hs;unfold jW at hs ⊢;rw[nM]at hs ⊢;refine⟨hs.1,oJ.2 ⟨λx hx=>?_,hs.2.1⟩,λx hx y hy=>?_⟩
  ·have h1:=Ie h c x hx;have h2:x≠c:=λe=>hc (by rw[<-e,<-List.takeWhile_append_dropWhile (p:=λx=>decide<|x<c) (l:=l)];exact List.mem_append_right _ hx);omega
  ·have h1:=Le l c x hx
   rcases dM.1 hy with rfl|hy
   ·exact h1
   ·have:=Ie h c y hy;omega
def kV(l:List Int):List Int:=l.foldl rF []
theorem vd:∀(cs l:List Int),jW l->jW (cs.foldl rF l)/\(∀x,x∈cs.foldl rF l↔x∈l\/x∈cs)/\(cs.foldl rF l).length<=l.length+cs.length
 | [],l,h=>⟨h,λx=>by simp,by simp⟩
 |c::cs,l,h=>by
  obtain⟨h1,h2,h3⟩:=vd cs (rF l c)<|uz h
  refine⟨h1,λx=>?_,?_⟩
  ·rw[List.foldl_cons,h2,CA,dM,or_assoc]
  ·rw[List.foldl_cons,cS];have:=zB l c;omega
theorem n0(l:List Int):jW (kV l):=(vd l [] j9).1
theorem Ak{l:List Int}{x:Int}:x∈kV l↔x∈l:=by
 have:=(vd l [] j9).2.1 x;unfold kV;rw[this];simp
theorem uA(l:List Int):(kV l).length<=l.length:=by
 have:=(vd l [] j9).2.2;unfold kV;simpa using this
theorem wC(l:List Int)(c d:Int):kV (l++[c,d])=rF (rF (kV l) c) d:=by unfold kV;rw[List.foldl_append];rfl
theorem Hi{a b:Nat}(h:a+b<=4611686018427387904):wrap .i64 (Int.tdiv (wrap .i64<|((a:Nat):Int)+((b:Nat):Int)) 2)=(((a+b) / 2:Nat):Int):=by
 rw[wrap_add h,Int.tdiv_eq_ediv_of_nonneg (by omega),fJ (by omega) (by omega)];omega
theorem w7{l:List Int}{c:Int}(h:jW l)(hl:l.length<=1099511627776)(hN:4398046511104<=N):fX N l c=some (rF l c):=by
 refine RD ?_;unfold fX
 refine QJ (RJ (Go:=λst:Int×Int=>∃a:Nat,st.1=((a:Nat):Int)/\a<=l.length/\(∀(j:Nat)x,j<a->l[j]? =some x->x<c)/\(∀(j:Nat)x,a<=j->l[j]? =some x->c<=x)) (Rt:=λ_=>True)
  (λst=>∃a b:Nat,st=(((a:Nat):Int),((b:Nat):Int))/\a<=b/\b<=l.length/\(∀(j:Nat)x,j<a->l[j]? =some x->x<c)/\(∀(j:Nat)x,b<=j->l[j]? =some x->c<=x))
  (λst=>(st.2 - st.1).toNat) ?_ ⟨0,l.length,rfl,by omega,bV _,λj x hj=>by omega,λj x hj hx=>by have:=(aZ.1 hx).1;omega⟩ (by simp only;omega)) ?_
 ·rintro st⟨a,b,rfl,hab,hb,h1,h2⟩;dsimp only
  by_cases hlt:a<b
  ·have hm:(a+b) / 2<l.length:=by omega
   have hx:l[(a+b) / 2]? =some l[(a+b) / 2]:=aQ hm;rw[j8 hlt,aK,Hi (by omega)];refine QU hx ?_
   by_cases hc:l[(a+b) / 2]<c
   ·rw[bJ hc,aK,aB];refine Q4 ⟨⟨(a+b) / 2+1,b,?_,by omega,hb,λj x hj hx'=>?_,h2⟩,?_⟩
    ·rw[bL (by omega)]
    ·by_cases e:j=(a+b) / 2
     ·subst e;rw[hx]at hx';injection hx' with hx';omega
     ·have:=h.lt (i:=j) (j:=(a+b) / 2) (by omega) hx' hx;omega
    ·rw[bL (by omega)];simp only;omega
   ·rw[bQ hc,aM,aB];refine Q4 ⟨⟨a,(a+b) / 2,rfl,by omega,by omega,h1,λj x hj hx'=>?_⟩,by simp only;omega⟩
    by_cases e:j=(a+b) / 2
    ·subst e;rw[hx]at hx';injection hx' with hx';omega
    ·have:=h.lt (i:=(a+b) / 2) (j:=j) (by omega) hx hx';omega
  ·rw[wB (by omega),aM];exact Q9 ⟨a,rfl,by omega,h1,λj x hj hx=>h2 j x (by omega) hx⟩
 intro o ho;refine Ra ho ?_<|λr hr=>r.elim
 rintro⟨st1,st2⟩⟨a,ha,hle,h1,h2⟩;dsimp only at ha ⊢;subst ha;have hin:l[a]? =some c->rF l c=l:=λhx=>by unfold rF;rw[aC<|eL hx]
 have hout:l[a]? ≠some c->rF l c=l.take a++c::l.drop a:=λhx=>by
  have hc:c∉l:=λhc=>by
   obtain⟨j,hj⟩:=dN hc
   by_cases h3:j<a
   ·have:=h1 j c h3 hj;omega
   ·by_cases e:j=a
    ·subst e;exact hx hj
    ·have h5:a<l.length:=by have:=(aZ.1 hj).1;omega
     have h6:l[a]? =some l[a]:=aQ h5;have h7:=h.lt (i:=a) (j:=j) (by omega) h6 hj;have h8:=h2 a _ (bV _) h6;omega
  unfold rF;rw[aF hc];obtain⟨e1,e2⟩:=rE (p:=λx=>decide<|x<c) (l:=l) (k:=a) (λj x hj hx'=>bJ<|h1 j x hj hx')<|λx hx'=>bQ (by have:=h2 a x (bV _) hx';omega)
  rw[e1,e2]
 have hrest:l[a]? ≠some c->Ok ((sY l 0 ((a:Nat):Int)).bind λx49=>(app 8 ([]:List Int) x49).bind λx51=>(app 8 x51 ([c]:List Int)).bind λx54=>(sY l ((a:Nat):Int) ((l.length:Nat):Int)).bind λx56=>(app 8 x54 x56).bind λx58=>some x58) (λr=>r=rF l c):=λhx=>by
  have htk:(l.take a).length=a:=by rw[cQ];omega
  refine QD (r6 l a hle)<|Rp (by simp only[List.length_nil];omega)<|Rp (by rw[List.nil_append];simp only[cS,List.length_nil];omega)<|QD (pL l a hle)<|Rp ?_<|QC ?_
  ·rw[List.nil_append,dB,gC];simp only[cS,List.length_nil];omega
  ·rw[hout hx];simp
 by_cases hlt:a<l.length
 ·have hx:l[a]? =some l[a]:=aQ hlt;rw[j8 hlt,aK,dC hx,aB,aB];refine Q8 (λhb=>QC ?_)<|λhb=>hrest ?_
  ·rw[beq_iff_eq]at hb;rw[hin (by rw[hx,hb])]
  ·rw[beq_eq_false_iff_ne]at hb;rw[hx];intro e;injection e with e;exact hb e
 ·rw[wB (by omega),aM,aB,aM];exact hrest (by rw[List.getElem?_eq_none (by omega)];intro e;cases e)
theorem Gb(l m:List aH):jX (l++m)=jX l++jX m:=List.flatMap_append
theorem CB{l:List aH}(hl:l.length<=268435456)(hN:4398046511104<=N):iF N l=some (kV<|jX l):=by
 refine RD ?_;unfold iF;refine QJ (Rw (n:=l.length) (λs=>s.2) (λk s=>s.1=kV (jX<|l.take k)) (Go:=λs=>s.1=kV (jX l)) (Rt:=λ_=>False) ?_ ?_ (dJ _) rfl rfl (by omega)) ?_
 ·rintro k⟨out,i⟩hk e hI;dsimp only at e hI ⊢;subst e;subst hI;rw[j8 hk,aK];have hx:l[k]? =some l[k]:=aQ hk;have h1:=uA<|jX<|l.take k
  rw[j7,cQ]at h1;have h2:=zB (kV<|jX<|l.take k) l[k].Y0;refine QU hx<|QU hx<|QD (w7 (n0 _) (by omega) hN)<|QD (w7 (uz<|n0 _) (by omega) hN)<|Q4 ⟨bL (by omega),?_⟩
  rw[eD hk,Gb];exact(wC _ _ _).symm
 ·rintro⟨out,i⟩e hI;dsimp only at e hI ⊢;subst e;rw[l8,aM];exact Q9 (by rw[eM]at hI;exact hI)
 intro o ho;exact Ra ho (λs hs=>QC hs)<|λr hr=>hr.elim
def sp(s:aG):Int×Int:=(s.from_,s.to)
theorem Kl:∀{l m:List aG},l.map sp=m.map sp->l=m
 | [],[],_=>rfl
 | [],_::_,h=>by cases h
 |_::_,[],h=>by cases h
 |⟨a,b⟩::l,⟨c,d⟩::m,h=>by
  rw[dW,dW]at h;injection h with h1 h2
  unfold sp at h1;injection h1 with h3 h4
  simp only at h3 h4;rw[h3,h4,Kl h2]
theorem ve(a b:Int):(if b<a then b else a)=min a b:=by split <;> omega
theorem vf(a b:Int):(if a<b then b else a)=max a b:=by split <;> omega
theorem DK{l:List aG}{s:aG}(hl:l.length<=268435456)(hN:4398046511104<=N):Ok (ja N l s) (λr=>r.map sp=mq (l.map sp) (sp s)):=by
 unfold ja;have hget:∀(j:Nat)(x:Int×Int),(l.map sp)[j]? =some x->∃y,l[j]? =some y/\x=sp y:=λj x h=>by
  rw[eR]at h
  cases hy:l[j]? with
  |none=>rw[hy]at h;cases h
  |some y=>rw[hy]at h;injection h with h;exact⟨y,rfl,h.symm⟩
 refine QJ (RJ (Go:=λst:List aG×Int=>∃k:Nat,st=(l.take k,((k:Nat):Int))/\k<=l.length/\(∀(j:Nat)x,j<k->l[j]? =some x->x.to<s.from_)/\(∀x,l[k]? =some x->¬x.to<s.from_)) (Rt:=λ_=>False)
  (λst=>∃k:Nat,st=(l.take k,((k:Nat):Int))/\k<=l.length/\∀(j:Nat)x,j<k->l[j]? =some x->x.to<s.from_) (λst=>l.length - st.2.toNat) ?_ ⟨0,by simp,by omega,λj x hj=>by omega⟩ (by simp;omega)) ?_
 ·rintro st⟨k,rfl,hk,hI⟩;dsimp only
  by_cases hlt:k<l.length
  ·have hx:l[k]? =some l[k]:=aQ hlt;rw[j8 hlt,aK,dC hx,aB,aB];refine Q8 (λhb=>?_)<|λhb=>?_
   ·have hb:=of_decide_eq_true hb;refine QD rfl<|Rp ?_<|Q4 ⟨⟨k+1,?_,hlt,?_⟩,?_⟩
    ·rw[cQ];simp only[cS,List.length_nil];omega
    ·rw[bL (by omega),eD hlt]
    ·intro j x hj hx'
     by_cases e:j=k
     ·subst e;rw[hx]at hx';injection hx' with hx';rw[<-hx'];exact hb
     ·exact hI j x (by omega) hx'
    ·rw[bL (by omega)];simp only[cB];omega
   ·have hb:=of_decide_eq_false hb;exact Q9 ⟨k,rfl,hk,hI,λx hx'=>by rw[hx]at hx';injection hx' with hx';rw[<-hx'];exact hb⟩
  ·rw[wB (by omega),aM,aB,aM];exact Q9 ⟨k,rfl,hk,hI,λx hx'=>by have:=(aZ.1 hx').1;omega⟩
 intro o ho;refine Ra ho ?_<|λr hr=>hr.elim
 rintro st⟨k,rfl,hk,hI,hE⟩;dsimp only
 obtain⟨e1,e2⟩:=rE (p:=λa:Int×Int=>decide (a.2<(sp s).1)) (l:=l.map sp) (k:=k) (λj x hj hx=>by
  obtain⟨y,hy,rfl⟩:=hget j x hx
  exact bJ (hI j y hj hy)) (λx hx=>by
  obtain⟨y,hy,rfl⟩:=hget k x hx
  exact bQ (hE y hy))
 refine QJ (RJ (Go:=λst:aG×Int=>∃i:Nat,st.2=((i:Nat):Int)/\i<=l.length/\kX (sp s) ((l.drop k).map sp)=(sp st.1,(l.drop i).map sp)) (Rt:=λ_=>False)
  (λst=>∃i:Nat,st.2=((i:Nat):Int)/\i<=l.length/\kX (sp s) ((l.drop k).map sp)=kX (sp st.1) ((l.drop i).map sp)) (λst=>l.length - st.2.toNat) ?_ ⟨k,rfl,hk,rfl⟩ (by simp only[cB];omega)) ?_
 ·rintro⟨s',i'⟩⟨i,e,hi,hm⟩;dsimp only at e hm ⊢;subst e
  by_cases hlt:i<l.length
  ·have hx:l[i]? =some l[i]:=aQ hlt;have hd:(l.drop i).map sp=sp l[i]::(l.drop<|i+1).map sp:=by rw[sW hlt,dW]
   rw[j8 hlt,aK,dC hx,aB,aB];refine Q8 (λhb=>?_)<|λhb=>?_
   ·have hb:=of_decide_eq_true hb;refine QD rfl<|QD rfl<|Q4 ⟨⟨i+1,bL (by omega),hlt,?_⟩,?_⟩
    ·rw[hm,hd]
     conv=>lhs;unfold kX
     rw[aC (show(sp l[i]).1<=(sp s').2 from hb),ve,vf];rfl
    ·dsimp only;rw[bL (by omega)];simp only[cB];omega
   ·have hb:=of_decide_eq_false hb;refine Q9 ⟨i,rfl,hi,?_⟩;rw[hm,hd]
    conv=>lhs;unfold kX
    rw[aF (show ¬(sp l[i]).1<=(sp s').2 from hb)]
  ·rw[wB (by omega),aM,aB,aM];refine Q9 ⟨i,rfl,hi,?_⟩;rw[hm,List.drop_eq_nil_of_le (by omega)];rfl
 intro o ho;refine Ra ho ?_<|λr hr=>hr.elim
 rintro⟨s',i'⟩⟨i,e,hi,hm⟩;dsimp only at e hm ⊢;subst e;refine Rp ?_<|QD (pL l i hi)<|Rp ?_<|QC ?_
 ·rw[cQ];simp only[cS,List.length_nil];omega
 ·rw[dB,cQ,gC];simp only[cS,List.length_nil];omega
 ·unfold mq;rw[e1,e2,<-List.map_take,<-List.map_drop,hm];simp
theorem CC:∀(l:List (Int×Int))(s:Int×Int),(kX s l).2.length<=l.length
 | [],s=>bV _
 |a::l,s=>by
  unfold kX;split
  ·have:=CC l (min s.1 a.1,max s.2 a.2);rw[cS];omega
  ·exact bV _
theorem AN(l:List (Int×Int))(s:Int×Int):(mq l s).length<=l.length+1:=by
 unfold mq;have h1:=CC (l.dropWhile λa=>decide<|a.2<s.1) s;have h2:(l.takeWhile<|λx=>decide<|x.2<s.1).length+(l.dropWhile<|λx=>decide<|x.2<s.1).length=l.length:=by rw[<-dB,List.takeWhile_append_dropWhile]
 rw[dB,cS];omega
def ki(y:Int)(out:List (Int×Int))(r:aH):List (Int×Int):=if r.Y0<=y/\y<r.Y1 then mq out (r.X0,r.X1)else out
def lz(l:List aH)(y:Int):List (Int×Int):=l.foldl (ki y) []
theorem I8(l:List aH)(r:aH)(y:Int):lz (l++[r]) y=ki y (lz l y) r:=by unfold lz;rw[List.foldl_append];rfl
theorem AO(y:Int):∀(l:List aH)(out:List (Int×Int)),(l.foldl (ki y) out).length<=out.length+l.length
 | [],out=>by simp
 |r::l,out=>by
  rw[List.foldl_cons,cS];have h1:=AO y l<|ki y out r
  have h2:(ki y out r).length<=out.length+1:=by
   unfold ki;split
   ·exact AN _ _
   ·omega
  omega
theorem sH(l:List aH)(y:Int):(lz l y).length<=l.length:=by
 have:=AO y l [];unfold lz;simpa using this
theorem zC(y:Int):∀(l:List aH)(out:List (Int×Int)),(∀r∈l,r.X0<r.X1)->jW (dT out)->jW (dT<|l.foldl (ki y) out)/\∀x,jP (l.foldl (ki y) out) x=(jP out x||ue l x y)
 | [],out,_,h=>⟨h,λx=>by simp[ue]⟩
 |r::l,out,hr,h=>by
  have h0:=hr r (by simp);rw[List.foldl_cons];have hst:jW (dT<|ki y out r)/\∀x,jP (ki y out r) x=(jP out x||((decide (r.X0<=x)&&decide (x<r.X1))&&(decide (r.Y0<=y)&&decide (y<r.Y1)))):=by
   unfold ki
   by_cases hy:r.Y0<=y/\y<r.Y1
   ·rw[aC hy];obtain⟨j1,j2⟩:=zk (l:=out) (s:=(r.X0,r.X1)) h h0;refine⟨j1,λx=>?_⟩;rw[j2,bJ hy.1,bJ hy.2,Bool.or_comm];simp
   ·rw[aF hy];refine⟨h,λx=>?_⟩;have:(decide (r.Y0<=y)&&decide (y<r.Y1))=false:=by rw[Bool.and_eq_false_iff,decide_eq_false_iff_not,decide_eq_false_iff_not];omega
    rw[this];simp
  obtain⟨m1,m2⟩:=zC y l (ki y out r) (λr' hr'=>hr r'<|ir _ hr') hst.1;refine⟨m1,λx=>?_⟩;rw[m2,hst.2,Bool.or_assoc];rfl
theorem uB{l:List aH}(h:∀r∈l,r.X0<r.X1)(y:Int):jW (dT<|lz l y)/\∀x,jP (lz l y) x=ue l x y:=by
 obtain⟨h1,h2⟩:=zC y l [] h j9;exact⟨h1,λx=>by rw[show jP (lz l y) x=_ from h2 x,show jP [] x=false from rfl,Bool.false_or]⟩
theorem xP{y y':Int}:∀(l:List aH)(out:List (Int×Int)),(∀r∈l,(r.Y0<=y/\y<r.Y1)↔(r.Y0<=y'/\y'<r.Y1))->l.foldl (ki y) out=l.foldl (ki y') out
 | [],out,_=>rfl
 |r::l,out,h=>by
  rw[List.foldl_cons,List.foldl_cons,xP l _<|λr' hr'=>h r'<|ir _ hr'];congr 1;unfold ki;have:=h r (by simp)
  by_cases h1:r.Y0<=y/\y<r.Y1
  ·rw[aC h1,aC<|this.1 h1]
  ·rw[aF h1,aF<|λh2=>h1<|this.2 h2]
theorem Hj{l:List aH}{y y':Int}(h:∀r∈l,(r.Y0<=y/\y<r.Y1)↔(r.Y0<=y'/\y'<r.Y1)):lz l y=lz l y':=xP l [] h
theorem Km{l:List aH}{y:Int}(h:∀r∈l,¬(r.Y0<=y/\y<r.Y1)):lz l y= []:=by
 have:∀(l:List aH)(out:List (Int×Int)),(∀r∈l,¬(r.Y0<=y/\y<r.Y1))->l.foldl (ki y) out=out:=by
  intro l
  induction l with
  |nil=>intro out _;rfl
  |cons r l ih=>
   intro out h;rw[List.foldl_cons,ih _<|λr' hr'=>h r'<|ir _ hr'];unfold ki;rw[aF<|h r (by simp)]
 exact this l [] h
theorem Eu{l:List aH}{y:Int}(hl:l.length<=134217728)(hN:4398046511104<=N):Ok (iA N l y) (λr=>r.map sp=lz l y):=by
 unfold iA;refine QJ (Rw (n:=l.length) (λs=>s.2) (λk s=>s.1.map sp=lz (l.take k) y) (Go:=λs=>s.1.map sp=lz l y) (Rt:=λ_=>False) ?_ ?_ (dJ _) rfl rfl (by omega)) ?_
 ·rintro k⟨out,i⟩hk e hI;dsimp only at e hI ⊢;subst e;rw[j8 hk,aK];have hx:l[k]? =some l[k]:=aQ hk;have hlen:out.length<=l.length:=by
   have h1:=sH (l.take k) y;rw[<-hI,cE,cQ]at h1;omega
  rw[dC hx,aB];have hst:lz (l.take<|k+1) y=ki y (lz (l.take k) y) l[k]:=by rw[eD hk,I8]
  have hno:¬(l[k].Y0<=y/\y<l[k].Y1)->Ok ((some out).bind λs141=>some (Fl.nx (s141,wrap .i64<|((k:Nat):Int)+1):Fl (List aG×Int) Empty)) (KF (λs'=>s'.2=((k+1:Nat):Int)/\s'.1.map sp=lz (l.take<|k+1) y) (λs=>s.1.map sp=lz l y)<|λ_=>False):=λhy=>by
   rw[aB];refine Q4 ⟨bL (by omega),?_⟩;rw[hst];unfold ki;rw[aF hy];exact hI
  by_cases h1:l[k].Y0<=y
  ·rw[bJ h1,aK,aB,aB]
   by_cases h2:y<l[k].Y1
   ·rw[bJ h2,aK];refine QJ (P:=λr:List aG=>r.map sp=lz (l.take<|k+1) y) (QD rfl<|QD rfl<|QJ (DK (by omega) hN)<|λr hr=>QC ?_)<|λr hr=>Q4 ⟨bL (by omega),hr⟩
    rw[hr,hI,hst];unfold ki;rw[aC ⟨h1,h2⟩];rfl
   ·rw[bQ h2,aM];exact hno<|λh=>h2 h.2
  ·rw[bQ h1,aM,aB,aM];exact hno<|λh=>h1 h.1
 ·rintro⟨out,i⟩e hI;dsimp only at e hI ⊢;subst e;rw[l8,aM];exact Q9 (by rw[eM]at hI;exact hI)
 intro o ho;exact Ra ho (λs hs=>QC hs)<|λr hr=>hr.elim
theorem Al{l:List aG}{x:Int}(hl:l.length<=1099511627776)(hN:4398046511104<=N):gO N l x=some (jP (l.map sp) x):=by
 refine RD ?_;unfold gO;have hm:∀b:Bool,(jP (l.map sp) x=b↔(l.any λs=>decide (s.from_<=x)&&decide (x<s.to))=b):=λb=>by unfold jP;rw[List.any_map];rfl
 refine QJ (Rw (n:=l.length) (λs=>s) (λk s=>∀(j:Nat)y,j<k->l[j]? =some y->¬(y.from_<=x/\x<y.to)) (Go:=λs=>jP (l.map sp) x=false) (Rt:=λr=>r=jP (l.map sp) x) ?_ ?_ (dJ _) rfl (λj y hj=>by omega) (by omega)) ?_
 ·rintro k i hk e hI;subst e;rw[j8 hk,aK];have hx:l[k]? =some l[k]:=aQ hk;rw[dC hx,aB]
  have hno:¬(l[k].from_<=x/\x<l[k].to)->Ok (some (Fl.nx (wrap .i64 (((k:Nat):Int)+1)):Fl Int Bool)) (KF (λs'=>s'=((k+1:Nat):Int)/\∀(j:Nat)y,j<k+1->l[j]? =some y->¬(y.from_<=x/\x<y.to)) (λs=>jP (l.map sp) x=false) (λr=>r=jP (l.map sp) x)):=λhy=>Q4 ⟨bL (by omega),λj y hj hjy=>by
   by_cases e:j=k
   ·subst e;rw[hx]at hjy;injection hjy with hjy;rw[<-hjy];exact hy
   ·exact hI j y (by omega) hjy⟩
  by_cases h1:l[k].from_<=x
  ·rw[bJ h1,aK,aB,aB]
   by_cases h2:x<l[k].to
   ·rw[bJ h2,aK];refine RK ?_;symm;rw[hm,kR];exact⟨l[k],cC hk,by rw[bJ h1,bJ h2];rfl⟩
   ·rw[bQ h2,aM];exact hno<|λh=>h2 h.2
  ·rw[bQ h1,aM,aB,aM];exact hno<|λh=>h1 h.1
 ·rintro i e hI;subst e;rw[l8,aM];refine Q9 ?_;rw[hm,List.any_eq_false];intro y hy;obtain⟨j,hj⟩:=dN hy;have:=hI j y (aZ.1 hj).1 hj;rw[jr,Bool.and_eq_false_iff,decide_eq_false_iff_not,decide_eq_false_iff_not];omega
 intro o ho;exact Ra ho (λs hs=>QC hs.symm)<|λr hr=>QC hr
end
section
variable {α:Type}[DecidableEq α]{N:Nat}
def L8(N:Nat)(p0 p1:List α):Option Bool:=
 bif(p0.length:Int) != (p1.length:Int)then some false else((iC (λ(s32:Int)=>(bif decide (s32<(p0.length:Int))then((idx p0 s32).bind λx45=>(idx p1 s32).bind λx48=>bif(!(decide<|x45=x48))then some (.rt false)else some (.nx<|wrap .i64<|s32+1))else(some<|.br s32):Option (Fl Int Bool))) N 0).bind λo51=>o51.cs (λ(s32:Int)=>some true)<|λr=>some r)
theorem Gc{l m:List α}(hl:l.length<=1099511627776)(hN:4398046511104<=N):L8 N l m=some (decide<|l=m):=by
 refine RD ?_;unfold L8
 by_cases he:l.length=m.length
 ·rw[show(((l.length:Nat):Int) != ((m.length:Nat):Int))=false by rw[he];simp,aM];refine QJ (Rw (n:=l.length) (λs=>s) (λk s=>∀j,j<k->l[j]? =m[j]?) (Go:=λs=>l=m) (Rt:=λr=>r=false/\l≠m) ?_ ?_ (dJ _) rfl (λj hj=>by omega) (by omega)) ?_
  ·rintro k i hk e hI;subst e;have hx:l[k]? =some l[k]:=aQ hk;have hy:m[k]? =some (m[k]'(by omega)):=aQ _;rw[j8 hk,aK];refine QU hx<|QU hy<|Q8 (λhb=>RK ⟨rfl,λe=>?_⟩)<|λhb=>Q4 ⟨bL (by omega),λj hj=>?_⟩
   ·have h1:some l[k]=some (m[k]'(by omega)):=hx.symm.trans<|(by rw[e]:l[k]? =m[k]?).trans hy
    injection h1 with h1
    rw[h1]at hb;simp at hb
   ·by_cases e:j=k
    ·subst e;rw[hx,hy];simpa using hb
    ·exact hI j (by omega)
  ·rintro i e hI;subst e;rw[l8,aM];refine Q9<|List.ext_getElem? λj=>?_
   by_cases hj:j<l.length
   ·exact hI j hj
   ·rw[List.getElem?_eq_none (by omega),List.getElem?_eq_none (by omega)]
  intro o ho;exact Ra ho (λs hs=>QC (bJ hs).symm)<|λr hr=>QC (by rw[hr.1,bQ hr.2])
 ·rw[show(((l.length:Nat):Int) != ((m.length:Nat):Int))=true by rw[bne_iff_ne];omega,aK];exact QC (bQ λh=>he (by rw[h])).symm
end
section
variable {N:Nat}
theorem Ev{l m:List aH}(hl:l.length<=1099511627776)(hN:4398046511104<=N):ke N l m=some (decide<|l=m):=Gc hl hN
theorem Ew{l m:List aG}(hl:l.length<=1099511627776)(hN:4398046511104<=N):kd N l m=some (decide<|l=m):=Gc hl hN
def tI(b:aN):Bd:=⟨b.from_,b.to,dT<|b.jB.map sp⟩
theorem I9{l:List (Int×Int)}:dT l= []↔l= []:=by
 cases l with
 |nil=>exact⟨λ_=>rfl,λ_=>rfl⟩
 |cons s l=>exact⟨λh=>(by cases h),λh=>(by cases h)⟩
theorem Ja{l m:List aG}:dT (l.map sp)=dT (m.map sp)↔l=m:=⟨λh=>Kl<|DC h,λh=>by rw[h]⟩
theorem Hk{l:List aN}{b:aN}(hlt:b.from_<b.to)(hl:l.length<=1073741824)(hs:∀c∈l,c.jB.length<=1099511627776)(hN:4398046511104<=N):
  Ok (gx N l b) (λr=>r.map tI=kg (l.map tI) (tI b)):=by
 unfold gx kg
 by_cases h0:b.jB= []
 ·rw[show(((b.jB.length:Nat):Int)==0)=true by rw[h0];rfl,aK,aC<|.inl (by unfold tI;rw[h0];rfl)];exact QC rfl
 ·rw[show(((b.jB.length:Nat):Int)==0)=false by rw[beq_eq_false_iff_ne];intro h;exact h0<|List.eq_nil_of_length_eq_zero (by omega),aM];have hne:¬((tI b).xs= []\/(tI b).y1<=(tI b).y0):=by
   rintro(h|h)
   ·have h:=I9.1 h;exact h0<|List.map_eq_nil_iff.1 h
   ·have h:b.to<=b.from_:=h;omega
  rw[aF hne]
  rcases List.eq_nil_or_concat l with rfl|⟨A,c,hA⟩
  ·rw[show decide (((([]:List aN).length:Nat):Int)>0)=false by decide,aM,aB,aM];exact Rp (by simp)<|QC rfl
  ·rw[List.concat_eq_append]at hA;subst hA;have hlen:(A++[c]).length=A.length+1:=by simp
   have hwp:wrap .i64 ((((A++[c]).length:Nat):Int) - 1)=((A.length:Nat):Int):=by rw[Cc (by omega) (by omega),hlen];rfl
   have hlast:(A++[c])[A.length]? =some c:=by simp
   rw[hwp,bJ (by omega),aK,dC hlast,aB,aB,Ew (by have:=hs c (by simp);omega) hN,aB,aB,cB];have hl2:((A++[c]).map tI).getLast? =some (tI c):=by simp
   have hd2:((A++[c]).map tI).dropLast=A.map tI:=by simp
   rw[hl2,hd2];dsimp only
   by_cases h1:c.to=b.from_/\c.jB=b.jB
   ·rw[aC (show(tI c).y1=(tI b).y0/\(tI c).xs=(tI b).xs from⟨h1.1,by unfold tI;rw[h1.2]⟩),show(c.to==b.from_)=true by rw[h1.1];simp,aK,bJ h1.2,aB,aK];refine QC ?_;rw[List.set_append_right _ _<|bV _,Nat.sub_self];simp[tI]
   ·rw[aF (show ¬((tI c).y1=(tI b).y0/\(tI c).xs=(tI b).xs)from λh=>h1 ⟨h.1,Ja.1 h.2⟩)];have e2:(bif c.to==b.from_ then some (decide<|c.jB=b.jB)else some false)=some false:=by
     by_cases h2:c.to=b.from_
     ·rw[show(c.to==b.from_)=true by rw[h2];simp,aK,bQ<|λh=>h1 ⟨h2,h⟩]
     ·rw[show(c.to==b.from_)=false by simpa using h2,aM]
    rw[e2,aB,aM];exact Rp (by rw[hlen];simp;omega)<|QC (by simp)
theorem Kn{s:List Bd}{b c:Bd}(h:c∈kg s b):c.xs=b.xs\/∃d∈s,c.xs=d.xs:=by
 unfold kg at h;split at h
 ·exact .inr ⟨c,h,rfl⟩
 ·split at h
  ·rename_i d hd;split at h
   ·rcases dI.1 h with h|h
    ·exact .inr ⟨c,List.dropLast_subset _ h,rfl⟩
    ·simp at h;exact .inr ⟨d,List.mem_of_getLast? hd,by rw[h]⟩
   ·rcases dI.1 h with h|h
    ·exact .inr ⟨c,h,rfl⟩
    ·simp at h;exact .inl (by rw[h])
  ·simp at h;exact .inl (by rw[h])
theorem rG{f:Int->List Int}{B:Nat}(hf:∀y,(f y).length<=B):∀(ss:List (Int×Int))(out:List Bd),(∀c∈out,c.xs.length<=B)->(∀c∈mV f ss out,c.xs.length<=B)/\(mV f ss out).length<=out.length+ss.length
 | [],out,h=>⟨h,by simp[mV]⟩
 |s::ss,out,h=>by
  obtain⟨h1,h2⟩:=rG hf ss (kg out ⟨s.1,s.2,f s.1⟩) (λc hc=>by
   rcases Kn hc with h3|⟨d,hd,h3⟩
   ·rw[h3];exact hf _
   ·rw[h3];exact h d hd)
  refine⟨h1,?_⟩;have:=IV out ⟨s.1,s.2,f s.1⟩;show(mV f ss<|kg out ⟨s.1,s.2,f s.1⟩).length<=_;rw[cS];omega
theorem nL:∀(ys:List Int),(kO ys).length=ys.length - 1
 | []=>rfl
 | [_]=>rfl
 |a::b::l=>by
  show(kO<|b::l).length+1=_;rw[nL<|b::l];simp
theorem CD:∀(ys:List Int)(k:Nat)(h:k+1<ys.length),(kO ys)[k]? =some (ys[k],ys[k+1])
 | [],k,h=>by simp at h
 | [_],k,h=>by simp at h
 |a::b::l,0,h=>rfl
 |a::b::l,k+1,h=>by
  have:=CD (b::l) k (by simp at h ⊢;omega);show(kO<|b::l)[k]? =_;rw[this];rfl
theorem Gd(f:Int->List Int)(ss:List (Int×Int))(s:Int×Int)(out:List Bd):mV f (ss++[s]) out=kg (mV f ss out) ⟨s.1,s.2,f s.1⟩:=by unfold mV;rw[List.foldl_append];rfl
theorem CE{ys:List Int}(hy:jW ys){f:Int->List Int}{B:Nat}(hf:∀y,(f y).length<=B)(hB:B<=1099511627776)(hys:ys.length<=1073741824){out:List aN}{k:Nat}(h1:1<=k)(hk:k<ys.length)
  (hI:out.map tI=mV f ((kO ys).take<|k - 1) []) {r:List aG} (hr:dT (r.map sp)=f (ys[k - 1]'(by omega))) (hN:4398046511104<=N):
  Ok (gx N out ⟨ys[k - 1]'(by omega),ys[k],r⟩) (λo=>o.map tI=mV f ((kO ys).take k) []):=by
 have hlt:ys[k - 1]'(by omega)<ys[k]:=mi.1 hy (k - 1) k (by omega) hk (by omega);obtain⟨s1,s2⟩:=rG hf ((kO ys).take<|k - 1) [] (λc hc=>by cases hc);have hol:out.length<=ys.length:=by
  have:(out.map tI).length<=ys.length:=by
   rw[hI];have h3:=nL ys;rw[cQ]at s2;simp only[List.length_nil]at s2;omega
  rwa[cE]at this
 refine(Hk hlt (by omega) (λc hc=>?_) hN).mono λo ho=>?_
 ·have h3:(tI c).xs.length<=B:=s1 _ (by rw[<-hI];exact dD.2 ⟨c,hc,rfl⟩);have h4:(tI c).xs.length=2*c.jB.length:=by unfold tI;rw[kC,cE]
  omega
 ·have hg:=CD ys (k - 1) (by omega);have hts:(kO ys).take k=(kO ys).take (k - 1)++[(ys[k - 1]'(by omega),ys[k])]:=by
   have hl:k - 1<(kO ys).length:=by rw[nL];omega
   have e:=eD hl;rw[show k - 1+1=k by omega]at e;rw[e];congr 1;rw[aQ hl]at hg;injection hg with hg
   rw[hg];simp only[show k - 1+1=k by omega]
  rw[ho,hI,hts,Gd];congr 1;unfold tI;simp only[hr]
def q7(b:aN):List aH:=b.jB.map λs=>⟨s.from_,b.from_,s.to,b.to⟩
def mx(l:List aN):List aH:=l.flatMap q7
theorem Ge:∀(l:List (Int×Int)),Ce (dT l)=l
 | []=>rfl
 |s::l=>by rw[jQ];show(s.1,s.2)::Ce (dT l)=_;rw[Ge l]
theorem Am:∀{l:List aN}{s:List aA},l.map tI=s.map cH->mx l=aS s
 | [],[],_=>rfl
 | [],_::_,h=>by cases h
 |_::_,[],h=>by cases h
 |b::l,c::s,h=>by
  rw[dW,dW]at h;injection h with h1 h2
  have e:=Am h2;show q7 b++mx l=nF c++aS s;rw[e];congr 1;unfold tI cH at h1;injection h1 with g1 g2 g3
  unfold q7 nF;rw[<-g3,Ge,g1,g2,List.map_map];rfl
theorem Gf(l:List aN)(b:aN):mx (l++[b])=mx l++q7 b:=by unfold mx;rw[List.flatMap_append];simp
theorem Ig{l:List aN}(hl:l.length<=1099511627776)(hs:∀b∈l,b.jB.length<=1099511627776)(hr:(mx l).length<=1099511627776)(hN:4398046511104<=N):jJ N l=some (mx l):=by
 refine RD ?_;unfold jJ;refine QJ (Rw (n:=l.length) (λs=>s.2) (λk s=>s.1=mx (l.take k)) (Go:=λs=>s.1=mx l) (Rt:=λ_=>False) ?_ ?_ (dJ _) rfl rfl (by omega)) ?_
 ·rintro k⟨out,i⟩hk e hI;dsimp only at e hI ⊢;subst e;subst hI;rw[j8 hk,aK];have hx:l[k]? =some l[k]:=aQ hk;have hsl:=hs _<|cC hk
  have hts:mx (l.take<|k+1)=mx (l.take k)++q7 l[k]:=by rw[eD hk,Gf]
  have hlen:(mx<|l.take k).length+l[k].jB.length<=(mx l).length:=by
   have h1:(mx l).length=(mx<|l.take<|k+1).length+(mx<|l.drop<|k+1).length:=by
    rw[<-dB];unfold mx;rw[<-List.flatMap_append,List.take_append_drop]
   have h2:(q7 l[k]).length=l[k].jB.length:=by unfold q7;rw[cE]
   rw[hts,dB,h2]at h1;omega
  refine QJ (Rw (n:=l[k].jB.length) (λs=>s.2) (λj s=>s.1=mx (l.take k)++(q7 l[k]).take j) (Go:=λs=>s.1=mx (l.take<|k+1)) (Rt:=λ_=>False) ?_ ?_ (dJ _) rfl (by simp) (by omega)) ?_
  ·rintro j⟨o2,i2⟩hj e hI;dsimp only at e hI ⊢;subst e;subst hI;have hy:l[k].jB[j]? =some l[k].jB[j]:=aQ hj;have hjr:j<(q7 l[k]).length:=by unfold q7;rw[cE];exact hj
   refine QU hx ?_;rw[j8 hj,aK];refine QU hx<|QU hy<|QU hx<|QU hx<|QU hy<|QU hx<|Rp ?_<|Q4 ⟨bL (by omega),?_⟩
   ·rw[dB,cQ];simp only[cS,List.length_nil];omega
   ·dsimp only;rw[ku];congr 1;rw[eD hjr];congr 1;simp[q7]
  ·rintro⟨o2,i2⟩e hI;dsimp only at e hI ⊢;subst e;subst hI;refine QU hx ?_;rw[l8,aM];refine Q9 ?_;dsimp only;rw[hts];congr 1;exact mh (by unfold q7;rw[cE];omega)
  intro o ho;exact Ra ho (λs hs=>Q4 ⟨bL (by omega),hs⟩)<|λr hr=>hr.elim
 ·rintro⟨out,i⟩e hI;dsimp only at e hI ⊢;subst e;rw[l8,aM];exact Q9 (by rw[eM]at hI;exact hI)
 intro o ho;exact Ra ho (λs hs=>QC hs)<|λr hr=>hr.elim
theorem An{l:List aH}{ys:List Int}(hm:∀r∈l,r.Y0∈ys/\r.Y1∈ys){s:Int×Int}{y:Int}(hs:s∈kO ys)(hy:jW ys)(h1:s.1<=y)(h2:y<s.2):lz l y=lz l s.1:=Hj λr hr=>by
 obtain⟨m1,m2⟩:=hm r hr;obtain⟨_,_,_,h⟩:=rQ hy s hs
 rcases h _ m1 with h3|h3 <;> rcases h _ m2 with h4|h4 <;> constructor <;> intro h5 <;> omega
theorem Ex{l:List aH}{ys:List Int}(hm:∀r∈l,r.Y0∈ys/\r.Y1∈ys){y:Int}(h:(∀c∈ys,y<c)\/(∀c∈ys,c<=y)):lz l y= []:=Km λr hr hc=>by
 obtain⟨m1,m2⟩:=hm r hr
 rcases h with h|h
 ·have:=h _ m1;omega
 ·have:=h _ m2;omega
theorem Ey{l:List aH}:∀r∈l,r.Y0∈kV (jX l)/\r.Y1∈kV (jX l):=λr hr=>⟨Ak.2<|lY.2 ⟨r,hr, .inl rfl⟩,Ak.2<|lY.2 ⟨r,hr, .inr rfl⟩⟩
theorem Ko(l:List aH):(kV<|jX l).length<=2*l.length:=by
 have:=uA<|jX l
 rwa[j7]at this
theorem vg{l:List aH}{s:List aA}(hc:fM (s.map cH))(hcov:∀x y,vL (s.map cH) x y=ue l x y)(hl:l.length<=10000000)(hok:∀r∈l,r.X0<r.X1)(hr:(aS s).length<=1099511627776)(hN:4398046511104<=N):
  fU N l=some (aS s):=by
 refine RD ?_;unfold fU;refine QD (CB (by omega) hN) ?_;have hyl:=Ko l;have hyi:=n0<|jX l
 have hf:∀y,jW (dT<|lz l y)/\(dT<|lz l y).length % 2=0:=λy=>⟨(uB hok y).1,by rw[kC];omega⟩;have hfl:∀y,(dT<|lz l y).length<=20000000:=λy=>by rw[kC];have:=sH l y;omega
 obtain⟨b1,b2⟩:=AJ (f:=λy=>dT<|lz l y) hf hyi (λt ht y h1 h2=>by(try dsimp only);rw[An Ey ht hyi h1 h2]) (λy h=>by(try dsimp only);rw[Ex Ey h];rfl);have hsame:mV (λy=>dT<|lz l y) (kO<|kV<|jX l) []=s.map cH:=u5 b1 hc λx y=>by
  rw[hcov];unfold vL;rw[b2,uh (hf y).1,(uB hok y).2]
 have hmy:= @Ey l;generalize kV (jX l)=ys at *;refine QJ (Rw (n:=max 1 ys.length) (λs=>s.2) (λk st=>1<=k/\st.1.map tI=mV (λy=>dT<|lz l y) ((kO ys).take<|k - 1) []) (Go:=λst=>st.1.map tI=s.map cH) (Rt:=λ_=>False) ?_ ?_ (k0:=1) (by omega) rfl ⟨bV _,rfl⟩ (by omega)) ?_
 ·rintro k⟨out,i⟩hk e⟨hk1,hI⟩;dsimp only at e hI ⊢;subst e;have hk2:k<ys.length:=by omega
  rw[j8 hk2,aK,iH hk1 (by omega)];refine RE (by omega)<|RE hk2<|RE (by omega)<|QJ (Eu (by omega) hN) λr hr=>QJ (CE hyi (f:=λy=>dT<|lz l y) hfl (by omega) (by omega) hk1 hk2 hI (by(try dsimp only);rw[hr]) hN) λo ho=>Q4 ⟨bL (by omega),by omega,?_⟩
  rw[yv];exact ho
 ·rintro⟨out,i⟩e⟨hk1,hI⟩;dsimp only at e hI ⊢;subst e;rw[wB (by omega),aM];refine Q9 ?_;rw[mh (by rw[nL];omega),hsame]at hI;exact hI
 intro o ho;refine Ra ho (λst hs=>?_)<|λr hr=>hr.elim
 have e:=Am hs;obtain⟨s1,s2⟩:=rG (f:=λy=>dT<|lz l y) hfl (kO ys) [] (λc hc=>by cases hc);refine QD (Ig (l:=st.1) ?_ ?_ (by rw[e];exact hr) hN)<|QC e
 ·have:(st.1.map tI).length<=ys.length:=by rw[hs,<-hsame];have:=nL ys;simp only[List.length_nil]at s2;omega
  rw[cE]at this;omega
 ·intro b hb;have h3:=s1 (tI b) (by rw[hsame,<-hs];exact dD.2 ⟨b,hb,rfl⟩);have h4:(tI b).xs.length=2*b.jB.length:=by unfold tI;rw[kC,cE]
  omega
def sI(w:Int)(p q:Bool):Bool:=((((w==1)&&(p||q))||(((w==2)&&p)&&q))||(((w==3)&&p)&&(!q)))
theorem Kp(w:Int):sI w false false=false:=by unfold sI;simp
theorem AP(gT:Bool->Bool->Bool)(a b ss:List (Int×Int))(s:Int×Int)(out:List (Int×Int)):mU gT a b (ss++[s]) out=if gT (jP a s.1) (jP b s.1)=true then mq (mU gT a b ss out) s else mU gT a b ss out:=by unfold mU;rw[List.foldl_append];rfl
theorem yp(gT:Bool->Bool->Bool)(a b:List (Int×Int)):∀(ss out:List (Int×Int)),(mU gT a b ss out).length<=out.length+ss.length
 | [],out=>by simp[mU]
 |s::ss,out=>by
  have h1:=yp gT a b ss (if gT (jP a s.1) (jP b s.1)=true then mq out s else out);have h2:(if gT (jP a s.1) (jP b s.1)=true then mq out s else out).length<=out.length+1:=by
   split
   ·exact AN _ _
   ·omega
  show(mU gT a b ss (if gT (jP a s.1) (jP b s.1)=true then mq out s else out)).length<=_;rw[cS];omega
def AQ(a b:List (Int×Int)):List Int:=kV<|dT a++dT b
theorem DL(a b:List (Int×Int)):(AQ a b).length<=2*a.length+2*b.length:=by
 have:=uA<|dT a++dT b
 rw[dB,kC,kC]at this;exact this
theorem Kq{a b:List aG}{w:Int}(ha:a.length<=10000000)(hb:b.length<=10000000)(hN:4398046511104<=N):
  Ok (ko N a b w) (λr=>r.map sp=mU (sI w) (a.map sp) (b.map sp) (kO<|AQ (a.map sp)<|b.map sp) []):=by
 unfold ko;have hfl:∀(l:List aG),(kV<|dT<|l.map sp).length<=2*l.length:=λl=>by
  have:=uA<|dT<|l.map sp
  rwa[kC,cE]at this
 refine QJ (Rw (n:=a.length) (λs=>s.2) (λk s=>s.1=kV (dT<|(a.take k).map sp)) (Go:=λs=>s.1=kV (dT<|a.map sp)) (Rt:=λ_=>False) ?_ ?_ (dJ _) rfl rfl (by omega)) ?_
 ·rintro k⟨out,i⟩hk e hI;dsimp only at e hI ⊢;subst e;subst hI;rw[j8 hk,aK];have hx:a[k]? =some a[k]:=aQ hk;have h1:=hfl<|a.take k
  rw[cQ]at h1;have h2:=zB (kV<|dT<|(a.take k).map sp) a[k].from_;refine QU hx<|QU hx<|QD (w7 (n0 _) (by omega) hN)<|QD (w7 (uz<|n0 _) (by omega) hN)<|Q4 ⟨bL (by omega),?_⟩
  rw[eD hk,dG,u6];exact(wC _ _ _).symm
 ·rintro⟨out,i⟩e hI;dsimp only at e hI ⊢;subst e;rw[l8,aM];exact Q9 (by rw[eM]at hI;exact hI)
 intro o ho;refine Ra ho ?_<|λr hr=>hr.elim
 rintro⟨xa,ia⟩hxa;dsimp only at hxa ⊢;subst hxa;refine QJ (Rw (n:=b.length) (λs=>s.2) (λk s=>s.1=kV (dT (a.map sp)++dT ((b.take k).map sp))) (Go:=λs=>s.1=AQ (a.map sp) (b.map sp)) (Rt:=λ_=>False) ?_ ?_ (dJ _) rfl (by simp[dT]) (by omega)) ?_
 ·rintro k⟨out,i⟩hk e hI;dsimp only at e hI ⊢;subst e;subst hI;rw[j8 hk,aK];have hx:b[k]? =some b[k]:=aQ hk;have h1:=uA<|dT (a.map sp)++dT ((b.take k).map sp)
  rw[dB,kC,kC,cE,cE,cQ]at h1;have h2:=zB (kV<|dT (a.map sp)++dT ((b.take k).map sp)) b[k].from_;refine QU hx<|QU hx<|QD (w7 (n0 _) (by omega) hN)<|QD (w7 (uz<|n0 _) (by omega) hN)<|Q4 ⟨bL (by omega),?_⟩
  rw[eD hk,dG,u6,<-ku];exact(wC _ _ _).symm
 ·rintro⟨out,i⟩e hI;dsimp only at e hI ⊢;subst e;rw[l8,aM];exact Q9 (by rw[eM]at hI;exact hI)
 intro o ho;refine Ra ho ?_<|λr hr=>hr.elim
 rintro⟨xs,ix⟩hxs;dsimp only at hxs ⊢;have hxl:=DL (a.map sp)<|b.map sp
 rw[<-hxs,cE,cE]at hxl;rw[<-hxs];clear hxs;refine QJ (Rw (n:=max 1 xs.length) (λs=>s.2) (λk st=>1<=k/\st.1.map sp=mU (sI w) (a.map sp) (b.map sp) ((kO xs).take<|k - 1) []) (Go:=λst=>st.1.map sp=mU (sI w) (a.map sp) (b.map sp) (kO xs) []) (Rt:=λ_=>False) ?_ ?_ (k0:=1) (by omega) rfl ⟨bV _,rfl⟩ (by omega)) ?_
 ·rintro k⟨out,i⟩hk e⟨hk1,hI⟩;dsimp only at e hI ⊢;subst e;have hk2:k<xs.length:=by omega
  rw[j8 hk2,aK,iH hk1 (by omega)];have hx:xs[k - 1]? =some (xs[k - 1]'(by omega)):=aQ _;have hy:xs[k]? =some xs[k]:=aQ hk2;have hg:=CD xs (k - 1) (by omega);have hts:(kO xs).take k=(kO xs).take (k - 1)++[(xs[k - 1]'(by omega),xs[k])]:=by
   have hl:k - 1<(kO xs).length:=by rw[nL];omega
   have e:=eD hl;rw[show k - 1+1=k by omega]at e;rw[e];congr 1;rw[aQ hl]at hg;injection hg with hg
   rw[hg];simp only[show k - 1+1=k by omega]
  have hol:out.length<=xs.length:=by
   have h1:=yp (sI w) (a.map sp) (b.map sp) ((kO xs).take<|k - 1) [];rw[<-hI,cE,cQ,nL]at h1;simp only[List.length_nil]at h1;omega
  refine QU hx<|QU hx<|QD (Al (by omega) hN)<|QD (Al (by omega) hN) ?_
  refine QJ (P:=λr:List aG=>r.map sp=mU (sI w) (a.map sp) (b.map sp) ((kO xs).take k) []) (Q8 (λhb=>?_)<|λhb=>?_)<|λr hr=>Q4 ⟨bL (by omega),by omega,by rw[yv];exact hr⟩
  ·refine QU hx<|QU hy<|QJ (DK (by omega) hN)<|λr hr=>QC ?_
   rw[hr,hI,hts,AP,aC (show sI w _ _=true from hb)];rfl
  ·refine QC ?_;rw[hI,hts,AP,aF (show ¬sI w _ _=true by rw[jr];exact hb)]
 ·rintro⟨out,i⟩e⟨hk1,hI⟩;dsimp only at e hI ⊢;subst e;rw[wB (by omega),aM];refine Q9 ?_;rw[mh (by rw[nL];omega)]at hI;exact hI
 intro o ho;exact Ra ho (λs hs=>QC hs)<|λr hr=>hr.elim
def oY(w:Int)(a b:List aH)(y:Int):List (Int×Int):=mU (sI w) (lz a y) (lz b y) (kO<|AQ (lz a y)<|lz b y) []
theorem Gg(a b:List (Int×Int)):Ends a (AQ a b)/\Ends b (AQ a b):=by
 constructor <;> intro s hs <;> constructor <;> refine Ak.2<|dI.2 ?_
 ·exact .inl<|List.mem_flatMap.2 ⟨s,hs,by simp⟩
 ·exact .inl<|List.mem_flatMap.2 ⟨s,hs,by simp⟩
 ·exact .inr<|List.mem_flatMap.2 ⟨s,hs,by simp⟩
 ·exact .inr<|List.mem_flatMap.2 ⟨s,hs,by simp⟩
theorem AR{a b:List aH}(ha:∀r∈a,r.X0<r.X1)(hb:∀r∈b,r.X0<r.X1)(w y:Int):jW (dT<|oY w a b y)/\∀x,jP (oY w a b y) x=sI w (ue a x y) (ue b x y):=by
 obtain⟨h1,h2⟩:=FN (gT:=sI w) (Kp w) (a:=lz a y) (b:=lz b y) (xs:=AQ (lz a y)<|lz b y) (n0 _) (Gg _ _).1 (Gg _ _).2;exact⟨h1,λx=>by rw[show jP (oY w a b y) x=_ from h2 x,(uB ha y).2,(uB hb y).2]⟩
theorem Hl(w:Int)(a b:List aH)(y:Int):(oY w a b y).length<=2*a.length+2*b.length:=by
 have h1:=yp (sI w) (lz a y) (lz b y) (kO<|AQ (lz a y)<|lz b y) [];have h2:=DL (lz a y)<|lz b y
 have h3:=sH a y;have h4:=sH b y;rw[nL]at h1;unfold oY;simp only[List.length_nil]at h1;omega
theorem Gh{a b:List aH}{w:Int}{s:List aA}(hc:fM (s.map cH))(hcov:∀x y,vL (s.map cH) x y=sI w (ue a x y) (ue b x y))(hla:a.length<=10000000)(hlb:b.length<=10000000)
  (ha:∀r∈a,r.X0<r.X1) (hb:∀r∈b,r.X0<r.X1) (hr:(aS s).length<=1099511627776) (hN:4398046511104<=N):hU N a b w=some (aS s):=by
 refine RD ?_;unfold hU;refine Rp (by simp only[List.length_nil];omega)<|Rp (by rw[List.nil_append];omega) ?_
 rw[List.nil_append];refine QD (CB (by rw[dB];omega) hN) ?_;have hyl:=Ko<|a++b
 rw[dB]at hyl;have hyi:=n0<|jX<|a++b
 have hmy:= @Ey<|a++b
 have hma:∀r∈a,r.Y0∈kV (jX<|a++b)/\r.Y1∈kV (jX<|a++b):=λr hr=>hmy r<|List.mem_append_left _ hr
 have hmb:∀r∈b,r.Y0∈kV (jX<|a++b)/\r.Y1∈kV (jX<|a++b):=λr hr=>hmy r<|List.mem_append_right _ hr
 have hf:∀y,jW (dT<|oY w a b y)/\(dT<|oY w a b y).length % 2=0:=λy=>⟨(AR ha hb w y).1,by rw[kC];omega⟩;have hfl:∀y,(dT<|oY w a b y).length<=80000000:=λy=>by rw[kC];have:=Hl w a b y;omega
 obtain⟨b1,b2⟩:=AJ (f:=λy=>dT (oY w a b y)) hf hyi (λt ht y h1 h2=>by(try dsimp only);unfold oY;rw[An hma ht hyi h1 h2,An hmb ht hyi h1 h2]) (λy h=>by
  (try dsimp only);unfold oY;rw[Ex hma h,Ex hmb h];rfl)
 have hsame:mV (λy=>dT<|oY w a b y) (kO<|kV<|jX<|a++b) []=s.map cH:=u5 b1 hc λx y=>by
  rw[hcov];unfold vL;rw[b2,uh (hf y).1,(AR ha hb w y).2]
 clear hmy hma hmb;generalize kV (jX<|a++b)=ys at *;refine QJ (Rw (n:=max 1 ys.length) (λs=>s.2) (λk st=>1<=k/\st.1.map tI=mV (λy=>dT<|oY w a b y) ((kO ys).take<|k - 1) []) (Go:=λst=>st.1.map tI=s.map cH) (Rt:=λ_=>False) ?_ ?_ (k0:=1) (by omega) rfl ⟨bV _,rfl⟩ (by omega)) ?_
 ·rintro k⟨out,i⟩hk e⟨hk1,hI⟩;dsimp only at e hI ⊢;subst e;have hk2:k<ys.length:=by omega
  rw[j8 hk2,aK,iH hk1 (by omega)];refine RE (by omega)<|RE hk2<|RE (by omega)<|RE (by omega)<|QJ (Eu (by omega) hN) λr1 hr1=>QJ (Eu (by omega) hN) λr2 hr2=>?_
  have l1:r1.length<=10000000:=by have:=sH a<|ys[k - 1]'(by omega);rw[<-hr1,cE]at this;omega
  have l2:r2.length<=10000000:=by have:=sH b<|ys[k - 1]'(by omega);rw[<-hr2,cE]at this;omega
  refine QJ (Kq l1 l2 hN) λr hr=>QJ (CE hyi (f:=λy=>dT<|oY w a b y) hfl (by omega) (by omega) hk1 hk2 hI (by(try dsimp only);rw[hr,hr1,hr2];rfl) hN) λo ho=>Q4 ⟨bL (by omega),by omega,?_⟩;rw[yv];exact ho
 ·rintro⟨out,i⟩e⟨hk1,hI⟩;dsimp only at e hI ⊢;subst e;rw[wB (by omega),aM];refine Q9 ?_;rw[mh (by rw[nL];omega),hsame]at hI;exact hI
 intro o ho;refine Ra ho (λst hs=>?_)<|λr hr=>hr.elim
 have e:=Am hs;obtain⟨s1,s2⟩:=rG (f:=λy=>dT<|oY w a b y) hfl (kO ys) [] (λc hc=>by cases hc);refine QD (Ig (l:=st.1) ?_ ?_ (by rw[e];exact hr) hN)<|QC e
 ·have:(st.1.map tI).length<=ys.length:=by rw[hs,<-hsame];have:=nL ys;simp only[List.length_nil]at s2;omega
  rw[cE]at this;omega
 ·intro b hb;have h3:=s1 (tI b) (by rw[hsame,<-hs];exact dD.2 ⟨b,hb,rfl⟩);have h4:(tI b).xs.length=2*b.jB.length:=by unfold tI;rw[kC,cE]
  omega
theorem Ez(n:Int):cY N n=some (mf n):=rfl
theorem CF{l:List aH}(hl:l.length<=1099511627776)(hN:4398046511104<=N):iK N l=some (l3 l):=by
 refine RD ?_;unfold iK l3
 by_cases h:2000<l.length
 ·rw[bJ (by omega),aK,aC h];exact QC rfl
 ·rw[bQ (by omega),aM,aF h];refine QJ (Rw (n:=l.length) (λs=>s) (λk s=>∀(j:Nat)x,j<k->l[j]? =some x->lu x=none) (Go:=λs=>l.findSome? lu=none) (Rt:=λr=>l.findSome? lu=some r) ?_ ?_ (dJ _) rfl (λj x hj=>by omega) (by omega)) ?_
  ·rintro k i hk e hI;subst e;rw[j8 hk,aK];have hx:l[k]? =some l[k]:=aQ hk;have hrt:∀c,lu l[k]=some c->l.findSome? lu=some c:=λc hc=>by
    rw[List.findSome?_eq_some_iff];refine⟨l.take k,l[k],l.drop<|k+1,?_,hc,λx hx'=>?_⟩
    ·rw[List.getElem_cons_drop,List.take_append_drop]
    ·obtain⟨j,hj⟩:=dN hx';have hjk:j<k:=by have:=(aZ.1 hj).1;rw[cQ]at this;omega
     exact hI j x hjk (by rw[List.getElem?_take_of_lt hjk]at hj;exact hj)
   refine QU hx ?_;have hb:((cY N l[k].X0).bind λx110=>bif(!x110)then some true else((cY N l[k].Y0).bind λx112=>bif(!x112)then some true else((cY N l[k].X1).bind λx114=>bif(!x114)then some true else((cY N l[k].Y1).bind λx116=>some<|!x116))))=some (!fY l[k]):=by
    rw[Ez,Ez,Ez,Ez];unfold fY;simp only[aB]
    cases mf l[k].X0 <;> cases mf l[k].Y0 <;> cases mf l[k].X1 <;> rfl
   refine QD hb<|Q8 (λh1=>RK<|hrt 1 ?_)<|λh1=>Q8 (λh2=>RK<|hrt 13 ?_)<|λh2=>Q4 ⟨bL (by omega),λj x hj hjx=>?_⟩
   ·unfold lu;rw[aF (by rw[jr];simpa using h1)]
   ·unfold lu;rw[aC (by simpa using h1),aC (by rw[dS,bP,bP]at h2;exact h2)]
   ·by_cases e:j=k
    ·subst e;rw[hx]at hjx;injection hjx with hjx;rw[<-hjx]
     unfold lu;rw[aC (by simpa using h1),aF (by rw[<-jr,dS,bP,bP]at h2;exact h2)]
    ·exact hI j x (by omega) hjx
  ·rintro i e hI;subst e;rw[l8,aM];refine Q9 ?_;rw[List.findSome?_eq_none_iff];intro x hx;obtain⟨j,hj⟩:=dN hx;exact hI j x (aZ.1 hj).1 hj
  intro o ho;exact Ra ho (λs hs=>QC (by rw[hs];rfl))<|λr hr=>QC (by rw[hr];rfl)
theorem Hm{l:List aH}{s:List aA}(hs:uo l s):Cs l↔aS s=l:=⟨λ⟨t,h1,h2⟩=>by rw[hs.unique h1];exact h2,λh=>⟨s,hs,h⟩⟩
theorem vv{l:List aH}(hl:l.length<=1073741824)(hN:4398046511104<=N):fZ N l=some (kx l):=by
 refine RD ?_;unfold fZ;refine QD (CF (by omega) hN) ?_;unfold kx;refine Q8 (λh=>QC ?_)<|λh=>?_
 ·rw[aC (by simpa using h)]
 ·have h0:l3 l=0:=by simpa using h
  rw[aF (by simpa using h0)];obtain⟨hlen,hok⟩:=Ct h0;have hbf:∀a b:aH,((decide (a.Y0<b.Y0)||((a.Y0==b.Y0)&&decide (a.X0<b.X0)))=true)↔¬(b.Y0<a.Y0\/(b.Y0=a.Y0/\b.X0<=a.X0)):=λa b=>by
   rw[dS,bY,bP,bP,beq_iff_eq];omega
  refine QJ (RJ (Go:=λ_=>MK l) (Rt:=λr=>r=8/\¬MK l) (λs=>∃k:Nat,s=((k:Nat):Int)/\1<=k/\∀(j:Nat)a b,j+1<k->l[j]? =some a->l[j+1]? =some b->¬(b.Y0<a.Y0\/(b.Y0=a.Y0/\b.X0<=a.X0))) (λs=>l.length - s.toNat) ?_ ⟨1,rfl,bV _,λj a b hj=>by omega⟩ (by simp;omega)) ?_
  ·rintro s⟨k,rfl,hk,hI⟩;refine Q8 (λh=>?_)<|λh=>Q9 λj a b ha hb=>hI j a b ?_ ha hb
   ·have hk2:k<l.length:=by have:=of_decide_eq_true h;omega
    rw[iH hk (by omega)];have hx:l[k - 1]? =some (l[k - 1]'(by omega)):=aQ _;have hy:l[k]? =some l[k]:=aQ hk2;refine QU hx<|QU hy ?_
    unfold i9;rw[aB];refine Q8 (λhb=>RK ⟨rfl,λhu=>?_⟩)<|λhb=>Q4 ⟨⟨k+1,by rw[bL (by omega)],by omega,λj a b hj ha hb'=>?_⟩,by rw[bL (by omega)];simp only[cB];omega⟩
    ·have:=(hbf _ _).2<|hu (k - 1) _ _ hx (by rw[show k - 1+1=k by omega];exact hy)
     rw[this]at hb;cases hb
    ·by_cases e:j+1<k
     ·exact hI j a b e ha hb'
     ·have:j+1=k:=by omega
      have h1:l[k - 1]? =some a:=by rw[show k - 1=j by omega];exact ha
      have h2:l[k]? =some b:=by rw[<-this];exact hb'
      rw[hx]at h1;rw[hy]at h2;injection h1 with h1;injection h2 with h2
      rw[<-h1,<-h2];refine(hbf _ _).1 ?_;rw[Bool.not_eq_false']at hb;exact hb
   ·have:=of_decide_eq_false h;have:=(aZ.1 hb).1;omega
  ·rintro o ho;refine Ra ho (λs hu=>?_)<|λr hr=>QC (by rw[hr.1,aF hr.2])
   rw[aC hu];obtain⟨s,_,hs⟩:=qj (N:=N) (l:=l) (by omega) hok (by omega);obtain⟨z1,z2,z3⟩:=hs.FZ;have z4:2*l.length*(2*l.length)<=4000*4000:=Nat.mul_le_mul (by omega) (by omega);refine QD (vg hs.can hs.cover (by omega) (λr hr=>(hok r hr).x) (by omega) hN)<|QD (Ev (by omega) hN) ?_
   have hiff:=Hm hs;refine Q8 (λh=>QC ?_)<|λh=>QC ?_
   ·have h:¬l=aS s:=by simpa using h
    rw[aF<|λh'=>h (hiff.1 h').symm]
   ·have h:l=aS s:=by simpa using h
    rw[aC<|hiff.2 h.symm]
end
theorem CG(n:Nat)(g:Nat->Nat):((List.range<|n+1).map g).sum=((List.range n).map g).sum+g n:=by
 rw[List.range_succ,dG,List.sum_append];simp
def OQ(r:aH)(x y:Int):Bool:=(decide (r.X0<=x)&&decide (x<r.X1))&&(decide (r.Y0<=y)&&decide (y<r.Y1))
def OH(a b:aH):Prop:=∀x y,¬(OQ a x y=true/\OQ b x y=true)
theorem Lg{r:aH}{x y:Int}:OQ r x y=true↔(r.X0<=x/\x<r.X1)/\r.Y0<=y/\y<r.Y1:=by unfold OQ;simp
theorem zD:∀{xs:List Int},jW xs->(Ce xs).Pairwise (λp q=>p.2<q.1)
 | [],_=>j9
 | [a],_=>j9
 |a::b::l,h=>by
  unfold Ce;rw[oJ];exact⟨λq hq=>h.tail.head q.1 (El q hq).1,zD h.tail.tail⟩
def sJ(a b:aH):Prop:=a.Y1<=b.Y0\/(a.Y0=b.Y0/\a.Y1=b.Y1/\a.X1<b.X0)
theorem sJ.apart{a b:aH}(h:sJ a b):OH a b:=λx y⟨h1,h2⟩=>by
 rw[Lg]at h1 h2
 rcases h with h|h <;> omega
theorem rH:∀{s:List aA},fM (s.map cH)->(aS s).Pairwise sJ
 | [],_=>j9
 |b::s,h=>by
  rw[nG,nM];refine⟨?_,rH h.tail,λx hx y hy=>?_⟩
  ·unfold nF;rw[List.pairwise_map];exact List.Pairwise.imp (λhpq=> .inr ⟨rfl,rfl,hpq⟩)<|zD (h.each (cH b) (by simp)).2.2.1
  ·unfold nF at hx;obtain⟨p,_,rfl⟩:=dD.1 hx;obtain⟨c,hc,q,_,rfl⟩:=rR hy;exact .inl<|h.B9 (cH c)<|dD.2 ⟨c,hc,rfl⟩
theorem uC{s:List aA}(h:fM (s.map cH)):∀r∈aS s,r.X0<r.X1/\r.Y0<r.Y1:=λr hr=>by
 obtain⟨b,hb,p,hp,rfl⟩:=rR hr;have hc:=h.each (cH b)<|dD.2 ⟨b,hb,rfl⟩
 exact⟨G7 hc.2.2.1 p hp,hc.1⟩
theorem Gi{s:List aA}(h:fM (s.map cH)):(aS s).Nodup:=by
 have h1:=rH h;have h2:=uC h;refine List.Pairwise.imp_of_mem (λ{a b}ha hb hab e=>?_) h1;subst e;have:=h2 a ha
 rcases hab with h|h <;> omega
def q8(s:List Bd):Nat:=(s.map<|λb=>b.xs.length / 2).sum
theorem wD(s t:List Bd):q8 (s++t)=q8 s+q8 t:=by unfold q8;rw[dG,List.sum_append]
theorem Jb(s:List Bd)(b:Bd):q8 (kg s b)<=q8 s+b.xs.length / 2:=by
 unfold kg;split
 ·omega
 ·split
  ·rename_i c hc;have hsp:=sA hc;have e:q8 s=q8 s.dropLast+c.xs.length / 2:=by
    conv=>lhs;rw[hsp,wD]
    simp[q8]
   split
   ·rw[wD,e];simp[q8]
   ·rw[wD];simp[q8]
  ·simp[q8]
structure Qj (t:List Bd):Prop where
 each:∀b∈t,b.y0<b.y1/\jW b.xs/\b.xs.length % 2=0
 ord:t.Pairwise (λb c=>b.y1<=c.y0)
theorem fold_push:∀(t out:List Bd),Qj t->fM out->(∀c∈out,∀b∈t,c.y1<=b.y0)->fM (t.foldl kg out)/\q8 (t.foldl kg out)<=q8 out+q8 t/\
  ∀y,rowAt (t.foldl kg out) y=if(∃b∈t,b.y0<=y/\y<b.y1)then rowAt t y else rowAt out y
 | [],out,_,hc,_=>⟨hc,by simp[q8],λy=>by simp⟩
 |b::t,out,hl,hc,ho=>by
  have hb:=hl.each b (by simp);have hord:=oJ.1 hl.ord;have ho1:∀c∈out,c.y1<=b.y0:=λc h=>ho c h b (by simp);have h1:=wT hc ho1 hb.2.1 hb.2.2;have htop:=wU ho1 (show b.y0<=b.y1 by omega);obtain⟨f1,f2,f3⟩:=fold_push t (kg out b) ⟨λc hcm=>hl.each c<|ir _ hcm,hord.2⟩ h1 (λc hcm d hd=>by have:=htop c hcm;have:=hord.1 d hd;omega);refine⟨f1,?_,λy=>?_⟩
  ·have:=Jb out b;have e:q8 (b::t)=b.xs.length / 2+q8 t:=by simp[q8]
   rw[List.foldl_cons,e];omega
  ·rw[List.foldl_cons,f3 y,wS ho1 (λc hcm=>(hc.each c hcm).1)<|λh=>absurd h (by omega),nD]
   by_cases hy:b.y0<=y/\y<b.y1
   ·have hn:¬∃c∈t,c.y0<=y/\y<c.y1:=λ⟨c,hcm,h⟩=>by have:=hord.1 c hcm;omega
    rw[aF hn,aC hy,aC ⟨b,by simp,hy⟩,aC hy]
   ·rw[aF hy]
    by_cases h:∃c∈t,c.y0<=y/\y<c.y1
    ·obtain⟨c,hcm,h⟩:=h;rw[aC ⟨c,hcm,h⟩,aC ⟨c,ir _ hcm,h⟩,aF hy]
    ·rw[aF h,aF hy,aF (show ¬∃c∈b::t,c.y0<=y/\y<c.y1 from λ⟨c,hcm,h2⟩=>by
      rcases dM.1 hcm with rfl|hcm
      ·exact hy h2
      ·exact h ⟨c,hcm,h2⟩)]
noncomputable def rj(C:List aH)(b:aA):Bd:=⟨b.Y0,b.Y1,dT<|(Ce b.Xs).filter<|λp=>decide<|(⟨p.1,b.Y0,p.2,b.Y1⟩:aH)∈C⟩
theorem Jc{l m:List (Int×Int)}(h:l.Sublist m):(dT l).Sublist (dT m):=by
 induction h with
 |slnil=>exact List.Sublist.refl _
 |cons a _ ih=>rw[jQ];exact(ih.cons _).cons _
 |cons_cons a _ ih=>rw[jQ,jQ];exact(ih.cons_cons _).cons_cons _
theorem CH(l:List (Int×Int)):(dT l).length % 2=0/\(dT l).length / 2=l.length:=by rw[kC];omega
theorem DM{s p:List aA}{C:List aH}(hs:fM (s.map cH))(hp:fM (p.map cH))(hC:∀r∈C,r∈aS s)(hcov:∀x y,vL (p.map cH) x y=ue C x y):(aS p).length<=C.length:=by
 have hinc:∀b∈s,jW (rj C b).xs:=λb hb=>by
  have h1:=H7 hs b hb;have h2:=Jc<|List.filter_sublist (l:=Ce b.Xs) (p:=λp=>decide<|(⟨p.1,b.Y0,p.2,b.Y1⟩:aH)∈C)
  rw[zn<|uu hs b hb]at h2;exact List.Pairwise.sublist h2 h1
 have hlow:Qj (s.map<|rj C):=by
  refine⟨λb hb=>?_,?_⟩
  ·obtain⟨c,hc,rfl⟩:=dD.1 hb;exact⟨(hs.each (cH c)<|dD.2 ⟨c,hc,rfl⟩).1,hinc c hc,(CH _).1⟩
  ·have:=hs.ord;rw[List.pairwise_map]at this ⊢;exact List.Pairwise.imp (λh=>h.1) this
 obtain⟨f1,f2,f3⟩:=fold_push (s.map<|rj C) [] hlow fM.nil (λc hc=>by cases hc);have hrow:∀{t:List aA},(∀b∈t,b∈s)->∀x y,p7 (rowAt (t.map<|rj C) y) x=true->ue C x y=true:=by
  intro t ht x y h
  induction t with
  |nil=>cases h
  |cons b t ih=>
   rw[dW,nD]at h;split at h
   ·rename_i hy;have hbm:=ht b (by simp);have h1:=hinc b hbm;have h:p7 (dT<|(Ce b.Xs).filter<|λp=>decide<|(⟨p.1,b.Y0,p.2,b.Y1⟩:aH)∈C) x=true:=h;rw[uh h1,ug]at h;obtain⟨q,hq,h2⟩:=h;have hq:=jo.1 hq;exact jy.2 ⟨_,of_decide_eq_true hq.2,h2,hy⟩
   ·exact ih (λc hc=>ht c<|ir _ hc) h
 have hrow2:∀x y,ue C x y=true->p7 (rowAt (s.map<|rj C) y) x=true:=by
  intro x y h;obtain⟨r,hr,h1,h2⟩:=jy.1 h;obtain⟨b,hb,q,hq,rfl⟩:=rR<|hC r hr
  dsimp only at h1 h2;have key:∀{t:List aA},(∀c∈t,c∈s)->fM (t.map cH)->b∈t->rowAt (t.map<|rj C) y=(rj C b).xs:=by
   intro t ht hc hbt
   induction t with
   |nil=>cases hbt
   |cons c t ih=>
    rw[dW,nD]
    by_cases hy:c.Y0<=y/\y<c.Y1
    ·rw[aC (show(rj C c).y0<=y/\y<(rj C c).y1 from hy)]
     rcases dM.1 hbt with rfl|hbt
     ·rfl
     ·have:=hc.B9 (cH b)<|dD.2 ⟨b,hbt,rfl⟩
      have e1:(cH c).y1=c.Y1:=rfl;have e2:(cH b).y0=b.Y0:=rfl;omega
    ·rw[aF (show ¬((rj C c).y0<=y/\y<(rj C c).y1)from hy)]
     rcases dM.1 hbt with rfl|hbt
     ·exact absurd h2 hy
     ·exact ih (λd hd=>ht d<|ir _ hd) hc.tail hbt
  rw[key (λc hc=>hc) hs hb];have h1':=hinc b hb;show p7 (dT<|(Ce b.Xs).filter<|λp=>decide<|(⟨p.1,b.Y0,p.2,b.Y1⟩:aH)∈C) x=true;rw[uh h1',ug];exact⟨q,jo.2 ⟨hq,bJ hr⟩,h1⟩
 have hsame:p.map cH=(s.map<|rj C).foldl kg []:=u5 hp f1 λx y=>by
  rw[hcov,eT];have e:rowAt ((s.map<|rj C).foldl kg []) y=rowAt (s.map<|rj C) y:=by
   rw[f3]
   by_cases h:∃b∈s.map (rj C),b.y0<=y/\y<b.y1
   ·rw[aC h]
   ·rw[aF h]
    exact(mo λb hb=>by
     have:¬(b.y0<=y/\y<b.y1):=λh2=>h ⟨b,hb,h2⟩
     omega).symm
  unfold vL;rw[e];exact⟨hrow2 x y,hrow (λb hb=>hb) x y⟩
 have hc1:(aS p).length=q8 (p.map cH):=by
  have:∀p:List aA,(aS p).length=q8 (p.map cH):=λp=>by
   induction p with
   |nil=>rfl
   |cons b p ih=>rw[nG,dB,nZ,ih];unfold q8;rw[dW,dW,List.sum_cons];rfl
  exact this p
 have hc2:∀s:List aA,q8 (s.map<|rj C)=((aS s).filter<|λr=>decide<|r∈C).length:=λs=>by
  induction s with
  |nil=>rfl
  |cons b s ih=>
   rw[nG,jq,dB,<-ih];unfold q8;rw[dW,dW,List.sum_cons];congr 1;show(dT _).length / 2=_;rw[(CH _).2];unfold nF;rw[List.filter_map,cE];rfl
 have hc3:((aS s).filter<|λr=>decide<|r∈C).length<=C.length:=fS (List.Nodup.sublist List.filter_sublist<|Gi hs) λr hr=>of_decide_eq_true (jo.1 hr).2;rw[hc1,hsame];have e0:q8 ([]:List Bd)=0:=rfl;have:=hc2 s;omega
section
variable {N:Nat}
theorem Lh(hN:16<=N):iq N=some true:=by
 have:=I0 (N:=N - 16);rwa[show N - 16+16=N by omega]at this
theorem xQ{all:List aH}(w:aH->Nat):∀(c:List Nat),((c.filterMap<|λi=>all[i]?).map w).sum=(c.map<|λi=>(all[i]?).elim 0 w).sum
 | []=>rfl
 |i::c=>by
  rw[dW,List.sum_cons,<-xQ w c]
  cases h:all[i]? with
  |none=>rw[List.filterMap_cons_none (f:=λi=>all[i]?) h];simp
  |some x=>rw[List.filterMap_cons_some (f:=λi=>all[i]?) h,dW,List.sum_cons];rfl
theorem Li{all:List aH}{u:Nat->Nat}(h:∀i,i<all.length->u i∈bT all.length u)(w:aH->Nat):((bT all.length u).map<|λk=>((oF all all.length u k).map w).sum).sum=(all.map w).sum:=by
 have e:(λk=>((oF all all.length u k).map w).sum)=λk=>(((List.range all.length).filter<|λx=>decide<|u x=k).map<|λi=>(all[i]?).elim 0 w).sum:=by
  funext k;unfold oF;rw[xQ];rfl
 rw[e,Ga (nH _ _) u _<|λx hx=>h x<|oH.1 hx];have:∀m,m<=all.length->((List.range m).map<|λi=>(all[i]?).elim 0 w).sum=((all.take m).map w).sum:=by
  intro m
  induction m with
  |zero=>intro _;rfl
  |succ m ih=>
   intro hm;rw[CG,ih (by omega),eD (by omega),dG,List.sum_append,aQ (by omega)];simp
 rw[this _<|bV _,eM]
theorem CI:∀{l m:List Nat},l.length=m.length->(∀(j x y:Nat),l[j]? =some x->m[j]? =some y->x<=y)->l.sum<=m.sum
 | [],[],_,_=>bV _
 | [],_::_,h,_=>by simp at h
 |_::_,[],h,_=>by simp at h
 |a::l,b::m,h,hle=>by
  have h1:=hle 0 a b rfl rfl;have h2:=CI (l:=l) (m:=m) (by simpa using h) λj x y hx hy=>hle (j+1) x y (by simpa using hx) (by simpa using hy);rw[List.sum_cons,List.sum_cons];omega
theorem Ih{r hs:List aH}{s:List aA}(h1:∀x∈r,fY x=true)(h2:∀x∈hs,fY x=true)(hc:fM (s.map cH))(hl:yu (uk r++uk hs) (jX r++jX hs) (s.map cH)):∀q∈aS s,fY q=true/\q.X0<q.X1/\q.Y0<q.Y1:=by
 intro q hq;have hp:=uC hc q hq;obtain⟨b,hb,p,hpm,rfl⟩:=rR hq;have hll:=hl (cH b)<|dD.2 ⟨b,hb,rfl⟩
 have hm:=El p hpm;have bx:∀c∈uk r++uk hs,-1000000<=c/\c<=1000000:=λc hcm=>by
  rcases dI.1 hcm with h|h
  ·obtain⟨x,hx,h⟩:=um.1 h;have:=nJ<|h1 x hx
   rcases h with rfl|rfl <;> omega
  ·obtain⟨x,hx,h⟩:=um.1 h;have:=nJ<|h2 x hx
   rcases h with rfl|rfl <;> omega
 have by':∀c∈jX r++jX hs,-1000000<=c/\c<=1000000:=λc hcm=>by
  rcases dI.1 hcm with h|h
  ·obtain⟨x,hx,h⟩:=lY.1 h;have:=nJ<|h1 x hx
   rcases h with rfl|rfl <;> omega
  ·obtain⟨x,hx,h⟩:=lY.1 h;have:=nJ<|h2 x hx
   rcases h with rfl|rfl <;> omega
 have g1:=bx _<|hll.2.2 p.1 hm.1
 have g2:=bx _<|hll.2.2 p.2 hm.2
 have g3:=by' _ hll.1
 have g4:=by' _ hll.2.1
 exact⟨Cr ⟨g1,g3,g2,g4⟩,hp⟩
structure q9 (r hs:List aH) (s:List aA) (u:Nat->Nat) (ps:List (List aA)):Prop where
 r1:∀x∈r,fY x=true
 r2:∀x∈hs,fY x=true
 k1:∀x∈r,CY x
 k2:∀x∈hs,CY x
 dr:va r hs s
 pt:tg s u ps
 w5:(aS s).length<=2000
theorem q9.part{r hs:List aH}{s:List aA}{u:Nat->Nat}{ps:List (List aA)}(h:q9 r hs s u ps){p:List aA}(hp:p∈ps):fM (p.map cH)/\(aS p).length<=2000/\∀q∈aS p,fY q=true/\q.X0<q.X1/\q.Y0<q.Y1:=by
 obtain⟨sx,sy⟩:=h.dr.small h.k1 h.k2;obtain⟨j,k,g1,g2,g3,g4⟩:=Cw h.pt h.dr.can h.dr.lim sx sy hp
 have:=DM h.dr.can g3.can (λx hx=>by
  obtain⟨i,_,_,hi⟩:=mE.1 hx
  exact eL hi) g3.cover
 have h2:=Cn (aS s) (aS s).length u k;have:=h.w5;exact⟨g3.can,by omega,Ih h.r1 h.r2 g3.can g4⟩
theorem q9.bT{r hs:List aH}{s:List aA}{u:Nat->Nat}{ps:List (List aA)}(h:q9 r hs s u ps):∀i,i<(aS s).length->u i∈Gk.bT (aS s).length u:=λi hi=>jR.2 ⟨by have:=h.pt.join.le i hi;omega,h.pt.join.rr i hi⟩
theorem q9.total{r hs:List aH}{s:List aA}{u:Nat->Nat}{ps:List (List aA)}(h:q9 r hs s u ps):(ps.map<|λp=>(aS p).length).sum<=(aS s).length:=by
 have h1:=Li h.bT<|λ_=>1
 have one:∀l:List aH,(l.map<|λ_=>1).sum=l.length:=λl=>by
  induction l with
  |nil=>rfl
  |cons x l ih=>simp only[dW,List.sum_cons,ih,cS];omega
 simp only[one]at h1;rw[<-h1];refine CI (by simp[h.pt.len]) λj x y hx hy=>?_;rw[eR,sV]at hx hy;obtain⟨p,hp,rfl⟩:=hx;obtain⟨k,hk,rfl⟩:=hy;have hs:=h.pt.each j k p hk hp
 exact DM h.dr.can hs.can (λx hx=>by
  obtain⟨i,_,_,hi⟩:=mE.1 hx
  exact eL hi) hs.cover
theorem AU{ps:List (List aA)}{x y:Int}:ue (ps.flatMap aS) x y=true↔∃p∈ps,ue (aS p) x y=true:=by
 rw[jy];constructor
 ·rintro⟨r,hr,h⟩;obtain⟨p,hp,hrp⟩:=List.mem_flatMap.1 hr;exact⟨p,hp,jy.2 ⟨r,hrp,h⟩⟩
 ·rintro⟨p,hp,h⟩;obtain⟨r,hr,h⟩:=jy.1 h;exact⟨r,List.mem_flatMap.2 ⟨p,hp,hr⟩,h⟩
theorem q9.cover{r hs:List aH}{s:List aA}{u:Nat->Nat}{ps:List (List aA)}(h:q9 r hs s u ps)(x y:Int):ue (ps.flatMap aS) x y=vL (s.map cH) x y:=by
 rw[<-ql h.dr.can,eT,AU];constructor
 ·rintro⟨p,hp,hc⟩;obtain⟨j,hj⟩:=dN hp;have hjl:=(aZ.1 hj).1;have hk:(Gk.bT (aS s).length u)[j]? =some ((Gk.bT (aS s).length u)[j]'(by rw[<-h.pt.len];exact hjl)):=aQ _;have hs:=h.pt.each j _ _ hk hj;rw[ql hs.can,hs.cover]at hc;obtain⟨q,hq,h2⟩:=jy.1 hc;obtain⟨i,_,_,hi⟩:=mE.1 hq;exact jy.2 ⟨q,eL hi,h2⟩
 ·intro hc;obtain⟨q,hq,h2⟩:=jy.1 hc;obtain⟨i,hi⟩:=dN hq;have hil:=(aZ.1 hi).1;obtain⟨j,hj⟩:=dN<|h.bT i hil
  have hjl:j<ps.length:=by rw[h.pt.len];exact(aZ.1 hj).1
  have hs:=h.pt.each j _ _ hj<|aQ hjl
  refine⟨_,cC hjl,?_⟩;rw[ql hs.can,hs.cover];exact jy.2 ⟨q,mE.2 ⟨i,hil,rfl,hi⟩,h2⟩
section
variable {a:jT}{lE:List (List aA)}{dA:List (List (List aA))}{r:Nat->Nat}{gs:List cP}{ofP ofB pW:List Int}{pX:List cL}
theorem AV(b:mw a lE dA r gs ofP ofB pW pX){i:Nat}(hi:i<a.aJ.length):∃s ps u,lE[i]? =some s/\dA[i]? =some ps/\q9 a.aJ[i] (kz a.aL ((i:Nat):Int)) s u ps:=by
 have hd:lE[i]? =some (lE[i]'(by rw[b.dr.len];exact hi)):=aQ _;have hp:dA[i]? =some (dA[i]'(by rw[b.dr.Ba];exact hi)):=aQ _;have hdr:=b.dr.dr i _ _ hi (aQ hi) hd;obtain⟨u,hu⟩:=b.dr.pt i _ _ hi hd hp;have hreg:=wA.1<|b.Aj.Qc _<|cC hi
 exact⟨_,_,u,hd,hp,λx hx=>((qp.1 hreg.1).2 x hx).1,λx hx=>(sE b.Aj.gb _ x hx).2,(Ct hreg.1).2,λx hx=>(sE b.Aj.gb _ x hx).1,hdr,hu,b.w5.1 _<|eL hd⟩
end
end
def CJ(a b:aH):Prop:=(0<min a.X1 b.X1 - max a.X0 b.X0/\0<=min a.Y1 b.Y1 - max a.Y0 b.Y0)\/(0<=min a.X1 b.X1 - max a.X0 b.X0/\0<min a.Y1 b.Y1 - max a.Y0 b.Y0)
theorem Jd{all:List aH}(hB:all.Pairwise sJ)(hp:∀r∈all,r.X0<r.X1/\r.Y0<r.Y1){i j:Nat}{a c:aH}(ha:all[i]? =some a)(hc:all[j]? =some c):CJ a c↔i=j\/zJ all i j\/zJ all j i:=by
 have h1:zJ all i j↔Ep a c:=⟨λ⟨a',c',e1,e2,h⟩=>by rw[ha]at e1;rw[hc]at e2;injection e1 with e1;injection e2 with e2;rw[e1,e2];exact h,λh=>⟨a,c,ha,hc,h⟩⟩;have h2:zJ all j i↔Ep c a:=⟨λ⟨a',c',e1,e2,h⟩=>by rw[hc]at e1;rw[ha]at e2;injection e1 with e1;injection e2 with e2;rw[e1,e2];exact h,λh=>⟨c,a,hc,ha,h⟩⟩;have p1:=hp a<|eL ha
 have p2:=hp c<|eL hc
 rw[h1,h2];obtain⟨l1,e1⟩:=aZ.1 ha;obtain⟨l2,e2⟩:=aZ.1 hc;unfold CJ Ep
 rcases Nat.lt_trichotomy i j with h|h|h
 ·have:=mi.1 hB i j l1 l2 h;rw[e1,e2]at this;unfold sJ at this
  rcases this with this|this
  ·constructor
   ·rintro(h3|h3)
    ·exact .inr<|.inl ⟨by omega,by omega,by omega⟩
    ·omega
   ·rintro(h3|h3|h3)
    ·omega
    ·left;omega
    ·omega
  ·constructor
   ·rintro(h3|h3) <;> omega
   ·rintro(h3|h3|h3) <;> omega
 ·subst h;rw[ha]at hc;injection hc with hc;subst hc
  exact⟨λ_=> .inl rfl,λ_=> .inl (by omega)⟩
 ·have:=mi.1 hB j i l2 l1 h;rw[e1,e2]at this;unfold sJ at this
  rcases this with this|this
  ·constructor
   ·rintro(h3|h3)
    ·exact .inr<|.inr ⟨by omega,by omega,by omega⟩
    ·omega
   ·rintro(h3|h3|h3)
    ·omega
    ·omega
    ·left;omega
  ·constructor
   ·rintro(h3|h3) <;> omega
   ·rintro(h3|h3|h3) <;> omega
theorem Ao{α:Type}{q q':List α}(h:q <+:q'){t:Nat}{x:α}(hx:q[t]? =some x):q'[t]? =some x:=by
 obtain⟨r,rfl⟩:=h;rw[gp (aZ.1 hx).1];exact hx
def vh(f:Int->Int->Bool)(x y:Int):Prop:=f x y=true/\∀x' y',f x' y'=true->y<y'\/(y=y'/\x<=x')
theorem vh.unique{f:Int->Int->Bool}{x y x' y':Int}(h:vh f x y)(h':vh f x' y'):x=x'/\y=y':=by
 have h1:=h.2 _ _ h'.1;have h2:=h'.2 _ _ h.1;omega
theorem Hn{a:aH}{l:List aH}(hp:∀r∈a::l,r.X0<r.X1/\r.Y0<r.Y1)(hB:∀r∈l,sJ a r):vh (ue<|a::l) a.X0 a.Y0:=by
 have pa:=hp a (by simp);refine⟨jy.2 ⟨a,by simp,by omega,by omega⟩,λx' y' h=>?_⟩;obtain⟨r,hr,hx,hy⟩:=jy.1 h
 rcases dM.1 hr with rfl|hr
 ·omega
 ·have:=hB r hr;unfold sJ at this;omega
theorem Ho{s:List aA}(hc:fM (s.map cH))(hne:s≠[]):∃r t,aS s=r::t/\vh (λx y=>vL (s.map cH) x y) r.X0 r.Y0/\Ic s= ⟨r.X0,r.Y0⟩:=by
 cases s with
 |nil=>exact absurd rfl hne
 |cons b s=>
  have hx:=hc.each (cH b) (by simp);have hxs:b.Xs≠[]:=hx.2.1;have he:b.Xs.length % 2=0:=hx.2.2.2;obtain⟨x0,x1,xs,e⟩:∃x0 x1 xs,b.Xs=x0::x1::xs:=by
   match hb:b.Xs with
   | []=>exact absurd hb hxs
   | [x0]=>rw[hb]at he;simp at he
   |x0::x1::xs=>exact⟨x0,x1,xs,rfl⟩
  have hr:aS (b::s)= ⟨x0,b.Y0,x1,b.Y1⟩::((Ce xs).map (λp=>(⟨p.1,b.Y0,p.2,b.Y1⟩:aH))++aS s):=by
   rw[nG];unfold nF;rw[e];rfl
  have hB:=rH hc;have hpos:=uC hc;rw[hr]at hB hpos;refine⟨_,_,hr,?_,by unfold Ic;dsimp only;rw[e];rfl⟩;have:=Hn hpos (oJ.1 hB).1;rw[<-hr]at this;refine⟨?_,λx' y' h=>this.2 x' y' ?_⟩
  ·show vL _ _ _=true;rw[<-ql hc];exact this.1
  ·rw[ql hc];exact h
theorem DN{all:List aH}{u:Nat->Nat}(hB:all.Pairwise sJ)(hp:∀r∈all,r.X0<r.X1/\r.Y0<r.Y1)(hJ:Joined all u){h:Nat}{a:aH}(ha:all[h]? =some a)(hu:u h=h):vh (ue<|oF all all.length u h) a.X0 a.Y0:=by
 obtain⟨hl,e⟩:=aZ.1 ha;have pa:=hp a<|eL ha
 refine⟨jy.2 ⟨a,mE.2 ⟨h,hl,hu,ha⟩,by omega,by omega⟩,λx' y' hc=>?_⟩;obtain⟨r,hr,hx,hy⟩:=jy.1 hc;obtain⟨k,hk,huk,hrk⟩:=mE.1 hr;have hle:=hJ.le k hk
 by_cases ek:k=h
 ·subst ek;rw[ha]at hrk;injection hrk with hrk;subst hrk;omega
 ·obtain⟨hl2,e2⟩:=aZ.1 hrk;have:=mi.1 hB h k hl hl2 (by omega);rw[e,e2]at this;unfold sJ at this;omega
theorem vj{u:Nat->Nat}:∀(d i:Nat),∃t,bT (i+d) u=bT i u++t
 | 0,i=>⟨[],by simp⟩
 |d+1,i=>by
  obtain⟨t,ht⟩:=vj (u:=u) d i;rw[<-Nat.add_assoc,gV,ht];split
  ·exact⟨t++[i+d],by simp⟩
  ·exact⟨t,rfl⟩
theorem Kr{u:Nat->Nat}{i n:Nat}(hi:i<n)(hu:u i=i):(bT n u)[(bT i u).length]? =some i:=by
 obtain⟨t,ht⟩:=vj (u:=u) (n -(i+1))<|i+1
 rw[show i+1+(n -(i+1))=n by omega]at ht;rw[ht,gV,aC hu];simp
section
variable {N:Nat}
theorem Je{a b:aH}(ha:CY a)(hb:CY b):jA N a b=some (decide<|CJ a b):=by
 have a1:=ha.s1;have a2:=ha.s2;have a3:=ha.s3;have a4:=ha.s4;have b1:=hb.s1;have b2:=hb.s2;have b3:=hb.s3;have b4:=hb.s4;unfold small at a1 a2 a3 a4 b1 b2 b3 b4;unfold jA;rw[ve,ve,vf,vf,fJ (x:=min a.X1 b.X1 - max a.X0 b.X0) (by omega) (by omega),fJ (x:=min a.Y1 b.Y1 - max a.Y0 b.Y0) (by omega) (by omega)];congr 1;rw[eT];unfold CJ;simp only[dS,bY,bP,gt_iff_lt,ge_iff_le]
theorem insert_eq{l:List (List aH)}{r0:aH}{t:List aH}(hl:l.length<=1000000)(hN:4398046511104<=N)(h:∀x,l[l.length - 1]? =some x->∃x0 t',x=x0::t'/\¬(r0.Y0<x0.Y0\/(r0.Y0=x0.Y0/\r0.X0<x0.X0))):j5 N l (r0::t)=some (l++[r0::t]):=by
 refine RD ?_;unfold j5;refine QJ (RJ (Go:=λs=>s=((l.length:Nat):Int)) (Rt:=λ_=>False) (λs=>s=((l.length:Nat):Int)) (λs=>0) ?_ rfl (by omega)) ?_
 ·rintro s rfl
  by_cases h0:l.length=0
  ·rw[bQ (by omega),aM,aB,aM];exact Q9 rfl
  ·rw[bJ (by omega),aK,iH (by omega) (by omega)];have hx:l[l.length - 1]? =some (l[l.length - 1]'(by omega)):=aQ _;obtain⟨x0,t',e,hn⟩:=h _ hx;have i1:idx (r0::t) 0=some r0:=rfl;have i2:idx (l[l.length - 1]'(by omega)) 0=some x0:=by rw[e];rfl
   rw[i1,aB,dC hx,aB,i2,aB];unfold i9
   rw[aB,aB,show((decide (r0.Y0<x0.Y0))||((r0.Y0==x0.Y0)&&(decide (r0.X0<x0.X0))))=false by
    rw[<-jr,dS,bY,bP,bP,beq_iff_eq];exact hn,aM]
   exact Q9 rfl
 intro o ho;refine Ra ho ?_<|λr hr=>hr.elim
 rintro s rfl;refine QD (r6 l l.length<|bV _)<|Rp ?_<|Rp ?_<|QD (pL l l.length<|bV _)<|Rp ?_<|QC ?_
 ·rw[eM];simp only[List.length_nil];omega
 ·rw[eM];simp only[List.length_nil,dB,cS];omega
 ·rw[eM,List.drop_length];simp only[List.length_nil,dB,cS];omega
 ·simp
structure BI (all:List aH) (u:Nat->Nat) (i:Nat) (q:List Nat) (done:List Bool) (own:List aH):Prop where
 len:done.length=all.length
 nd:q.Nodup
 lt:∀k∈q,k<all.length/\u k=i
 hd:i∈q
 dn:∀k,k<all.length->done[k]? =some (decide<|u k<i\/k∈q)
 ow:own.map some=q.map (λk=>all[k]?)
theorem BI.OI{all:List aH}{u:Nat->Nat}{i:Nat}{q:List Nat}{done:List Bool}{own:List aH}(h:BI all u i q done own):own.length=q.length:=by
 have:=congrArg List.length h.ow;rwa[cE,cE]at this
theorem BI.w5{all:List aH}{u:Nat->Nat}{i:Nat}{q:List Nat}{done:List Bool}{own:List aH}(h:BI all u i q done own):q.length<=all.length:=by
 have:=fS h.nd (m:=List.range all.length) (λk hk=>by rw[oH];exact(h.lt k hk).1);rwa[List.length_range]at this
theorem BI.at_{all:List aH}{u:Nat->Nat}{i:Nat}{q:List Nat}{done:List Bool}{own:List aH}(h:BI all u i q done own){p k:Nat}(hk:q[p]? =some k):own[p]? =all[k]? :=by
 have e:=congrArg (λl=>l[p]?) h.ow;simp only[eR,hk,Option.map_some]at e
 cases ho:own[p]? with
 |none=>rw[ho]at e;cases e
 |some x=>rw[ho]at e;injection e
theorem BI.mem{all:List aH}{u:Nat->Nat}{i:Nat}{q:List Nat}{done:List Bool}{own:List aH}(h:BI all u i q done own){r:aH}:r∈own↔∃k∈q,all[k]? =some r:=by
 have:r∈own↔some r∈own.map some:=by simp
 rw[this,h.ow,dD]
theorem Gj{s:List aA}{u:Nat->Nat}{ps:List (List aA)}(hc:fM (s.map cH))(hP:tg s u ps)(hn:(aS s).length<=2000)(hok:∀r∈aS s,CY r)(hps:∀p∈ps,(aS p).length<=2000)(hN:4398046511104<=N):
  gk N (aS s)=some (ps.map aS):=by
 refine RD ?_;have hB:=rH hc;have hpos:=uC hc;have hJ:=hP.join;have hlen:=hP.len;have heach:=hP.each;clear hP hc;generalize aS s=all at *;unfold gk;refine QD (qo false (by omega)) ?_;have hadj:∀a b,(zJ all a b\/zJ all b a)->u a=u b:=λa b h=>h.elim (λh=>hJ.co a b h)<|λh=>(hJ.co b a h).symm
 refine QJ (Rw (n:=all.length) (λst=>st.2.2) (λi st=>st.1.length=all.length/\(∀k,k<all.length->st.1[k]? =some (decide (u k<i)))/\st.2.1=(ps.take (bT i u).length).map aS) (Go:=λst=>st.2.1=ps.map aS) (Rt:=λ_=>False) ?_ ?_ (dJ _) rfl
  ⟨by simp,λk hk=>by simp[hk],by simp[bT]⟩ (by omega)) ?_
 ·rintro i⟨done,out,ii⟩hi e⟨hdl,hdn,hout⟩;dsimp only at e hdl hdn hout ⊢;subst e;rw[j8 hi,aK];refine QU (hdn i hi)<|Q8 (λhb=>?_)<|λhb=>?_
  ·have hlt:u i<i:=of_decide_eq_true hb;refine Q4 ⟨bL (by omega),hdl,λk hk=>?_,?_⟩
   ·rw[hdn k hk];congr 1;rw[decide_eq_decide];have hne:u k≠i:=λe=>by have:=hJ.rr k hk;rw[e]at this;omega
    omega
   ·rw[gV,aF (by omega)];exact hout
  ·have hge:¬u i<i:=of_decide_eq_false hb;have hui:u i=i:=by have:=hJ.le i hi;omega
   have hx:all[i]? =some all[i]:=aQ hi;refine QU (hdn i hi)<|QU hx ?_
   refine QJ (RJ (Go:=λst=>st.1.length=all.length/\(∀k,k<all.length->st.1[k]? =some (decide (u k<i+1)))/\(∀r,r∈st.2.1↔r∈oF all all.length u i)/\st.2.1.length<=all.length) (Rt:=λ_=>False)
    (λst=>∃(q:List Nat)(t:Nat),st.2.2=((t:Nat):Int)/\t<=q.length/\BI all u i q st.1 st.2.1/\∀(p k j:Nat),p<t->q[p]? =some k->j<all.length->(zJ all k j\/zJ all j k)->j∈q)
    (λst=>all.length+1 - st.2.2.toNat) ?_ ⟨[i],0,rfl,by simp,?_,λp k j hp=>by omega⟩ (by simp;omega)) ?_
   ·rintro⟨d1,o1,t'⟩⟨q,t,e,ht,hI,hcl⟩;dsimp only at e hI ⊢;subst e;have hql:=hI.w5;have hol:=hI.OI
    by_cases hlt:t<q.length
    ·rw[j8 (by omega:t<o1.length),aK];have hqt:q[t]? =some q[t]:=aQ hlt;have hkt:=hI.lt _<|cC hlt
     have hya:all[q[t]]? =some all[q[t]]:=aQ hkt.1
     refine QJ (Rw (n:=all.length) (λst=>st.2.2) (λj st=>∃q',q <+:q'/\BI all u i q' st.1 st.2.1/\∀j',j'<j->(zJ all q[t] j'\/zJ all j' q[t])->j'∈q')
      (Go:=λst=>∃q',q <+:q'/\BI all u i q' st.1 st.2.1/\∀j',j'<all.length->(zJ all q[t] j'\/zJ all j' q[t])->j'∈q') (Rt:=λ_=>False) ?_ ?_ (dJ _) rfl ⟨q,List.prefix_refl _,hI,λj' hj=>by omega⟩ (by omega)) ?_
     ·rintro j⟨d2,o2,jj⟩hj e⟨q',hpre,hI',hc'⟩;dsimp only at e hI' ⊢;subst e;rw[j8 hj,aK];have hq't:q'[t]? =some q[t]:=by rw[Ao hpre hqt]
      have hy2:o2[t]? =some all[q[t]]:=by rw[hI'.at_ hq't];exact hya
      have hz:all[j]? =some all[j]:=aQ hj;have htc:=Jd hB hpos hya hz;have hcond:((idx d2 ((j:Nat):Int)).bind λx1054=>bif(!x1054)then((idx o2 ((t:Nat):Int)).bind λx1056=>(idx all ((j:Nat):Int)).bind λx1058=>(jA N x1056 x1058).bind λx1061=>some x1061)else some false)=some (!decide (u j<i\/j∈q')&&decide (CJ all[q[t]] all[j])):=by
       rw[dC<|hI'.dn j hj,aB]
       cases decide (u j<i\/j∈q')with
       |true=>rfl
       |false=>rw[oK,aK,dC hy2,aB,dC hz,aB,Je (hok _ (cC hkt.1)) (hok _ (cC hj)),aB,Bool.true_and]
      refine QD hcond ?_;refine QJ (P:=λst:List Bool×List aH=>∃q',q <+:q'/\BI all u i q' st.1 st.2/\∀j',j'<j+1->(zJ all q[t] j'\/zJ all j' q[t])->j'∈q') (Q8 (λhb=>?_)<|λhb=>?_)<|λst hst=>Q4 ⟨bL (by omega),hst⟩
      ·rw[bY,Bool.not_eq_true',decide_eq_false_iff_not,bP]at hb;have hju:u j=i:=by
        rcases htc.1 hb.2 with h|h
        ·rw[<-h];exact hkt.2
        ·rw[<-hadj _ _ h];exact hkt.2
       have hjq:j∉q':=λh=>hb.1<|.inr h
       have hol2:=hI'.OI;have hql2:=hI'.w5;refine QU (hI'.dn j hj)<|QU hz<|Rp (by simp only[cS,List.length_nil];omega)<|QC ⟨q'++[j],hpre.trans<|List.prefix_append _ _,⟨?_,?_,?_,?_,?_,?_⟩,?_⟩
       ·rw[jk];exact hI'.len
       ·rw[List.nodup_append];exact⟨hI'.nd,by simp,λa ha b hb=>by simp at hb;subst hb;exact λe=>hjq<|e▸ha⟩
       ·intro k hk
        rcases dI.1 hk with hk|hk
        ·exact hI'.lt k hk
        ·simp at hk;subst hk;exact⟨hj,hju⟩
       ·exact List.mem_append_left _ hI'.hd
       ·intro k hk;rw[cB,fE]
        by_cases e:j=k
        ·subst e;rw[aC rfl,aC (by rw[hI'.len];exact hj)];congr 1;exact(bJ<|.inr (by simp)).symm
        ·rw[aF e,hI'.dn k hk];congr 1;rw[decide_eq_decide,dI];simp only[oI];constructor
         ·exact λh=>h.elim .inl<|λh=> .inr<|.inl h
         ·exact λh=>h.elim .inl<|λh=>h.elim .inr<|λh=>absurd h.symm e
       ·rw[dG,dG,hI'.ow];simp[hz]
       ·intro j' hj' ha
        by_cases e:j'=j
        ·subst e;simp
        ·exact List.mem_append_left _<|hc' j' (by omega) ha
      ·refine QC ⟨q',hpre,hI',λj' hj' ha=>?_⟩
       by_cases e:j'=j
       ·subst e;have hj2:u j'=i:=by rw[<-hadj _ _ ha];exact hkt.2
        rw[bJ<|htc.2<|.inr ha,Bool.and_true,Bool.not_eq_false',bP]at hb
        rcases hb with hb|hb
        ·omega
        ·exact hb
       ·exact hc' j' (by omega) ha
     ·rintro⟨d2,o2,jj⟩e hI2;dsimp only at e hI2 ⊢;subst e;rw[l8,aM];exact Q9 hI2
     intro o ho;refine Ra ho ?_<|λr hr=>hr.elim
     rintro⟨d2,o2,jj⟩⟨q',hpre,hI',hc'⟩;dsimp only at hI' ⊢;refine Q4 ⟨⟨q',t+1,bL (by omega),?_,hI',λp k j hp hk hj ha=>?_⟩,?_⟩
     ·have:=hpre.length_le;omega
     ·by_cases e:p=t
      ·subst e;rw[Ao hpre hqt]at hk;injection hk with hk;subst hk
       exact hc' j hj ha
      ·have hpq:q[p]? =some (q[p]'(by omega)):=aQ _;rw[Ao hpre hpq]at hk;injection hk with hk;subst hk
       exact hpre.subset<|hcl p _ j (by omega) hpq hj ha
     ·rw[bL (by omega)];simp only[cB];omega
    ·rw[wB (by omega:o1.length<=t),aM];have htq:t=q.length:=by omega
     have hcls:∀k,k<all.length->(k∈q↔u k=i):=λk hk=>⟨λh=>(hI.lt k h).2,λh=>by
      have hstep:∀a b,zJ all a b->(a∈q↔b∈q):=λa b hab=>by
       have hab':=hab;obtain⟨ra,rb,e1,e2,_⟩:=hab';have hla:=(aZ.1 e1).1;have hlb:=(aZ.1 e2).1;constructor
       ·intro h';obtain⟨p,hp⟩:=dN h';exact hcl p a b (by rw[htq];exact(aZ.1 hp).1) hp hlb<|.inl hab
       ·intro h';obtain⟨p,hp⟩:=dN h';exact hcl p b a (by rw[htq];exact(aZ.1 hp).1) hp hla<|.inr hab
      exact hJ.fi (λk=>k∈q) hstep i k hi hk (by rw[hui,h]) hI.hd⟩
     refine Q9 ⟨hI.len,λk hk=>?_,λr=>?_,by rw[hol];exact hql⟩
     ·rw[hI.dn k hk];congr 1;rw[decide_eq_decide,hcls k hk];omega
     ·rw[hI.mem,mE];constructor
      ·rintro⟨k,hk,h⟩;exact⟨k,(hI.lt k hk).1,(hI.lt k hk).2,h⟩
      ·rintro⟨k,hk,h1,h2⟩;exact⟨k,(hcls k hk).2 h1,h2⟩
   ·refine⟨by rw[jk];exact hdl,by simp,λk hk=>by simp at hk;subst hk;exact⟨hi,hui⟩,by simp,λk hk=>?_,by simp[hx]⟩;rw[cB,fE]
    by_cases e:i=k
    ·subst e;rw[aC rfl,aC (by rw[hdl];exact hi)];congr 1;exact(bJ<|.inr (by simp)).symm
    ·rw[aF e,hdn k hk];congr 1;rw[decide_eq_decide];simp only[oI];omega
   intro o ho;refine Ra ho ?_<|λr hr=>hr.elim
   rintro⟨d1,o1,t'⟩⟨g1,g2,g3,g4⟩;dsimp only at g1 g2 g3 g4 ⊢;have hh:=Kr hi hui;have hml:(bT i u).length<ps.length:=by rw[hlen];exact(aZ.1 hh).1
   have hpp:ps[(bT i u).length]? =some ps[(bT i u).length]:=aQ hml;have nN:=heach _ _ _ hh hpp;have hcov:∀x y,vL (ps[(bT i u).length].map cH) x y=ue o1 x y:=λx y=>by rw[nN.cover];exact(K7 g3 x y).symm
   have hpl:=hps _<|cC hml
   refine QD (vg nN.can hcov (by omega) (λr hr=>?_) (by omega) hN) ?_
   ·obtain⟨k,_,_,hk⟩:=mE.1<|(g3 r).1 hr
    exact(hpos r<|eL hk).1
   have hfirst:∀(j h:Nat)p,(bT all.length u)[j]? =some h->ps[j]? =some p->∃r t a,aS p=r::t/\all[h]? =some a/\r.X0=a.X0/\r.Y0=a.Y0:=λj h p hj hp=>by
    have hs:=heach j h p hj hp;obtain⟨hhl,hhu⟩:=jR.1<|eL hj
    have ha:all[h]? =some all[h]:=aQ hhl;have hne:p≠[]:=λe=>by
     have hL:=(DN hB hpos hJ ha hhu).1;rw[<-hs.cover,e]at hL
     cases hL
    obtain⟨r,t,e1,e2,_⟩:=Ho hs.can hne;have e2':vh (ue<|oF all all.length u h) r.X0 r.Y0:=⟨by rw[<-hs.cover];exact e2.1,λx' y' hxy=>e2.2 x' y' (by simp only;rw[hs.cover];exact hxy)⟩;obtain⟨e3,e4⟩:=e2'.unique<|DN hB hpos hJ ha hhu
    exact⟨r,t,all[h],e1,ha,e3,e4⟩
   obtain⟨r,t,a,e1,e2,e3,e4⟩:=hfirst _ _ _ hh hpp;have hheads:(bT i u).length<=i:=lZ i u;rw[e1];refine QD (insert_eq (by rw[hout,cE,cQ];omega) hN<|λx hxl=>?_)<|Q4 ⟨bL (by omega),g1,g2,?_⟩
   ·have hol:out.length=(bT i u).length:=by rw[hout,cE,cQ];omega
    have hpos2:0<(bT i u).length:=by
     have:=(aZ.1 hxl).1;omega
    rw[hout,eR,cE,cQ,show min (bT i u).length ps.length=(bT i u).length by omega,List.getElem?_take_of_lt (by omega)]at hxl;have hp2:ps[(bT i u).length - 1]? =some (ps[(bT i u).length - 1]'(by omega)):=aQ _;rw[hp2]at hxl;injection hxl with hxl
    have hh2:(bT i u)[(bT i u).length - 1]? =some ((bT i u)[(bT i u).length - 1]'(by omega)):=aQ _;have hm2:=jR.1<|eL hh2
    obtain⟨tl,htl⟩:=vj (u:=u) (all.length - i) i;rw[show i+(all.length - i)=all.length by omega]at htl;have hh3:(bT all.length u)[(bT i u).length - 1]? =some ((bT i u)[(bT i u).length - 1]'(by omega)):=by rw[htl,gp (by omega)];exact hh2
    obtain⟨r',t',a',f1,f2,f3,f4⟩:=hfirst _ _ _ hh3 hp2;refine⟨r',t',by rw[<-hxl];exact f1,?_⟩;obtain⟨l1,q1⟩:=aZ.1 f2;obtain⟨l2,q2⟩:=aZ.1 e2;have hbh:=mi.1 hB _ _ l1 l2 hm2.1;rw[q1,q2]at hbh;have p1:=hpos a'<|eL f2
    unfold sJ at hbh;rw[e3,e4,f3,f4];omega
   ·dsimp only;rw[gV,aC hui,dB,hout];simp only[cS,List.length_nil];rw[eD hml,dG,dW,List.map_nil,e1]
 ·rintro⟨done,out,ii⟩e⟨_,_,hout⟩;dsimp only at e hout ⊢;subst e;rw[l8,aM];refine Q9 ?_;dsimp only;rw[hout,mh (by rw[hlen];omega)]
 intro o ho;exact Ra ho (λs hs=>QC hs)<|λr hr=>hr.elim
end
section
variable {α β:Type}
theorem Ks{N:Nat}{l:List α}{s:β}{φ:α->β->Option Int}(c:α->Int)(hφ:∀x,φ x s=some (c x))(hs:∀(i j:Nat)(x y:α),i<j->l[i]? =some x->l[j]? =some y->0<=c x->0<c y)
  (hl:l.length<=1048576) (hN:4194304<=N):∃r,JU N l s φ=some r/\r.2=l.any (λx=>c x==0)/\(r.2=true->r.1=IK l (λx=>c x==0)):=by
 show Ok (JU N l s φ) (λr=>r.2=l.any (λx=>c x==0)/\(r.2=true->r.1=IK l (λx=>c x==0)));unfold JU
 refine QJ (RJ (Go:=λst:Int×Int=>∃a:Nat,st.1=((a:Nat):Int)/\a<=l.length/\(∀j x,j<a->l[j]? =some x->c x<0)/\(∀j x,a<=j->l[j]? =some x->0<=c x)) (Rt:=λ_=>True)
  (λst=>∃a b:Nat,st=(((a:Nat):Int),((b:Nat):Int))/\a<=b/\b<=l.length/\(∀j x,j<a->l[j]? =some x->c x<0)/\(∀j x,b<=j->l[j]? =some x->0<=c x))
  (λst=>(st.2 - st.1).toNat) ?_ ⟨0,l.length,rfl,by omega,bV _,λj x hj=>by omega,λj x hj hx=>by have:=(aZ.1 hx).1;omega⟩ (by simp only;omega)) ?_
 ·rintro st⟨a,b,rfl,hab,hb,h1,h2⟩;dsimp only
  by_cases hlt:a<b
  ·have hm:(a+b) / 2<l.length:=by omega
   have hx:l[(a+b) / 2]? =some l[(a+b) / 2]:=aQ hm;rw[show decide (((a:Nat):Int)<((b:Nat):Int))=true by rw[bP];omega,aK,Dx hlt (by omega:b<=4611686018427387904)];refine QU hx<|QD (hφ _) ?_
   by_cases hc:c l[(a+b) / 2]<0
   ·rw[bJ hc,aK,aB];refine Q4 ⟨⟨(a+b) / 2+1,b,?_,by omega,hb,λj x hj hx'=>?_,h2⟩,?_⟩
    ·rw[bL (by omega)]
    ·by_cases e:j=(a+b) / 2
     ·subst e;rw[hx]at hx';injection hx' with hx';rw[<-hx'];exact hc
     ·by_cases h0:c x<0
      ·exact h0
      ·have:=hs j _ x _ (by omega) hx' hx (by omega);omega
    ·rw[bL (by omega)];simp only;omega
   ·rw[bQ hc,aM,aB];refine Q4 ⟨⟨a,(a+b) / 2,rfl,by omega,by omega,h1,λj x hj hx'=>?_⟩,by simp only;omega⟩
    by_cases e:j=(a+b) / 2
    ·subst e;rw[hx]at hx';injection hx' with hx';rw[<-hx'];omega
    ·have:=hs _ j _ x (by omega) hx hx' (by omega);omega
  ·rw[show decide (((a:Nat):Int)<((b:Nat):Int))=false by rw[decide_eq_false_iff_not];omega,aM];exact Q9 ⟨a,rfl,by omega,h1,λj x hj hx=>h2 j x (by omega) hx⟩
 intro o ho;refine Ra ho ?_<|λr hr=>r.elim
 rintro⟨st1,st2⟩⟨a,ha,hle,h1,h2⟩;dsimp only at ha ⊢;subst ha
 by_cases hlt:a<l.length
 ·have hx:l[a]? =some l[a]:=aQ hlt;rw[show decide (((a:Nat):Int)<((l.length:Nat):Int))=true by rw[bP];omega,aK,dC hx,aB,hφ,aB,aB];refine QC ?_
  by_cases he:c l[a]=0
  ·have hb:(c l[a]==0)=true:=by rw[beq_iff_eq];exact he
   rw[hb];refine⟨(kR.2 ⟨_,cC hlt,hb⟩).symm,λ_=>?_⟩;rw[FK hx hb (λj y hj hy=>by have:=h1 j y hj hy;rw[beq_eq_false_iff_ne];omega)]
  ·have hb:(c l[a]==0)=false:=by rw[beq_eq_false_iff_ne];exact he
   rw[hb];refine⟨?_,λh=>by cases h⟩;symm;rw[List.any_eq_false];intro x hx';obtain⟨j,hj⟩:=dN hx';rw[jr,beq_eq_false_iff_ne]
   by_cases hja:j<a
   ·have:=h1 j x hja hj;omega
   ·by_cases e:j=a
    ·subst e;rw[hx]at hj;injection hj with hj;rw[<-hj];exact he
    ·have h3:=h2 a _ (bV _) hx;have:=hs a j _ x (by omega) hx hj h3;omega
 ·rw[show decide (((a:Nat):Int)<((l.length:Nat):Int))=false by rw[decide_eq_false_iff_not];omega,aM,aB];refine QC ⟨?_,λh=>by cases h⟩;symm;rw[List.any_eq_false];intro x hx';obtain⟨j,hj⟩:=dN hx';have:=(aZ.1 hj).1;have:=h1 j x (by omega) hj;rw[jr,beq_eq_false_iff_ne];omega
end
def Ap(p q:eE):Prop:=fz.lt p.Part q.Part\/(p.Part=q.Part/\fz.lt p.eE q.eE)
theorem Ii{p q:eE}(h1:p.Part=q.Part)(h2:p.eE=q.eE):p=q:=by cases p;cases q;simp at h1 h2;subst h1;subst h2;rfl
theorem Ap.irrefl(p:eE):¬Ap p p:=λh=>by
 rcases h with h|⟨_,h⟩
 ·exact fz.lt_irrefl _ h
 ·exact fz.lt_irrefl _ h
theorem Ap.trans{p q r:eE}(h1:Ap p q)(h2:Ap q r):Ap p r:=by
 rcases h1 with h1|⟨e1,h1⟩ <;> rcases h2 with h2|⟨e2,h2⟩
 ·exact .inl<|fz.lt_trans h1 h2
 ·exact .inl (by rw[<-e2];exact h1)
 ·exact .inl (by rw[e1];exact h2)
 ·exact .inr ⟨e1.trans e2,fz.lt_trans h1 h2⟩
theorem Ap.total(p q:eE):Ap p q\/p=q\/Ap q p:=by
 rcases fz.FI p.Part q.Part with h|h|h
 ·exact .inl<|.inl h
 ·rcases fz.FI p.eE q.eE with h'|h'|h'
  ·exact .inl<|.inr ⟨h,h'⟩
  ·exact .inr<|.inl<|Ii h h'
  ·exact .inr<|.inr<|.inr ⟨h.symm,h'⟩
 ·exact .inr<|.inr<|.inl h
theorem Ap.asymm{p q:eE}(h:Ap p q):¬Ap q p:=λh'=>Ap.irrefl p<|h.trans h'
theorem Ap.ne{p q:eE}(h:Ap p q):p≠q:=λe=>by subst e;exact Ap.irrefl _ h
theorem uD{a b:fz}:Lib.compareBytes a.dP b.dP=0↔a=b:=⟨λh=>fz.ext'<|(yb _ _).1 h,λh=>(yb _ _).2 (by rw[h])⟩
theorem pP{p q:eE}:kh p q=0↔p=q:=by
 unfold kh
 by_cases h:Lib.compareBytes p.Part.dP q.Part.dP=0
 ·rw[aF (by simpa using h),uD];exact⟨λh'=>Ii (uD.1 h) h',λh'=>by rw[h']⟩
 ·rw[aC h];exact⟨λh'=>absurd h' h,λh'=>absurd (uD.2 (by rw[h'])) h⟩
theorem yq{p q:eE}:kh p q<0↔Ap p q:=by
 unfold kh Ap
 by_cases h:Lib.compareBytes p.Part.dP q.Part.dP=0
 ·rw[aF (by simpa using h),ya];have e:=uD.1 h;constructor
  ·exact λh'=> .inr ⟨e,h'⟩
  ·rintro(h'|⟨_,h'⟩)
   ·rw[e]at h';exact absurd h'<|fz.lt_irrefl _
   ·exact h'
 ·rw[aC h,ya];constructor
  ·exact λh'=> .inl h'
  ·rintro(h'|⟨e,_⟩)
   ·exact h'
   ·exact absurd (uD.2 e) h
theorem yr{p q:eE}:0<kh p q↔Ap q p:=by
 constructor
 ·intro h
  rcases Ap.total p q with h'|h'|h'
  ·have:=yq.2 h';omega
  ·have:=pP.2 h';omega
  ·exact h'
 ·intro h
  by_cases h1:kh p q<0
  ·exact absurd (yq.1 h1) h.asymm
  ·by_cases h2:kh p q=0
   ·exact absurd (pP.1 h2).symm h.ne
   ·omega
section
variable {N:Nat}
structure Hp (a:jT) (x:eP):Prop where
 name:oj x.Part=true/\isWord x.eE=true
 OE:0<=x.dL/\x.dL<((a.aJ.length:Nat):Int)
 at_:sD x.At=true
structure uE (a:jT):Prop where
 w5:a.bN.length<=1000
 each:∀x∈a.bN,Hp a x
 up:a.bN.Pairwise (λx y=>Ap (kq x)<|kq y)
theorem EA{a:jT}{k:Nat}{x:eP}(hx:a.bN[k]? =some x)(h:kU a k=none):Hp a x/\∀y,0<k->a.bN[k - 1]? =some y->Ap (kq y) (kq x):=by
 unfold kU at h;rw[hx,Option.bind_some]at h;split at h
 ·rename_i h1;split at h
  ·rename_i h2;split at h
   ·cases h
   ·rename_i h3;rw[bY]at h1 h2;unfold gu at h2;rw[bY,bP,bP]at h2;refine⟨⟨h1,⟨by omega,by omega⟩,h2.2⟩,λy hk hy=>?_⟩;have h4:¬kh (kq x) (kq y)<=0:=λh4=>h3 ⟨hk,y,hy,h4⟩;exact yr.1 (by omega)
  ·cases h
 ·cases h
theorem CK{a:jT}{k:Nat}{e:Int}(h:kU a k=some e):e≠0:=by
 unfold kU at h
 cases hx:a.bN[k]? with
 |none=>rw[hx]at h;cases h
 |some x=>
  rw[hx,Option.bind_some]at h
  repeat' split at h
  all_goals first|(injection h with h;omega)|cases h
theorem Jf{a:jT}(h:nK a=0):uE a:=by
 unfold nK at h;split at h
 ·omega
 rename_i hl;have hn:xh a.bN.length (kU a)=none:=by
  cases hf:xh a.bN.length (kU a)with
  |none=>rfl
  |some e=>
   rw[hf]at h;obtain⟨k,_,hk,_⟩:=qg.1 hf;exact absurd h<|CK hk
 rw[o9]at hn;have hg:∀(k:Nat)x,a.bN[k]? =some x->Hp a x/\∀y,0<k->a.bN[k - 1]? =some y->Ap (kq y) (kq x):=λk x hx=>EA hx<|hn k (aZ.1 hx).1
 refine⟨by omega,λx hx=>?_,?_⟩
 ·obtain⟨k,hk⟩:=dN hx;exact(hg k x hk).1
 ·have hstep:∀(n i:Nat)x y,a.bN[i]? =some x->a.bN[i+n+1]? =some y->Ap (kq x) (kq y):=by
   intro n
   induction n with
   |zero=>intro i x y hx hy;exact(hg (i+1) y hy).2 x (by omega) hx
   |succ n ih=>
    intro i x y hx hy;have hz:i+n+1<a.bN.length:=by have:=(aZ.1 hy).1;omega
    have h1:=ih i x _ hx<|aQ hz
    exact h1.trans<|(hg (i+(n+1)+1) y hy).2 _ (by omega) (by rw[show i+(n+1)+1 - 1=i+n+1 by omega];exact aQ hz)
  rw[mi];intro i j hi hj hij;exact hstep (j - i - 1) i _ _ (aQ hi) (by rw[show i+(j - i - 1)+1=j by omega];exact aQ hj)
theorem uE.inj{a:jT}(h:uE a){i j:Nat}{x y:eP}(hx:a.bN[i]? =some x)(hy:a.bN[j]? =some y)(e:kq x=kq y):i=j:=by
 obtain⟨h1,rfl⟩:=aZ.1 hx;obtain⟨h2,rfl⟩:=aZ.1 hy;have hp:=mi.1 h.up
 rcases Nat.lt_trichotomy i j with h3|h3|h3
 ·exact absurd e (hp i j h1 h2 h3).ne
 ·exact h3
 ·exact absurd e.symm (hp j i h2 h1 h3).ne
theorem Gl{l:List eP}{p:eE}(hu:l.Pairwise (λx y=>Ap (kq x)<|kq y))(hl:l.length<=1048576)(hN:4194304<=N){φ:eP->eE->Option Int}(hφ:∀x,φ x p=some (kh (kq x) p)):
  ∃r,JU N l p φ=some r/\(bif(!r.2)then some (-1)else some r.1)=some (IK l<|λx=>decide<|kq x=p):=by
 obtain⟨r,h1,h2,h3⟩:=Ks (N:=N) (l:=l) (s:=p) (φ:=φ) (λx=>kh (kq x) p) hφ (λi j x y hij hx hy hc=>by
  obtain⟨g1,rfl⟩:=aZ.1 hx;obtain⟨g2,rfl⟩:=aZ.1 hy;have hlt:=mi.1 hu i j g1 g2 hij;refine yr.2 ?_
  by_cases h0:kh (kq l[i]) p=0
  ·rw[<-pP.1 h0];exact hlt
  ·exact(yr.1 (by omega)).trans hlt) hl hN
 have e:(λx=>kh (kq x) p==0)=(λx=>decide<|kq x=p):=by
  funext x;rw[eT,beq_iff_eq,bP,pP]
 rw[e]at h2 h3;refine⟨r,h1,?_⟩
 cases hr:r.2 with
 |true=>simp only[kQ,aM];rw[h3 hr]
 |false=>
  simp only[oK,aK];rw[hr]at h2;rw[FJ h2.symm]
def jC(a:jT)(p:eE):Int:=IK a.bN<|λx=>decide<|kq x=p
theorem tk(a:jT)(p:eE):(jC a p = -1/\∀x∈a.bN,kq x≠p)\/∃(k:Nat)(x:eP),jC a p=((k:Nat):Int)/\a.bN[k]? =some x/\kq x=p:=by
 rcases wQ a.bN (λx=>decide<|kq x=p)with⟨h1,h2⟩|⟨k,x,h1,h2,h3,_⟩
 ·exact .inl ⟨h1,λx hx=>of_decide_eq_false<|h2 x hx⟩
 ·exact .inr ⟨k,x,h1,h2,of_decide_eq_true h3⟩
end
theorem wE{α β:Type}{l:List α}{f:α->Option β}{k:Nat}{x:α}{c:β}(hx:l[k]? =some x)(hn:∀(j:Nat)y,j<k->l[j]? =some y->f y=none)(hc:f x=some c):l.findSome? f=some c:=by
 obtain⟨hk,rfl⟩:=aZ.1 hx;rw[List.findSome?_eq_some_iff];refine⟨l.take k,l[k],l.drop<|k+1,?_,hc,λy hy=>?_⟩
 ·rw[List.getElem_cons_drop,List.take_append_drop]
 ·obtain⟨j,hj⟩:=dN hy;have hjk:j<k:=by have:=(aZ.1 hj).1;rw[cQ]at this;omega
  exact hn j y hjk (by rw[List.getElem?_take_of_lt hjk]at hj;exact hj)
theorem AW{α β:Type}{l:List α}{f:α->Option β}(h:∀(j:Nat)y,j<l.length->l[j]? =some y->f y=none):l.findSome? f=none:=by
 rw[List.findSome?_eq_none_iff];intro x hx;obtain⟨j,hj⟩:=dN hx;exact h j x (aZ.1 hj).1 hj
section
variable {N:Nat}
theorem OJ(c:UInt8):(bif(!(((decide (((c.toNat:Nat):Int)>=97)&&decide (((c.toNat:Nat):Int)<=122))||(decide (((c.toNat:Nat):Int)>=65)&&decide (((c.toNat:Nat):Int)<=90)))||(decide (((c.toNat:Nat):Int)>=48)&&decide (((c.toNat:Nat):Int)<=57))))then((iu N (⟨[95,43,45,35]⟩) ((c.toNat:Nat):Int)).bind λx50=>some<|decide<|x50<0)else some false)=some (FW c):=by
 rw[u9,aB];unfold FW;generalize decide (Lib.indexByte (⟨[95,43,45,35]⟩:fz).dP c<0)=p;have e:(!(((decide (((c.toNat:Nat):Int)>=97)&&decide (((c.toNat:Nat):Int)<=122))||(decide (((c.toNat:Nat):Int)>=65)&&decide (((c.toNat:Nat):Int)<=90)))||(decide (((c.toNat:Nat):Int)>=48)&&decide (((c.toNat:Nat):Int)<=57))))=(((decide (((c.toNat:Nat):Int)<65)||decide (((c.toNat:Nat):Int)>90))&&(decide (((c.toNat:Nat):Int)<97)||decide (((c.toNat:Nat):Int)>122)))&&(decide (((c.toNat:Nat):Int)<48)||decide (((c.toNat:Nat):Int)>57))):=by
  rw[eT];simp only[Bool.not_eq_true',Bool.or_eq_false_iff,Bool.and_eq_false_iff,decide_eq_false_iff_not,bY,dS,bP];omega
 rw[e]
 cases(((decide (((c.toNat:Nat):Int)<65)||decide (((c.toNat:Nat):Int)>90))&&(decide (((c.toNat:Nat):Int)<97)||decide (((c.toNat:Nat):Int)>122)))&&(decide (((c.toNat:Nat):Int)<48)||decide (((c.toNat:Nat):Int)>57)))with
 |true=>rw[aK,Bool.true_and]
 |false=>rw[aM,Bool.false_and]
theorem AX{s:fz}(h:s.dP.length<=1048576)(hN:4194304<=N):gN N s=some (isWord s):=by
 refine RD ?_;unfold gN isWord;refine QJ (Rw (n:=s.dP.length) (λs=>s) (λk _=>∀(j:Nat)x,j<k->s.dP[j]? =some x->FW x=false) (Go:=λ_=>s.dP.any FW=false) (Rt:=λr=>r=false/\s.dP.any FW=true) ?_ ?_ (dJ _) rfl (λj x hj=>by omega) (by omega)) ?_
 ·rintro k i hk e hI;subst e;rw[j8 hk,aK];refine QD (FH s k hk)<|QD (OJ _)<|Q8 (λhb=>RK ⟨rfl,kR.2 ⟨_,cC hk,hb⟩⟩)<|λhb=>Q4 ⟨bL (by omega),λj x hj hx=>?_⟩
  by_cases e:j=k
  ·subst e;rw[aQ hk]at hx;injection hx with hx;rw[<-hx];exact hb
  ·exact hI j x (by omega) hx
 ·rintro i e hI;subst e;rw[l8,aM];refine Q9 ?_;rw[List.any_eq_false];intro x hx;obtain⟨j,hj⟩:=dN hx;rw[hI j x (aZ.1 hj).1 hj];exact ka
 intro o ho;refine Ra ho (λs' hs'=>?_)<|λr hr=>QC (by rw[hr.1,hr.2];rfl)
 rw[hs'];show Ok ((some _).bind _) _;refine QC ?_;rw[oK,Bool.true_and];congr 1 <;> · rw[decide_eq_decide];omega
theorem Gm{s:fz}(h:s.dP.length<=1048576)(hN:4194304<=N):j4 N s=some (oj s):=by
 refine RD ?_;unfold j4 oj;refine QD (FY 47 h hN) ?_;have hsn:=DH s 47;refine QJ (Rw (n:=(oX s 47).length) (λs=>s) (λk _=>∀(j:Nat)x,j<k->(oX s 47)[j]? =some x->isWord x=true) (Go:=λ_=>(oX s 47).all isWord=true) (Rt:=λr=>r=false/\(oX s 47).all isWord=false) ?_ ?_ (dJ _) rfl (λj x hj=>by omega) (by omega)) ?_
 ·rintro k i hk e hI;subst e;rw[j8 hk,aK];have hx:(oX s 47)[k]? =some (oX s 47)[k]:=aQ hk;have hl:=DG<|cC hk
  refine QU hx<|QD (AX (by omega) hN)<|Q8 (λhb=>RK ⟨rfl,?_⟩)<|λhb=>Q4 ⟨bL (by omega),λj x hj hx'=>?_⟩
  ·rw[List.all_eq_false];exact⟨_,cC hk,by simpa using hb⟩
  ·by_cases e:j=k
   ·subst e;rw[hx]at hx';injection hx' with hx';rw[<-hx'];simpa using hb
   ·exact hI j x (by omega) hx'
 ·rintro i e hI;subst e;rw[l8,aM];refine Q9 ?_;rw[lG];intro x hx;obtain⟨j,hj⟩:=dN hx;exact hI j x (aZ.1 hj).1 hj
 intro o ho;refine Ra ho (λs' hs'=>QC ?_)<|λr hr=>QC (by rw[hr.1,hr.2,Bool.and_false])
 rw[hs',Bool.and_true,decide_eq_decide];omega
theorem tm(n lo hi:Int):eO N n lo hi=some (gu n lo hi):=rfl
theorem mO{b:cD}(h:ri b=true):cO N b=some (vM b):=nI (N:=N) h
theorem Aq{b:cD}:ij N b=some (m7 b).2:=by
 have e1:(bif(!(gu b.dY 1 10000))then some true else some (!(sD b.At)))=some (!ri b):=by unfold ri;cases gu b.dY 1 10000 <;> rfl
 have e2:∀n,cY N n=some (mf n):=λ_=>rfl;unfold ij m7;rw[tm,aB,AL,aB,e1,aB]
 cases hf:ri b with
 |false=>rfl
 |true=>
  rw[kQ,aM,mO hf,aB];simp only[e2,aB];unfold fY
  cases mf (vM b).X0 <;> cases mf (vM b).Y0 <;> cases mf (vM b).X1 <;> cases mf (vM b).Y1 <;> rfl
theorem MN{x y:eP}:(x.Part.uG y.Part||(x.Part.rT y.Part&&(x.eE.uG y.eE||x.eE.rT y.eE)))=decide (kh (kq x) (kq y)<=0):=by
 have hle:kh (kq x) (kq y)<=0↔Ap (kq x) (kq y)\/kq x=kq y:=by
  rw[<-yq,<-pP];omega
 rw[eT,bP,hle,dS,bY,dS,Bm,Bm];unfold Ap kq;simp only[eE.mk.injEq];constructor
 ·rintro(h|⟨h1,h2|h2⟩)
  ·exact .inl<|.inl h
  ·exact .inl<|.inr ⟨h1,h2⟩
  ·exact .inr ⟨h1,h2⟩
 ·rintro((h|⟨h1,h2⟩)|⟨h1,h2⟩)
  ·exact .inl h
  ·exact .inr ⟨h1, .inl h2⟩
  ·exact .inr ⟨h1, .inr h2⟩
theorem CL{a:jT}(hc:a.aJ.length<=1073741824)(hl:a.bN.length<=1073741824){k:Nat}{x:eP}(hx:a.bN[k]? =some x)(hn:x.Part.dP.length<=1048576/\x.eE.dP.length<=1048576)(hN:4194304<=N):jc N a ((k:Nat):Int)=some ((kU a k).getD 0):=by
 have hk:=(aZ.1 hx).1;have hw:wrap .i64 (((a.aJ.length:Nat):Int) - 1)=((a.aJ.length:Nat):Int) - 1:=fJ (by omega) (by omega);unfold jc kU;rw[dC hx,aB,Gm hn.1 hN,aB,hx,Option.bind_some];have e1:(bif(!(oj x.Part))then some true else((gN N x.eE).bind λx44=>some<|!x44))=some (!(oj x.Part&&isWord x.eE)):=by
  rw[AX hn.2 hN,aB]
  cases oj x.Part <;> rfl
 rw[e1,aB]
 cases h1:(oj x.Part&&isWord x.eE)with
 |false=>rw[oK,aK,aF ka];rfl
 |true=>
  rw[kQ,aM,aC rfl,hw,tm,aB];have e2:(bif(!(gu x.dL 0<|((a.aJ.length:Nat):Int) - 1))then some true else((gz N x.At).bind λx57=>some<|!x57))=some (!(gu x.dL 0 (((a.aJ.length:Nat):Int) - 1)&&sD x.At)):=by
   rw[AL,aB]
   cases gu x.dL 0 (((a.aJ.length:Nat):Int) - 1) <;> rfl
  rw[e2,aB]
  cases h2:(gu x.dL 0 (((a.aJ.length:Nat):Int) - 1)&&sD x.At)with
  |false=>rw[oK,aK,aF ka];rfl
  |true=>
   rw[kQ,aM,aC rfl]
   by_cases h0:0<k
   ·have hy:a.bN[k - 1]? =some (a.bN[k - 1]'(by omega)):=aQ _;rw[bJ (by omega),aK,iH h0 (by omega),dC hy,aB,MN]
    by_cases h3:kh (kq x) (kq<|a.bN[k - 1]'(by omega))<=0
    ·rw[bJ h3,aK,aC ⟨h0,_,hy,h3⟩];rfl
    ·rw[bQ h3,aM,aF (by rintro⟨_,y,hy',h4⟩;rw[hy]at hy';injection hy' with hy';subst hy';exact h3 h4)];rfl
   ·rw[bQ (by omega),aM,aF<|λh=>h0 h.1];rfl
noncomputable def mF(a:jT):Int:=if a.aJ.length=0 then 9 else if 16<a.aJ.length then 2 else match a.aJ.findSome? xA with
 |some e=>e
 |none=>if kx a.cM≠0 then kx a.cM else if 2000<a.cM.length+(a.aJ.map List.length).sum then 2 else if jG a≠0 then jG a else nK a
theorem Gn(a:jT):ly a=if mF a≠0 then mF a else if sG a then 12 else 0:=by
 unfold ly mF Kk F8
 by_cases h0:a.aJ.length=0
 ·rw[aC h0,aC h0,aC (by decide)]
 rw[aF h0,aF h0]
 by_cases h1:16<a.aJ.length
 ·rw[aC h1,aC h1,aC (by decide)]
 rw[aF h1,aF h1]
 cases hf:a.aJ.findSome? xA with
 |some e=>
  have he:e≠0:=by
   obtain⟨_,x,_,_,hx,_⟩:=List.findSome?_eq_some_iff.1 hf;unfold xA at hx;split at hx
   ·rename_i h;injection hx with hx;rw[<-hx];exact h
   ·cases hx
  dsimp only;rw[aC he]
 |none=>
  dsimp only
  by_cases h2:kx a.cM≠0
  ·rw[aC h2,aC h2,aC h2]
  rw[aF h2,aF h2]
  by_cases h3:2000<a.cM.length+(a.aJ.map List.length).sum
  ·rw[aC h3,aC h3,aC (by decide)]
  rw[aF h3,aF h3]
  by_cases h4:jG a≠0
  ·rw[aC h4,aC h4,aC h4]
  rw[aF h4,aF h4]
theorem CM{a:jT}(h:mF a=0):jG a=0:=by
 unfold mF at h
 by_cases h0:a.aJ.length=0
 ·rw[aC h0]at h;omega
 rw[aF h0]at h
 by_cases h1:16<a.aJ.length
 ·rw[aC h1]at h;omega
 rw[aF h1]at h
 cases hf:a.aJ.findSome? xA with
 |some e=>
  rw[hf]at h;have h:e=0:=h;obtain⟨_,x,_,_,hx,_⟩:=List.findSome?_eq_some_iff.1 hf;unfold xA at hx;split at hx
  ·rename_i h';injection hx with hx;rw[hx]at h';exact absurd h h'
  ·cases hx
 |none=>
  rw[hf]at h;dsimp only at h
  by_cases h2:kx a.cM≠0
  ·rw[aC h2]at h;exact absurd h h2
  rw[aF h2]at h
  by_cases h3:2000<a.cM.length+(a.aJ.map List.length).sum
  ·rw[aC h3]at h;omega
  rw[aF h3]at h
  by_cases h4:jG a≠0
  ·rw[aC h4]at h;exact absurd h h4
  ·simpa using h4
theorem Bc{a:jT}(hs:uy a)(hN:4398046511104<=N):iL N a=some (mF a):=by
 refine RD ?_;have c1:=hs.cs;have c2:=hs.out;have c3:=hs.bs;have c4:=hs.ls;unfold iL mF;refine Q8 (λh=>QC ?_)<|λh=>?_
 ·rw[aC (by have:=beq_iff_eq.1 h;omega)]
 have h0:¬a.aJ.length=0:=by rw[beq_eq_false_iff_ne]at h;omega
 rw[aF h0];refine Q8 (λh=>QC ?_)<|λh=>?_
 ·rw[aC (by have:=of_decide_eq_true h;omega)]
 have h1:¬16<a.aJ.length:=by have:=of_decide_eq_false h;omega
 rw[aF h1];have sumle:∀k,k<=a.aJ.length->((a.aJ.take k).map List.length).sum<=k*1048576:=by
  intro k
  induction k with
  |zero=>intro _;simp
  |succ k ih=>
   intro hk;have:=ih (by omega);have h2:=hs.each _<|cC (show k<a.aJ.length by omega)
   rw[eD (by omega),dG,List.sum_append];simp only[dW,List.map_nil,List.sum_cons,List.sum_nil];rw[Nat.add_mul];omega
 refine QJ (Rw (n:=a.aJ.length) (λs=>s.2) (λk s=>s.1=((a.cM.length+((a.aJ.take k).map List.length).sum:Nat):Int)/\∀(j:Nat)r,j<k->a.aJ[j]? =some r->xA r=none)
  (Go:=λs=>s.1=((a.cM.length+(a.aJ.map List.length).sum:Nat):Int)/\a.aJ.findSome? xA=none) (Rt:=λr=>a.aJ.findSome? xA=some r) ?_ ?_ (dJ _) rfl ⟨by simp,λj r hj=>by omega⟩ (by omega)) ?_
 ·rintro k⟨m,i⟩hk e⟨hm,hI⟩;dsimp only at e hm ⊢;subst e;subst hm;have hx:a.aJ[k]? =some a.aJ[k]:=aQ hk;have he:=hs.each _<|cC hk
  have hsl:=sumle k (by omega);rw[j8 hk,aK];refine QU hx<|QD (vv (by omega) hN)<|Q8 (λhb=>RK ?_)<|λhb=>QU hx<|Q4 ⟨bL (by omega),?_,λj r hj hr=>?_⟩
  ·exact wE hx hI (by unfold xA;rw[aC (by simpa using hb)])
  ·dsimp only;rw[wrap_add (by omega),eD hk,dG,List.sum_append];simp only[dW,List.map_nil,List.sum_cons,List.sum_nil];omega
  ·by_cases e:j=k
   ·subst e;rw[hx]at hr;injection hr with hr;rw[<-hr]
    unfold xA;rw[aF (by simpa using hb)]
   ·exact hI j r (by omega) hr
 ·rintro⟨m,i⟩e⟨hm,hI⟩;dsimp only at e hm ⊢;subst e;rw[l8,aM];rw[eM]at hm;exact Q9 ⟨hm,AW hI⟩
 intro o ho;refine Ra ho ?_<|λr hr=>QC (by rw[hr])
 rintro⟨m,i⟩⟨hm,hf⟩;dsimp only at hm ⊢;subst hm;rw[hf];dsimp only;refine QD (vv (by omega) hN)<|Q8 (λh=>QC ?_)<|λh=>?_
 ·rw[aC (by simpa using h)]
 rw[aF (by simpa using h)];have hmr:Ok (bif decide (((a.cM.length+(a.aJ.map List.length).sum:Nat):Int)>2000)then some true else some (decide<|((a.aL.length:Nat):Int)>500)) (λb=>b=decide (2000<a.cM.length+(a.aJ.map List.length).sum\/500<a.aL.length)):=by
  by_cases h2:2000<a.cM.length+(a.aJ.map List.length).sum
  ·rw[bJ (by omega),aK];exact QC (bJ<|.inl h2).symm
  ·rw[bQ (by omega),aM];refine QC ?_;rw[decide_eq_decide];omega
 refine QJ hmr λb hb=>?_;subst hb;refine Q8 (λh=>QC ?_)<|λh=>?_
 ·have h:=of_decide_eq_true h
  by_cases h2:2000<a.cM.length+(a.aJ.map List.length).sum
  ·rw[aC h2]
  ·rw[aF h2];have hb:jG a=2:=by unfold jG;rw[aC (by omega)]
   rw[hb,aC (by decide)]
 have h:=of_decide_eq_false h;rw[aF (by omega)];have hbe:jG a=(a.aL.findSome?<|mu a.aJ.length).getD 0:=by unfold jG;rw[aF (by omega)]
 have hw:wrap .i64 (((a.aJ.length:Nat):Int) - 1)=((a.aJ.length:Nat):Int) - 1:=fJ (by omega) (by omega);refine QJ (Rw (n:=a.aL.length) (λs=>s) (λk _=>∀(j:Nat)b,j<k->a.aL[j]? =some b->mu a.aJ.length b=none) (Go:=λ_=>a.aL.findSome? (mu a.aJ.length)=none) (Rt:=λr=>a.aL.findSome? (mu a.aJ.length)=some r/\r≠0) ?_ ?_ (dJ _) rfl (λj b hj=>by omega) (by omega)) ?_
 ·rintro k i hk e hI;subst e;rw[j8 hk,aK];have hx:a.aL[k]? =some a.aL[k]:=aQ hk;refine QU hx<|QD Aq<|Q8 (λhb=>RK ?_)<|λhb=>?_
  ·have hb:(m7 a.aL[k]).2≠0:=by simpa using hb
   exact⟨wE hx hI (by unfold mu;rw[aC hb]),hb⟩
  ·have hb:¬(m7 a.aL[k]).2≠0:=by simpa using hb
   rw[hw];have e2:((eO N a.aL[k].cV 0<|((a.aJ.length:Nat):Int) - 1).bind λx135=>bif(!x135)then some true else((eO N a.aL[k].To a.aL[k].cV<|((a.aJ.length:Nat):Int) - 1).bind λx138=>some<|!x138))=some (!(gu a.aL[k].cV 0 (((a.aJ.length:Nat):Int) - 1)&&gu a.aL[k].To a.aL[k].cV (((a.aJ.length:Nat):Int) - 1))):=by
    rw[tm,aB,tm,aB]
    cases gu a.aL[k].cV 0 (((a.aJ.length:Nat):Int) - 1) <;> rfl
   refine QD e2<|Q8 (λh3=>RK ⟨wE hx hI ?_,by decide⟩)<|λh3=>Q4 ⟨bL (by omega),λj b hj hb'=>?_⟩
   ·unfold mu;rw[aF hb,aF (by rintro⟨g1,g2⟩;rw[g1,g2]at h3;cases h3)]
   ·by_cases e:j=k
    ·subst e;rw[hx]at hb';injection hb' with hb';rw[<-hb']
     rw[Bool.not_eq_false',bY]at h3;unfold mu;rw[aF hb,aC h3]
    ·exact hI j b (by omega) hb'
 ·rintro i e hI;subst e;rw[l8,aM];exact Q9<|AW hI
 intro o ho;refine Ra ho ?_<|λr hr=>QC ?_
 rotate_left
 ·rw[hbe,hr.1,Option.getD_some,aC hr.2]
 intro _ hbn;rw[hbe,hbn,Option.getD_none,aF (by decide)];unfold nK;refine Q8 (λh=>QC ?_)<|λh=>?_
 ·rw[aC (by have:=of_decide_eq_true h;omega)]
 have h5:¬1000<a.bN.length:=by have:=of_decide_eq_false h;omega
 rw[aF h5];refine QJ (Rw (n:=a.bN.length) (λs=>s) (λk _=>∀j,j<k->kU a j=none) (Go:=λ_=>xh a.bN.length (kU a)=none) (Rt:=λr=>xh a.bN.length (kU a)=some r) ?_ ?_ (dJ _) rfl (λj hj=>by omega) (by omega)) ?_
 ·rintro k i hk e hI;subst e;rw[j8 hk,aK];have hx:a.bN[k]? =some a.bN[k]:=aQ hk;refine QD (CL (by omega) (by omega) hx (hs.nm _<|cC hk) (by omega))<|Q8 (λhb=>RK ?_)<|λhb=>Q4 ⟨bL (by omega),λj hj=>?_⟩
  ·cases hl:kU a k with
   |none=>rw[hl]at hb;cases hb
   |some e=>exact qg.2 ⟨k,hk,hl,hI⟩
  ·by_cases e:j=k
   ·subst e
    cases hl:kU a j with
    |none=>rfl
    |some e=>rw[hl]at hb;exact absurd (by simpa using hb) (CK hl)
   ·exact hI j (by omega)
 ·rintro i e hI;subst e;rw[l8,aM];exact Q9<|o9.2 hI
 intro o ho;exact Ra ho (λ_ h=>QC (by rw[h];rfl))<|λr hr=>QC (by rw[hr];rfl)
theorem vk(b:cD)(k:Int):fN N b k=some (kr b k):=rfl
theorem wF{a:jT}{i:Nat}{r:List aH}{s:List aA}(hb:k8 a.aL)(hr:a.aJ[i]? =some r)(hrl:r.length<=2000)(hro:∀x∈r,CY x)(hd:va r (kz a.aL ((i:Nat):Int)) s)(hN:4398046511104<=N):gJ N a ((i:Nat):Int)=some (aS s):=by
 refine RD ?_;have hbl:=hb.len;have hhl:=Ag hb ((i:Nat):Int);have hho:=sE hb ((i:Nat):Int);unfold gJ;refine QJ (Rw (n:=a.aL.length) (λs=>s.2) (λk st=>st.1=kz (a.aL.take k) ((i:Nat):Int)) (Go:=λst=>st.1=kz a.aL ((i:Nat):Int)) (Rt:=λ_=>False) ?_ ?_ (dJ _) rfl rfl (by omega)) ?_
 ·rintro k⟨out,ii⟩hk e hI;dsimp only at e hI ⊢;subst e;subst hI;have hx:a.aL[k]? =some a.aL[k]:=aQ hk;have hts:kz (a.aL.take<|k+1) ((i:Nat):Int)=if kr a.aL[k] ((i:Nat):Int)=true then kz (a.aL.take k) ((i:Nat):Int)++[vM a.aL[k]]else kz (a.aL.take k) ((i:Nat):Int):=by
   unfold kz;rw[eD hk,jq,dG]
   by_cases h:kr a.aL[k] ((i:Nat):Int)=true
   ·rw[aC h];simp[h]
   ·rw[aF h];simp[h]
  have hlen:(kz (a.aL.take k) ((i:Nat):Int)).length<=k:=by
   unfold kz;rw[cE];have:=kP (λb=>kr b ((i:Nat):Int))<|a.aL.take k
   rw[cQ]at this;omega
  rw[j8 hk,aK];refine QU hx<|QD (vk _ _)<|QJ (P:=λst:List aH=>st=kz (a.aL.take<|k+1) ((i:Nat):Int)) (Q8 (λh=>?_)<|λh=>QC ?_)<|λst hst=>Q4 ⟨bL (by omega),hst⟩
  ·refine QU hx<|QD (mO (hb.ok _<|cC hk).1)<|Rp (by simp only[cS,List.length_nil];omega)<|QC ?_
   rw[hts,aC h]
  ·rw[hts,aF (by rw[jr];exact h)]
 ·rintro⟨out,ii⟩e hI;dsimp only at e hI ⊢;subst e;rw[l8,aM];exact Q9 (by rw[eM]at hI;exact hI)
 intro o ho;refine Ra ho ?_<|λr hr=>hr.elim
 rintro⟨hs,ii⟩hI;dsimp only at hI ⊢;subst hI;obtain⟨t,_,ht⟩:=qj (N:=N) (l:=kz a.aL ((i:Nat):Int)) (by omega) (λx hx=>(hho x hx).1) (by omega);obtain⟨z1,z2,z3⟩:=ht.FZ;have z4:2*(kz a.aL ((i:Nat):Int)).length*(2*(kz a.aL ((i:Nat):Int)).length)<=1000*1000:=Nat.mul_le_mul (by omega) (by omega);refine QU hr<|QD (vg ht.can ht.cover (by omega) (λx hx=>(hho x hx).1.x) (by omega) hN) ?_
 unfold kT;have hsz:=(w4 (A:=5000) hd.can hd.lim (by rw[dB,mD,mD];omega) (by rw[dB,j7,j7];omega)).2.2
 have hc:hU N r (aS t) 3=some (aS s):=Gh hd.can (λx y=>by
  rw[hd.cover,ql ht.can,ht.cover];unfold sI;simp) (by omega) (by omega) (λx hx=>(hro x hx).x) (λx hx=>(uC ht.can x hx).1) (by omega) hN
 rw[hc,aB,aB];exact QC rfl
theorem w8:∀(dA:List (List<|List aA))(k:Nat),(aR k dA).length=(dA.map List.length).sum
 | [],k=>rfl
 |ps::dA,k=>by
  show(ps.map _++aR (k+1) dA).length=_;rw[dB,cE,w8 dA<|k+1,dW,List.sum_cons]
theorem Jg{a:jT}{lE:List (List aA)}{dA:List (List<|List aA)}(hg:qt a)(hD:yn a.aJ a.aL a.aJ.length lE dA){i:Nat}{s:List aA}(hi:i<a.aJ.length)(hd:lE[i]? =some s)(hf:(aS s).length<=2000):∃ps u,dA[i]? =some ps/\q9 a.aJ[i] (kz a.aL ((i:Nat):Int)) s u ps:=by
 have hp:dA[i]? =some (dA[i]'(by rw[hD.Ba];exact hi)):=aQ _;have hdr:=hD.dr i _ _ hi (aQ hi) hd;obtain⟨u,hu⟩:=hD.pt i _ _ hi hd hp;have hreg:=wA.1<|hg.Qc _<|cC hi
 exact⟨_,u,hp,λx hx=>((qp.1 hreg.1).2 x hx).1,λx hx=>(sE hg.gb _ x hx).2,(Ct hreg.1).2,λx hx=>(sE hg.gb _ x hx).1,hdr,hu,hf⟩
theorem q9.pieces{r hs:List aH}{s:List aA}{u:Nat->Nat}{ps:List (List aA)}(h:q9 r hs s u ps)(hN:4398046511104<=N):gk N (aS s)=some (ps.map aS):=by
 refine Gj h.dr.can h.pt h.w5 (λq hq=>?_) (λp hp=>(h.part hp).2.1) hN;obtain⟨h1,h2,h3⟩:=Ih h.r1 h.r2 h.dr.can h.dr.lim q hq;exact Er h1 h2 h3
theorem Hq{a b:aH}(ha:a.X0<a.X1/\a.Y0<a.Y1)(hb:b.X0<b.X1/\b.Y0<b.Y1):gA N a b=some (F7 a b):=by
 unfold gA;rw[ve,ve,vf,vf];have e1:decide (min a.X1 b.X1>max a.X0 b.X0)=zA a.X0 a.X1 b.X0 b.X1:=by
  unfold zA;rw[eT,bY,bP,bP,bP];omega
 have e2:decide (min a.Y1 b.Y1>max a.Y0 b.Y0)=zA a.Y0 a.Y1 b.Y0 b.Y1:=by
  unfold zA;rw[eT,bY,bP,bP,bP];omega
 rw[e1,e2];unfold F7
 cases zA a.X0 a.X1 b.X0 b.X1 <;> rfl
theorem sq_pos{b:cD}(h:ri b=true):(vM b).X0<(vM b).X1/\(vM b).Y0<(vM b).Y1:=by
 obtain⟨h1,_,_⟩:=th h;simp only[vM];omega
inductive Checked (N:Nat) (a:jT):Prop
 |err (e:Int) (he:e≠0) (h1:i5 N a=some (none,e)) (h2:eN N a=some e)
 |ok {lE:List (List aA)} {dA:List (List (List aA))} {r:Nat->Nat} {gs:List cP} {ofP ofB pW:List Int} {pX:List cL} (b:mw a lE dA r gs ofP ofB pW pX)
  (h1:i5 N a=some (some (a.aJ,a.cM,a.aL,a.bN,lE,aR 0 dA,dO a.aL<|aR 0 dA,gs,ofP,ofB,pW,pX),0)) (h2:eN N a=some 0)
theorem Ij{a:jT}(hb:k8 a.aL)(hN:4398046511104<=N){f:Int->Option Int}{Q:Int->Prop}(hc:sG a->Q 12)(hn:¬sG a->∀s,Ok (f s) Q):
  Ok ((iC (λ(s35:Int)=>(bif decide (s35<(a.aL.length:Int))then((iC (λ(s622:Int)=>(bif decide (s622<s35)then(((idx a.aL s35).bind λx869=>(idx a.aL s622).bind λx873=>(jd N x869 x873).bind λx876=>bif x876 then((idx a.aL s35).bind λx879=>(cO N x879).bind λx882=>(idx a.aL s622).bind λx885=>(cO N x885).bind λx888=>(gA N x882 x888).bind λx890=>some x890)else some false).bind λs867=>bif s867 then some (.rt 12)else some (.nx<|wrap .i64<|s622+1))else(some<|.br s622):Option (Fl Int Int))) N 0).bind λo911=>o911.cs (λ(s622:Int)=>some<|.nx<|wrap .i64<|s35+1)<|λr=>some<|.rt r)else(some<|.br s35):Option (Fl Int Int))) N 0).bind λo933=>o933.cs f<|λr=>some r) Q:=by
 have hbl:=hb.len;refine QJ (Rw (n:=a.aL.length) (λs=>s) (λk _=>∀(i j:Nat)(x y:cD),i<k->j<i->a.aL[i]? =some x->a.aL[j]? =some y->¬sF x y=true) (Go:=λ_=>¬sG a) (Rt:=λr=>r=12/\sG a) ?_ ?_ (dJ _) rfl (λi j x y hi=>by omega) (by omega)) ?_
 ·rintro k s hk e hI;subst e;rw[j8 hk,aK];have hx:a.aL[k]? =some a.aL[k]:=aQ hk;have fx:=(hb.ok _<|cC hk).1;refine QJ (Rw (n:=k) (λs=>s) (λt _=>∀(j:Nat)(y:cD),j<t->a.aL[j]? =some y->¬sF a.aL[k] y=true) (Go:=λ_=>∀(j:Nat)(y:cD),j<k->a.aL[j]? =some y->¬sF a.aL[k] y=true) (Rt:=λr=>r=12/\sG a) ?_ ?_ (dJ _) rfl (λj y hj=>by omega) (by omega)) ?_
  ·rintro t s ht e hI2;subst e;rw[j8 ht,aK];have hy:a.aL[t]? =some (a.aL[t]'(by omega)):=aQ _;have fy:=(hb.ok _<|cC (show t<a.aL.length by omega)).1;have hcond:((idx a.aL ((k:Nat):Int)).bind λx869=>(idx a.aL ((t:Nat):Int)).bind λx873=>(jd N x869 x873).bind λx876=>bif x876 then((idx a.aL ((k:Nat):Int)).bind λx879=>(cO N x879).bind λx882=>(idx a.aL ((t:Nat):Int)).bind λx885=>(cO N x885).bind λx888=>(gA N x882 x888).bind λx890=>some x890)else some false)=some (sF a.aL[k]<|a.aL[t]'(by omega)):=by
    rw[dC hx,aB,dC hy,aB];unfold jd sF;rw[aB]
    cases(decide (a.aL[k].cV<=(a.aL[t]'(by omega)).To)&&decide ((a.aL[t]'(by omega)).cV<=a.aL[k].To))with
    |false=>rfl
    |true=>rw[aK,aB,mO fx,aB,aB,mO fy,aB,Hq (sq_pos fx) (sq_pos fy),aB,Bool.true_and]
   refine QD hcond<|Q8 (λh=>RK ⟨rfl,k,t,_,_,ht,hx,hy,h⟩)<|λh=>Q4 ⟨bL (by omega),λj y hj hjy=>?_⟩
   by_cases e:j=t
   ·subst e;rw[hy]at hjy;injection hjy with hjy;rw[<-hjy,h];exact ka
   ·exact hI2 j y (by omega) hjy
  ·rintro s e hI2;subst e;rw[l8,aM];exact Q9 hI2
  intro o ho;refine Ra ho (λs hs=>Q4 ⟨bL (by omega),λi j x y hi hj hix hjy=>?_⟩)<|λr hr=>RK hr
  by_cases e:i=k
  ·subst e;rw[hx]at hix;injection hix with hix;rw[<-hix];exact hs j y hj hjy
  ·exact hI i j x y (by omega) hj hix hjy
 ·rintro s e hI;subst e;rw[l8,aM];refine Q9 ?_;rintro⟨i,j,x,y,hij,hx,hy,hc⟩;exact hI i j x y (aZ.1 hx).1 hij hx hy hc
 intro o ho;exact Ra ho (λs hs=>hn hs s)<|λr hr=>QC (by rw[hr.1];exact hc hr.2)
theorem checked{a:jT}(hs:uy a)(hN:4398046511104<=N):Checked N a:=by
 obtain⟨x,hx,hI⟩:=DJ (N:=N) hs hN;have hbe:=Gn a;have hcp:=Bc (N:=N) hs hN
 rcases hI with⟨he,rfl⟩|⟨h0,hg,hcl,lE,dA,D,hI⟩
 ·refine .err _ he hx<|RD ?_
  unfold eN;refine QD hcp ?_
  by_cases h:mF a≠0
  ·rw[aC h]at hbe;rw[show(mF a != 0)=true by simpa using h,aK,hbe];exact QC rfl
  ·rw[aF h]at hbe;have hp0:mF a=0:=by simpa using h
   have hc:sG a:=by
    by_cases hc:sG a
    ·exact hc
    ·rw[aF hc]at hbe;exact absurd hbe he
   rw[aC hc]at hbe;rw[hp0,show((0:Int) != 0)=false by rfl,aM];have hbo:=CM hp0;refine Ij ⟨(mN hbo).1,λb hb=>⟨((mN hbo).2 b hb).1,((mN hbo).2 b hb).2.1⟩⟩ hN (λ_=>hbe.symm)<|λh=>absurd hc h
 ·have hp0:mF a=0:=by
   by_cases h:mF a≠0
   ·rw[aC h]at hbe;rw[hbe]at h0;exact h0
   ·simpa using h
  have key:eN N a=some (if MY lE dA then 0 else 2):=by
   refine RD ?_;unfold eN;refine QD hcp ?_;rw[hp0,show((0:Int) != 0)=false by rfl,aM];refine Ij hg.gb hN (λh=>absurd h hcl)<|λ_ _=>?_
   have hc16:=hg.w5.2
   refine QJ (Rw (n:=a.aJ.length) (λs=>s.2) (λk st=>st.1=((((dA.take k).map List.length).sum:Nat):Int)/\((dA.take k).map List.length).sum<=k*2000/\∀(j:Nat)s,j<k->lE[j]? =some s->(aS s).length<=2000)
    (Go:=λst=>st.1=(((dA.map List.length).sum:Nat):Int)/\∀s∈lE,(aS s).length<=2000) (Rt:=λr=>r=2/\¬MY lE dA) ?_ ?_ (dJ _) rfl ⟨by simp,by simp,λj s hj=>by omega⟩ (by omega)) ?_
   ·rintro k⟨m,i⟩hk e⟨hm,hml,hI2⟩;dsimp only at e hm ⊢;subst e;subst hm;rw[j8 hk,aK];have hcx:a.aJ[k]? =some a.aJ[k]:=aQ hk;have hd:lE[k]? =some (lE[k]'(by rw[D.len];exact hk)):=aQ _;have hcs:=hg.cs _<|cC hk
    refine QD (wF hg.gb hcx hcs.1 hcs.2 (D.dr k _ _ hk hcx hd) hN)<|Q8 (λh=>RK ⟨rfl,λhf=>?_⟩)<|λh=>?_
    ·have:=hf.1 _<|eL hd
     have:=of_decide_eq_true h;omega
    ·have hf:(aS<|lE[k]'(by rw[D.len];exact hk)).length<=2000:=by have:=of_decide_eq_false h;omega
     obtain⟨ps,u,hp,L⟩:=Jg hg D hk hd hf;have hpl:=L.pt.w5;have hkp:k<dA.length:=by rw[D.Ba];exact hk
     have hpe:dA[k]=ps:=by rw[aQ hkp]at hp;injection hp
     refine QD (L.pieces hN)<|Q4 ⟨bL (by omega),?_,?_,λj s hj hjs=>?_⟩
     ·dsimp only;rw[cE,wrap_add (by omega),eD hkp,dG,List.sum_append,hpe];simp
     ·rw[eD hkp,dG,List.sum_append,hpe];simp only[dW,List.map_nil,List.sum_cons,List.sum_nil];rw[Nat.add_mul];omega
     ·by_cases e:j=k
      ·subst e;rw[hd]at hjs;injection hjs with hjs;rw[<-hjs];exact hf
      ·exact hI2 j s (by omega) hjs
   ·rintro⟨m,i⟩e⟨hm,hml,hI2⟩;dsimp only at e hm ⊢;subst e;rw[l8,aM];rw[mh (by rw[D.Ba];exact bV _)]at hm;refine Q9 ⟨hm,λs hs'=>?_⟩;obtain⟨j,hj⟩:=dN hs';exact hI2 j s (by have:=(aZ.1 hj).1;rw[D.len]at this;exact this) hj
   intro o ho;refine Ra ho ?_<|λr hr=>QC (by rw[hr.1,aF hr.2])
   rintro⟨m,i⟩⟨hm,hf⟩;dsimp only at hm ⊢;subst hm;have hpl:=w8 dA 0;refine Q8 (λh=>QC ?_)<|λh=>QC ?_
   ·rw[aF];rintro⟨_,h2⟩;have:=of_decide_eq_true h;omega
   ·rw[aC];exact⟨hf,by have:=of_decide_eq_false h;omega⟩
  rcases hI with⟨hf,rfl⟩|⟨hf,r,gs,ofP,ofB,pW,pX,hC,rfl⟩
  ·rw[aF hf]at key;exact .err 2 (by decide) hx key
  ·rw[aC hf]at key;exact .ok ⟨hg,hcl,D,hf,hC⟩ hx key
end
theorem Bq:∀{l m:List Int},jW l->jW m->(∀x,x∈l↔x∈m)->l=m
 | [],[],_,_,_=>rfl
 | [],b::m,_,_,h=>absurd ((h b).2 (by simp)) (by simp)
 |a::l,[],_,_,h=>absurd ((h a).1 (by simp)) (by simp)
 |a::l,b::m,hl,hm,h=>by
  have h1:a=b:=by
   have ha:=(h a).1 (by simp);have hb:=(h b).2 (by simp)
   rcases dM.1 ha with e|ha
   ·exact e
   ·rcases dM.1 hb with e|hb
    ·exact e.symm
    ·have:=hl.head b hb;have:=hm.head a ha;omega
  subst h1;rw[Bq hl.tail hm.tail λx=>?_];have hx:=h x;rw[dM,dM]at hx;constructor
  ·intro hxl
   rcases hx.1 (.inr hxl)with e|h'
   ·have:=hl.head x hxl;omega
   ·exact h'
  ·intro hxm
   rcases hx.2 (.inr hxm)with e|h'
   ·have:=hm.head x hxm;omega
   ·exact h'
theorem CN{l:List Nat}(h:l.Pairwise (· < ·)):jW (ints l):=by
 unfold jW ints;rw[List.pairwise_map];exact h.imp λh=>by omega
section
variable {N:Nat}
theorem CO{l:List Int}{c:Int}(h:jW l)(hl:l.length<=1000000000)(hN:4398046511104<=N):je N l c=some (rF l c):=by
 refine RD ?_;unfold je
 refine QJ (RJ (Go:=λs=>∃a:Nat,s=((a:Nat):Int)/\a<=l.length/\(∀(j:Nat)x,a<=j->l[j]? =some x->c<x)/\(∀x,0<a->l[a - 1]? =some x->¬c<x)) (Rt:=λ_=>False)
  (λs=>∃a:Nat,s=((a:Nat):Int)/\a<=l.length/\∀(j:Nat)x,a<=j->l[j]? =some x->c<x) (λs=>s.toNat) ?_ ⟨l.length,rfl,bV _,λj x hj hx=>by have:=(aZ.1 hx).1;omega⟩ (by simp only[cB];omega)) ?_
 ·rintro s⟨a,rfl,ha,hI⟩
  by_cases h0:0<a
  ·have hx:l[a - 1]? =some (l[a - 1]'(by omega)):=aQ _;rw[bJ (by omega),aK,iH h0 (by omega),dC hx,aB,aB];refine Q8 (λhb=>?_)<|λhb=>?_
   ·have hb:=of_decide_eq_true hb;refine Q4 ⟨⟨a - 1,rfl,by omega,λj x hj hx'=>?_⟩,by simp only[cB];omega⟩
    by_cases e:j=a - 1
    ·subst e;rw[hx]at hx';injection hx' with hx';rw[<-hx'];exact hb
    ·exact hI j x (by omega) hx'
   ·have hb:=of_decide_eq_false hb;exact Q9 ⟨a,rfl,ha,hI,λx _ hx'=>by rw[hx]at hx';injection hx' with hx';rw[<-hx'];exact hb⟩
  ·rw[bQ (by omega),aM,aB,aM];exact Q9 ⟨a,rfl,ha,hI,λx h=>absurd h h0⟩
 intro o ho;refine Ra ho ?_<|λr hr=>hr.elim
 rintro s⟨a,rfl,ha,hI,hE⟩;have hlow:∀(j:Nat)x,j<a->l[j]? =some x->x<=c:=λj x hj hx=>by
  have hy:l[a - 1]? =some (l[a - 1]'(by omega)):=aQ _;have h1:=hE _ (by omega) hy
  by_cases e:j=a - 1
  ·subst e;rw[hy]at hx;injection hx with hx;omega
  ·have:=h.lt (i:=j) (j:=a - 1) (by omega) hx hy;omega
 have hout:c∉l->rF l c=l.take a++c::l.drop a:=λhc=>by
  unfold rF;rw[aF hc]
  obtain⟨e1,e2⟩:=rE (p:=λx=>decide (x<c)) (l:=l) (k:=a) (λj x hj hx=>bJ (by
   have h1:=hlow j x hj hx;have h2:x≠c:=λe=>hc<|e▸eL hx
   omega)) (λx hx=>bQ (by have:=hI a x (bV _) hx;omega))
  rw[e1,e2]
 have hrest:c∉l->Ok ((sY l 0 ((a:Nat):Int)).bind λx61=>(app 8 ([]:List Int) x61).bind λx63=>(app 8 x63 ([c]:List Int)).bind λx66=>(sY l ((a:Nat):Int) ((l.length:Nat):Int)).bind λx68=>(app 8 x66 x68).bind λx70=>some x70) (λr=>r=rF l c):=λhc=>by
  have htk:(l.take a).length=a:=by rw[cQ];omega
  refine QD (r6 l a ha)<|Rp (by simp only[List.length_nil];omega)<|Rp (by rw[List.nil_append];simp only[cS,List.length_nil];omega)<|QD (pL l a ha)<|Rp ?_<|QC ?_
  ·rw[List.nil_append,dB,gC];simp only[cS,List.length_nil];omega
  ·rw[hout hc];simp
 by_cases h0:0<a
 ·have hx:l[a - 1]? =some (l[a - 1]'(by omega)):=aQ _;rw[bJ (by omega),aK,iH h0 (by omega),dC hx,aB,aB];refine Q8 (λhb=>QC ?_)<|λhb=>hrest ?_
  ·rw[beq_iff_eq]at hb;unfold rF;rw[aC (by rw[<-hb];exact eL hx)]
  ·rw[beq_eq_false_iff_ne]at hb;intro hc;obtain⟨j,hj⟩:=dN hc
   by_cases h1:a<=j
   ·have:=hI j c h1 hj;omega
   ·by_cases e:j=a - 1
    ·subst e;rw[hx]at hj;injection hj with hj;exact hb hj
    ·have:=h.lt (i:=j) (j:=a - 1) (by omega) hj hx;have:=hlow (a - 1) _ (by omega) hx;omega
 ·rw[bQ (by omega),aM,aB,aM];refine hrest λhc=>?_;obtain⟨j,hj⟩:=dN hc;have:=hI j c (by omega) hj;omega
theorem rI{l:List Int}{c:Int}(hl:l.length<=1099511627776)(hN:4398046511104<=N):cU N l c=some (decide<|c∈l):=by
 refine RD ?_;unfold cU;refine QJ (Rw (n:=l.length) (λs=>s) (λk _=>∀(j:Nat)x,j<k->l[j]? =some x->x≠c) (Go:=λ_=>c∉l) (Rt:=λr=>r=true/\c∈l) ?_ ?_ (dJ _) rfl (λj x hj=>by omega) (by omega)) ?_
 ·rintro k s hk e hI;subst e;rw[j8 hk,aK];have hx:l[k]? =some l[k]:=aQ hk;refine QU hx<|Q8 (λhb=>RK ⟨rfl,?_⟩)<|λhb=>Q4 ⟨bL (by omega),λj x hj hx'=>?_⟩
  ·rw[beq_iff_eq]at hb;exact hb▸cC hk
  ·by_cases e:j=k
   ·subst e;rw[hx]at hx';injection hx' with hx';rw[<-hx'];exact beq_eq_false_iff_ne.1 hb
   ·exact hI j x (by omega) hx'
 ·rintro s e hI;subst e;rw[l8,aM];refine Q9 λhc=>?_;obtain⟨j,hj⟩:=dN hc;exact hI j c (aZ.1 hj).1 hj rfl
 intro o ho;exact Ra ho (λs hs=>QC (bQ hs).symm)<|λr hr=>QC (by rw[hr.1,bJ hr.2])
theorem Kt{p q:aH}(hp:p.X0<p.X1/\p.Y0<p.Y1)(hq:q.X0<q.X1/\q.Y0<q.Y1):rC p q=decide ((0<min p.X1 q.X1 - max p.X0 q.X0/\min p.Y1 q.Y1 - max p.Y0 q.Y0=0)\/(min p.X1 q.X1 - max p.X0 q.X0=0/\0<min p.Y1 q.Y1 - max p.Y0 q.Y0)):=by
 unfold rC;rw[eT];simp only[dS,bY,bP,beq_iff_eq];constructor
 ·rintro(h|h)
  ·left;omega
  ·right;omega
 ·rintro(h|h)
  ·left;omega
  ·right;omega
theorem Lj{l:List aH}{q:aH}(hl:l.length<=1000000000)(ho:∀r∈l,CY r)(hq:CY q)(hN:4398046511104<=N):jL N l q=some (l.any<|λr=>rC r q):=by
 refine RD ?_;unfold jL;refine QJ (Rw (n:=l.length) (λs=>s) (λk _=>∀(j:Nat)x,j<k->l[j]? =some x->rC x q=false) (Go:=λ_=>l.any (λr=>rC r q)=false) (Rt:=λr=>r=true/\l.any (λr=>rC r q)=true) ?_ ?_ (dJ _) rfl (λj x hj=>by omega) (by omega)) ?_
 ·rintro k s hk e hI;subst e;rw[j8 hk,aK];have hx:l[k]? =some l[k]:=aQ hk;have hr:=ho _<|cC hk
  have hb:=Kt (p:=l[k]) (q:=q) ⟨hr.x,hr.y⟩ ⟨hq.x,hq.y⟩;have a1:=hr.s1;have a2:=hr.s2;have a3:=hr.s3;have a4:=hr.s4;have b1:=hq.s1;have b2:=hq.s2;have b3:=hq.s3;have b4:=hq.s4;unfold small at a1 a2 a3 a4 b1 b2 b3 b4;refine QU hx<|QU hx<|QU hx<|QU hx ?_
  rw[ve,ve,vf,vf,fJ (x:=min l[k].X1 q.X1 - max l[k].X0 q.X0) (by omega) (by omega),fJ (x:=min l[k].Y1 q.Y1 - max l[k].Y0 q.Y0) (by omega) (by omega)];have e:((decide (min l[k].X1 q.X1 - max l[k].X0 q.X0>0)&&(min l[k].Y1 q.Y1 - max l[k].Y0 q.Y0==0))||((min l[k].X1 q.X1 - max l[k].X0 q.X0==0)&&decide (min l[k].Y1 q.Y1 - max l[k].Y0 q.Y0>0)))=rC l[k] q:=by
   rw[hb,eT];simp only[dS,bY,bP,beq_iff_eq,gt_iff_lt]
  rw[e];refine Q8 (λh=>RK ⟨rfl,kR.2 ⟨_,cC hk,h⟩⟩)<|λh=>Q4 ⟨bL (by omega),λj x hj hx'=>?_⟩
  by_cases e:j=k
  ·subst e;rw[hx]at hx';injection hx' with hx';rw[<-hx'];exact h
  ·exact hI j x (by omega) hx'
 ·rintro s e hI;subst e;rw[l8,aM];refine Q9 ?_;rw[List.any_eq_false];intro x hx;obtain⟨j,hj⟩:=dN hx;rw[hI j x (aZ.1 hj).1 hj];exact ka
 intro o ho;exact Ra ho (λs hs=>QC hs.symm)<|λr hr=>QC (by rw[hr.1,hr.2])
theorem Ar(r:List aH)(p:jS):AM r p=ue r p.X p.Y:=by
 unfold AM ue;congr 1;funext x;rw[eT];simp only[bY,bP,ge_iff_le,and_assoc]
theorem AY{r:List aH}{p:jS}(hl:r.length<=134217728)(hr:∀x∈r,x.X0<x.X1)(hN:4398046511104<=N):fF N r p=some (AM r p):=by
 refine RD ?_;unfold fF;refine QJ (Eu hl hN) λs hs=>?_;have hsl:s.length<=r.length:=by have:=sH r p.Y;rw[<-hs,cE]at this;exact this
 refine QD (Al (by omega) hN)<|QC ?_
 rw[hs,(uB hr p.Y).2,Ar]
def Ku(bs:List cD)(pcs:List aI)(l:eP):Option cL:=match pcs.findIdx? (lx l)with
 |some k=>some ⟨false,((k:Nat):Int)⟩
 |none=>(bs.findIdx? (l4 l)).map λk=>⟨true,((k:Nat):Int)⟩
theorem Ik{bs:List cD}{pcs:List aI}{l:eP}(hd:∀b∈bs,∀p∈pcs,l4 l b=true->lx l p=true->False):Ku bs pcs l=l5 bs pcs l:=by
 unfold Ku l5
 cases h1:pcs.findIdx? (lx l)with
 |none=>cases bs.findIdx? (l4 l) <;> rfl
 |some k=>
  cases h2:bs.findIdx? (l4 l)with
  |none=>rfl
  |some j=>
   obtain⟨hk,hp,_⟩:=List.findIdx?_eq_some_iff_getElem.1 h1;obtain⟨hj,hb,_⟩:=List.findIdx?_eq_some_iff_getElem.1 h2;exact(hd _ (cC hj) _ (cC hk) hb hp).elim
theorem CP{α:Type}{l:List α}{p:α->Bool}{k:Nat}{x:α}(hx:l[k]? =some x)(hp:p x=true)(hn:∀(j:Nat)y,j<k->l[j]? =some y->p y=false):l.findIdx? p=some k:=by
 obtain⟨hk,rfl⟩:=aZ.1 hx;rw[List.findIdx?_eq_some_iff_getElem];exact⟨hk,hp,λj hj=>by rw[hn j _ hj<|aQ _];exact ka⟩
theorem CQ{α:Type}{l:List α}{p:α->Bool}(hn:∀(j:Nat)y,j<l.length->l[j]? =some y->p y=false):l.findIdx? p=none:=by
 rw[List.findIdx?_eq_none_iff];intro x hx;obtain⟨j,hj⟩:=dN hx;exact hn j x (aZ.1 hj).1 hj
theorem DO{bs:List cD}{pcs:List aI}(hb:k8 bs)(hp:pcs.length<=1000000)(hr:∀p∈pcs,p.gI.length<=1000000/\∀x∈p.gI,x.X0<x.X1)(l:eP)(hN:4398046511104<=N):
  eG N bs (pcs.map aI.dL) (pcs.map aI.gI) l=some ((Ku bs pcs l).getD ⟨false,0⟩,(Ku bs pcs l).isSome):=by
 refine RD ?_;have hbl:=hb.len;unfold eG Ku;rw[cE];refine QJ (Rw (n:=pcs.length) (λs=>s) (λk _=>∀(j:Nat)x,j<k->pcs[j]? =some x->lx l x=false) (Go:=λ_=>pcs.findIdx? (lx l)=none) (Rt:=λr=>∃k:Nat,pcs.findIdx? (lx l)=some k/\r=(⟨false,((k:Nat):Int)⟩,true)) ?_ ?_ (dJ _) rfl (λj x hj=>by omega) (by omega)) ?_
 ·rintro k s hk e hI;subst e;rw[j8 hk,aK];have hx:pcs[k]? =some pcs[k]:=aQ hk;have hlx:(pcs.map aI.dL)[k]? =some pcs[k].dL:=by rw[eR,hx];rfl
  have hrx:(pcs.map aI.gI)[k]? =some pcs[k].gI:=by rw[eR,hx];rfl
  have hrl:=hr _<|cC hk
  have hcond:((idx (pcs.map aI.dL) ((k:Nat):Int)).bind λx88=>bif x88==l.dL then((idx (pcs.map aI.gI) ((k:Nat):Int)).bind λx91=>(fF N x91 l.At).bind λx95=>some x95)else some false)=some (lx l pcs[k]):=by
   rw[dC hlx,aB,dC hrx,aB,AY (by omega) hrl.2 hN,aB];unfold lx
   cases pcs[k].dL==l.dL <;> rfl
  refine QD hcond<|Q8 (λh=>RK ⟨k,CP hx h hI,rfl⟩)<|λh=>Q4 ⟨bL (by omega),λj x hj hx'=>?_⟩
  by_cases e:j=k
  ·subst e;rw[hx]at hx';injection hx' with hx';rw[<-hx'];exact h
  ·exact hI j x (by omega) hx'
 ·rintro s e hI;subst e;rw[l8,aM];exact Q9<|CQ hI
 intro o ho;refine Ra ho ?_ (λr hr=>by obtain⟨k,h1,h2⟩:=hr;rw[h1,h2];exact QC rfl);intro _ hno;rw[hno];dsimp only;refine QJ (Rw (n:=bs.length) (λs=>s) (λk _=>∀(j:Nat)x,j<k->bs[j]? =some x->l4 l x=false) (Go:=λ_=>bs.findIdx? (l4 l)=none) (Rt:=λr=>∃k:Nat,bs.findIdx? (l4 l)=some k/\r=(⟨true,((k:Nat):Int)⟩,true)) ?_ ?_ (dJ _) rfl (λj x hj=>by omega) (by omega)) ?_
 ·rintro k s hk e hI;subst e;rw[j8 hk,aK];have hx:bs[k]? =some bs[k]:=aQ hk;have hg:=hb.ok _<|cC hk
  have hcond:((idx bs ((k:Nat):Int)).bind λx301=>bif x301.gw then((idx bs ((k:Nat):Int)).bind λx305=>(fN N x305 l.dL).bind λx308=>bif x308 then((idx bs ((k:Nat):Int)).bind λx310=>(cO N x310).bind λx313=>(fF N ([x313]:List aH) l.At).bind λx317=>some x317)else some false)else some false)=some (l4 l bs[k]):=by
   rw[dC hx,aB,aB,vk,aB,aB,mO hg.1,aB,AY (by simp) (λx hx=>by simp at hx;subst hx;exact(sq_pos hg.1).1) hN,aB];unfold l4
   cases bs[k].gw with
   |false=>rfl
   |true=>cases kr bs[k] l.dL <;> rfl
  refine QD hcond<|Q8 (λh=>RK ⟨k,CP hx h hI,rfl⟩)<|λh=>Q4 ⟨bL (by omega),λj x hj hx'=>?_⟩
  by_cases e:j=k
  ·subst e;rw[hx]at hx';injection hx' with hx';rw[<-hx'];exact h
  ·exact hI j x (by omega) hx'
 ·rintro s e hI;subst e;rw[l8,aM];exact Q9<|CQ hI
 intro o ho;exact Ra ho (λ_ h=>QC (by rw[h];rfl)) (λr hr=>by obtain⟨k,h1,h2⟩:=hr;rw[h1,h2];exact QC rfl)
end
section
variable {N:Nat}{a:jT}{lE:List (List aA)}{dA:List (List (List aA))}{r:Nat->Nat}{gs:List cP}{ofP ofB pW:List Int}{pX:List cL}
theorem zF(b:mw a lE dA r gs ofP ofB pW pX){p:aI}(hp:p∈aR 0 dA):p.gI.length<=2000/\(∀q∈p.gI,fY q=true/\q.X0<q.X1/\q.Y0<q.Y1)/\∃i:Nat,p.dL=((i:Nat):Int)/\∀x y,ue p.gI x y=true->ue (kz a.aL ((i:Nat):Int)) x y=false:=by
 obtain⟨i,ps,q,h1,h2,rfl⟩:=Ai hp;have hil:i<a.aJ.length:=by have:=(aZ.1 h1).1;rw[b.dr.Ba]at this;exact this
 obtain⟨s,ps',u,g1,g2,L⟩:=AV b hil;rw[h1]at g2;injection g2 with g2;subst g2
 obtain⟨k1,k2,k3⟩:=L.part h2;refine⟨k2,k3,i,by simp,λx y h=>?_⟩;have h3:ue (ps.flatMap aS) x y=true:=AU.2 ⟨q,h2,h⟩;rw[L.cover,L.dr.cover,bY,Bool.not_eq_true']at h3;exact h3.2
theorem Il(b:mw a lE dA r gs ofP ofB pW pX)(l:eP):∀x∈a.aL,∀p∈aR 0 dA,l4 l x=true->lx l p=true->False:=λx hx p hp h1 h2=>by
 obtain⟨_,_,i,e,hc⟩:=zF b hp;unfold l4 at h1;unfold lx at h2;rw[bY,bY,Ar]at h1;rw[bY,Ar,beq_iff_eq]at h2;have h3:=hc _ _ h2.2;rw[<-e,h2.1]at h3;obtain⟨q,hq,hxy⟩:=jy.1 h1.2.2;simp at hq;subst hq;have h4:ue (kz a.aL l.dL) l.At.X l.At.Y=true:=jy.2 ⟨vM x,dD.2 ⟨x,jo.2 ⟨hx,h1.2.1⟩,rfl⟩,hxy⟩;rw[h3]at h4;cases h4
end
structure PS (n:Nat) (r:Nat->Nat) (h:Nat) (q:List Nat) (seen:List Bool) (pieces todo:List Int):Prop where
 sl:seen.length=n
 sn:∀p,p<n->seen[p]? =some (decide<|r p<h\/p∈q)
 qn:q.Nodup
 qi:∀p∈q,p<n/\r p=h
 q0:h∈q
 td:todo=ints q
 pi:jW pieces
 pm:∀x,x∈pieces↔∃p∈q,x=((p:Nat):Int)
structure QS (n m:Nat) (tch:List (List Int)) (r:Nat->Nat) (h:Nat) (q qb:List Nat) (zy:List Int) (used:List Bool):Prop where
 ul:used.length=m
 un:∀k,k<m->used[k]? =some (decide<|k∈qb)
 bi:jW zy
 bm:∀x,x∈zy↔∃k∈qb,x=((k:Nat):Int)
 bk:∀k∈qb,k<m/\r (n+k)=h/\∀l,tch[k]? =some l->∀p:Nat,((p:Nat):Int)∈l->p∈q
theorem PS.w5{n:Nat}{r:Nat->Nat}{h:Nat}{q:List Nat}{seen:List Bool}{pieces todo:List Int}(H:PS n r h q seen pieces todo):q.length<=n/\pieces.length<=n:=by
 have h1:=fS H.qn (m:=List.range n) (λk hk=>by rw[oH];exact(H.qi k hk).1);rw[List.length_range]at h1;have h2:=fS H.pi.nodup (m:=ints q)<|λx hx=>qM.2<|(H.pm x).1 hx
 rw[gX]at h2;exact⟨h1,by omega⟩
theorem QS.w5{n m:Nat}{tch:List (List Int)}{r:Nat->Nat}{h:Nat}{q qb:List Nat}{zy:List Int}{used:List Bool}(H:QS n m tch r h q qb zy used):zy.length<=m:=by
 have h2:=fS H.bi.nodup (m:=ints (List.range m)) (λx hx=>by
  obtain⟨k,hk,e⟩:=(H.bm x).1 hx
  exact qM.2 ⟨k,oH.2 (H.bk k hk).1,e⟩)
 rwa[gX,List.length_range]at h2
theorem MO(n t:Nat)(r:Nat->Nat)(h:Nat):jW (ints<|gP n<|cls t r h):=CN<|List.Pairwise.sublist (List.filter_sublist.trans List.filter_sublist)<|List.pairwise_lt_range (n:=t)
theorem Kv(bs:List cD)(n t:Nat)(r:Nat->Nat)(h:Nat):jW (ints<|gB bs n<|cls t r h):=by
 refine CN ?_;unfold gB;rw[List.pairwise_map];have hp:(List.filter (λi=> !decide (i<n)&&uw bs (i - n))<|cls t r h).Pairwise (· < ·):=List.Pairwise.sublist (List.filter_sublist.trans List.filter_sublist)<|List.pairwise_lt_range (n:=t)
 refine hp.imp_of_mem λ{a b}ha hb hab=>?_;have h1:=(jo.1 ha).2;rw[bY,Bool.not_eq_true',decide_eq_false_iff_not]at h1;omega
theorem EB{n t:Nat}{r:Nat->Nat}{h p:Nat}:p∈gP n (cls t r h)↔p<n/\p<t/\r p=h:=by
 unfold gP;rw[jo,qs,bP];constructor
 ·rintro⟨⟨h1,h2⟩,h3⟩;exact⟨h3,h1,h2⟩
 ·rintro⟨h3,h1,h2⟩;exact⟨⟨h1,h2⟩,h3⟩
theorem As{bs:List cD}{n t:Nat}{r:Nat->Nat}{h k:Nat}:k∈gB bs n (cls t r h)↔n+k<t/\r (n+k)=h/\uw bs k=true:=by
 unfold gB;rw[dD];constructor
 ·rintro⟨i,hi,rfl⟩;rw[jo,qs,bY,Bool.not_eq_true',decide_eq_false_iff_not]at hi;have e:n+(i - n)=i:=by omega
  rw[e];exact⟨hi.1.1,hi.1.2,hi.2.2⟩
 ·rintro⟨h1,h2,h3⟩;refine⟨n+k,?_,by omega⟩;rw[jo,qs,bY,Bool.not_eq_true',decide_eq_false_iff_not,Nat.add_sub_cancel_left];exact⟨⟨h1,h2⟩,by omega,h3⟩
section
variable {N:Nat}
theorem Gp{bs:List cD}{n m:Nat}{tch:List (List Int)}{r:Nat->Nat}(hC:Es n m tch r)(hm:tch.length=m)(ht:∀l∈tch,l.length<=1073741824/\∀x∈l,∃i:Nat,i<n/\x=((i:Nat):Int))(hn:n<=1000000)(hm2:m<=1000000)
  (hpl:∀(k:Nat)l,tch[k]? =some l->l≠[]->uw bs k=true) {h:Nat} (hh:h<n) (hr:r h=h) {seen:List Bool} (hsl:seen.length=n) (hsn:∀p,p<n->seen[p]? =some (decide<|r p<h)) (hN:4398046511104<=N):
  Ok (gQ N tch ((h:Nat):Int) seen) (λx=>x.1.1=ints (gP n<|cls (n+m) r h)/\x.1.2.1=ints (gB bs n<|cls (n+m) r h)/\x.1.2.2= []/\x.2.length=n/\∀p,p<n->x.2[p]? =some (decide<|r p<h+1)):=by
 unfold gQ;refine QU (hsn h hh)<|QD (qo false (by omega)) ?_
 refine QJ (RJ (Go:=λst=>st.2.1=ints (gP n (cls (n+m) r h))/\st.2.2.1=ints (gB bs n (cls (n+m) r h))/\st.1.length=n/\∀p,p<n->st.1[p]? =some (decide (r p<h+1))) (Rt:=λ_=>False)
  (λst=>∃(q qb:List Nat)(t:Nat),st.2.2.2.2.2=((t:Nat):Int)/\t<=q.length/\PS n r h q st.1 st.2.1 st.2.2.2.2.1/\QS n m tch r h q qb st.2.2.1 st.2.2.2.1/\∀(j p k:Nat)l,j<t->q[j]? =some p->tch[k]? =some l->((p:Nat):Int)∈l->k∈qb)
  (λst=>n+1 - st.2.2.2.2.2.toNat) ?_ ⟨[h],[],0,rfl,by simp,?_,?_,λj p k l hj=>by omega⟩ (by simp;omega)) ?_
 ·rintro⟨sn,pi,bo,us,td,t'⟩⟨q,qb,t,e,htq,hP,hQ,hcl⟩;dsimp only at e hP hQ ⊢;subst e;have htl:td.length=q.length:=by rw[hP.td,gX]
  have hqf:=hP.w5
  by_cases hlt:t<q.length
  ·rw[j8 (by omega:t<td.length),aK];have hqt:q[t]? =some q[t]:=aQ hlt;have hqi:=hP.qi _<|cC hlt
   refine QJ (Rw (n:=tch.length) (λst=>st.2.2.2.2.2) (λi st=>∃q' qb',q <+:q'/\(∀k∈qb,k∈qb')/\PS n r h q' st.1 st.2.1 st.2.2.2.2.1/\QS n m tch r h q' qb' st.2.2.1 st.2.2.2.1/\∀k l,k<i->tch[k]? =some l->((q[t]:Nat):Int)∈l->k∈qb')
    (Go:=λst=>∃q' qb',q <+:q'/\(∀k∈qb,k∈qb')/\PS n r h q' st.1 st.2.1 st.2.2.2.2.1/\QS n m tch r h q' qb' st.2.2.1 st.2.2.2.1/\∀k l,tch[k]? =some l->((q[t]:Nat):Int)∈l->k∈qb') (Rt:=λ_=>False) ?_ ?_ (dJ _) rfl
    ⟨q,qb,List.prefix_refl _,λk hk=>hk,hP,hQ,λk l hk=>by omega⟩ (by omega)) ?_
   ·rintro k⟨sn1,pi1,bo1,us1,td1,i'⟩hk e⟨q1,qb1,hpre,hsub,hP1,hQ1,hc1⟩;dsimp only at e hP1 hQ1 ⊢;subst e;rw[j8 hk,aK];have hkm:k<m:=by omega
    have htk:tch[k]? =some tch[k]:=aQ hk;have htk2:=ht _<|cC hk
    have hq1t:td1[t]? =some ((q[t]:Nat):Int):=by
     rw[hP1.td];unfold ints;rw[eR,Ao hpre hqt];rfl
    have hcond:((idx us1 ((k:Nat):Int)).bind λx948=>bif x948 then some true else((idx tch ((k:Nat):Int)).bind λx950=>(idx td1 ((t:Nat):Int)).bind λx953=>(cU N x950 x953).bind λx954=>some<|!x954))=some (decide (k∈qb1)|| !decide (((q[t]:Nat):Int)∈tch[k])):=by
     rw[dC<|hQ1.un k hkm,aB,dC htk,aB,dC hq1t,aB,rI (l:=tch[k]) (c:=((q[t]:Nat):Int)) (by have:=htk2.1;omega) hN,aB]
     cases decide (k∈qb1) <;> rfl
    refine QD hcond<|Q8 (λhb=>Q4 ⟨bL (by omega),q1,qb1,hpre,hsub,hP1,hQ1,λk' l hk' hl hm'=>?_⟩)<|λhb=>?_
    ·by_cases e:k'=k
     ·subst e;rw[htk]at hl;injection hl with hl
      rw[hl,bJ hm',kQ,Bool.or_false,bP]at hb;exact hb
     ·exact hc1 k' l (by omega) hl hm'
    ·rw[Bool.or_eq_false_iff,decide_eq_false_iff_not,Bool.not_eq_false',bP]at hb;obtain⟨hkn,hqm⟩:=hb;have hrk:r (n+k)=h:=by rw[<-hC.co q[t] (n+k) ⟨k,_,htk,hqm,rfl⟩];exact hqi.2
     have hbf:=hQ1.w5;refine QU (hQ1.un k hkm)<|QD (CO hQ1.bi (by omega) hN) ?_
     refine QJ (Rw (n:=tch[k].length) (λst=>st.2.2.2) (λi st=>∃q2,q1 <+:q2/\PS n r h q2 st.1 st.2.1 st.2.2.1/\∀(j p:Nat),j<i->tch[k][j]? =some ((p:Nat):Int)->p∈q2)
      (Go:=λst=>∃q2,q1 <+:q2/\PS n r h q2 st.1 st.2.1 st.2.2.1/\∀(p:Nat),((p:Nat):Int)∈tch[k]->p∈q2) (Rt:=λ_=>False) ?_ ?_ (dJ _) rfl ⟨q1,List.prefix_refl _,hP1,λj p hj=>by omega⟩ (by omega)) ?_
     ·rintro j⟨sn2,pi2,td2,jj⟩hj e⟨q2,hpre2,hP2,hc2⟩;dsimp only at e hP2 ⊢;subst e;have hlj:tch[k][j]? =some tch[k][j]:=aQ hj;obtain⟨p,hpn,hpe⟩:=htk2.2 _<|cC hj
      rw[hpe]at hlj;have hpf:=hP2.w5;have hrp:r p=h:=by rw[hC.co p (n+k) ⟨k,_,htk,eL hlj,rfl⟩];exact hrk
      refine QU htk ?_;rw[j8 hj,aK];refine QU htk<|QU hlj<|QU (hP2.sn p hpn) ?_
      refine QJ (P:=λst:List Bool×List Int×List Int=>∃q2,q1 <+:q2/\PS n r h q2 st.1 st.2.1 st.2.2/\∀(j' p:Nat),j'<j+1->tch[k][j']? =some ((p:Nat):Int)->p∈q2) (Q8 (λhb=>?_)<|λhb=>QC ⟨q2,hpre2,hP2,λj' p' hj' hp'=>?_⟩)<|λst hst=>Q4 ⟨bL (by omega),hst⟩
      ·have hpq:p∉q2:=by
        rw[Bool.not_eq_true',decide_eq_false_iff_not]at hb;exact λh=>hb<|.inr h
       refine QU (hP2.sn p hpn)<|QD (CO hP2.pi (by omega) hN)<|Rp (by rw[hP2.td,gX];simp only[cS,List.length_nil];omega)<|QC ⟨q2++[p],hpre2.trans<|List.prefix_append _ _,⟨?_,?_,?_,?_,?_,?_,?_,?_⟩,?_⟩
       ·rw[jk];exact hP2.sl
       ·intro p' hp';rw[cB,fE]
        by_cases e:p=p'
        ·subst e;rw[aC rfl,aC (by rw[hP2.sl];exact hpn)];congr 1;exact(bJ<|.inr (by simp)).symm
        ·rw[aF e,hP2.sn p' hp'];congr 1;rw[decide_eq_decide,dI];simp only[oI];constructor
         ·exact λh=>h.elim .inl<|λh=> .inr<|.inl h
         ·exact λh=>h.elim .inl<|λh=>h.elim .inr<|λh=>absurd h.symm e
       ·rw[List.nodup_append];exact⟨hP2.qn,by simp,λa ha b hb=>by simp at hb;subst hb;exact λe=>hpq<|e▸ha⟩
       ·intro p' hp'
        rcases dI.1 hp' with hp'|hp'
        ·exact hP2.qi p' hp'
        ·simp at hp';subst hp';exact⟨hpn,hrp⟩
       ·exact List.mem_append_left _ hP2.q0
       ·dsimp only;rw[hP2.td,mg];rfl
       ·exact uz hP2.pi
       ·intro x;rw[CA,hP2.pm];constructor
        ·rintro(⟨p',h1,h2⟩|h1)
         ·exact⟨p',List.mem_append_left _ h1,h2⟩
         ·exact⟨p,by simp,h1⟩
        ·rintro⟨p',h1,h2⟩
         rcases dI.1 h1 with h1|h1
         ·exact .inl ⟨p',h1,h2⟩
         ·simp at h1;subst h1;exact .inr h2
       ·intro j' p' hj' hp'
        by_cases e:j'=j
        ·subst e;rw[hlj]at hp';injection hp' with hp'
         have:p'=p:=by omega
         subst this;simp
        ·exact List.mem_append_left _<|hc2 j' p' (by omega) hp'
      ·by_cases e:j'=j
       ·subst e;rw[hlj]at hp';injection hp' with hp'
        have:p'=p:=by omega
        subst this;rw[Bool.not_eq_false',bP]at hb
        rcases hb with hb|hb
        ·omega
        ·exact hb
       ·exact hc2 j' p' (by omega) hp'
     ·rintro⟨sn2,pi2,td2,jj⟩e⟨q2,hpre2,hP2,hc2⟩;dsimp only at e hP2 ⊢;subst e;refine QU htk ?_;rw[l8,aM];refine Q9 ⟨q2,hpre2,hP2,λp hp=>?_⟩;obtain⟨j,hj⟩:=dN hp;exact hc2 j p (aZ.1 hj).1 hj
     intro o ho;refine Ra ho ?_<|λr hr=>hr.elim
     rintro⟨sn2,pi2,td2,jj⟩⟨q2,hpre2,hP2,hc2⟩;dsimp only at hP2 ⊢;refine Q4 ⟨bL (by omega),q2,qb1++[k],hpre.trans hpre2,λk' hk'=>List.mem_append_left _<|hsub k' hk',hP2,⟨?_,?_,?_,?_,?_⟩,λk' l hk' hl hm'=>?_⟩
     ·rw[jk];exact hQ1.ul
     ·intro k' hk';rw[cB,fE]
      by_cases e:k=k'
      ·subst e;rw[aC rfl,aC (by rw[hQ1.ul];exact hkm)];congr 1;exact(bJ (by simp)).symm
      ·rw[aF e,hQ1.un k' hk'];congr 1;rw[decide_eq_decide,dI];simp only[oI];exact⟨.inl,λh=>h.elim id<|λh=>absurd h.symm e⟩
     ·exact uz hQ1.bi
     ·intro x;rw[CA,hQ1.bm];constructor
      ·rintro(⟨p',h1,h2⟩|h1)
       ·exact⟨p',List.mem_append_left _ h1,h2⟩
       ·exact⟨k,by simp,h1⟩
      ·rintro⟨p',h1,h2⟩
       rcases dI.1 h1 with h1|h1
       ·exact .inl ⟨p',h1,h2⟩
       ·simp at h1;subst h1;exact .inr h2
     ·intro k' hk'
      rcases dI.1 hk' with hk'|hk'
      ·obtain⟨h1,h2,h3⟩:=hQ1.bk k' hk';exact⟨h1,h2,λl hl p hp=>hpre2.subset<|h3 l hl p hp⟩
      ·simp at hk';subst hk';refine⟨hkm,hrk,λl hl p hp=>?_⟩;rw[htk]at hl;injection hl with hl
       exact hc2 p (by rw[hl];exact hp)
     ·by_cases e:k'=k
      ·subst e;simp
      ·exact List.mem_append_left _<|hc1 k' l (by omega) hl hm'
   ·rintro⟨sn1,pi1,bo1,us1,td1,i'⟩e⟨q1,qb1,hpre,hsub,hP1,hQ1,hc1⟩;dsimp only at e hP1 hQ1 ⊢;subst e;rw[l8,aM];exact Q9 ⟨q1,qb1,hpre,hsub,hP1,hQ1,λk l hl=>hc1 k l (aZ.1 hl).1 hl⟩
   intro o ho;refine Ra ho ?_<|λr hr=>hr.elim
   rintro⟨sn1,pi1,bo1,us1,td1,i'⟩⟨q1,qb1,hpre,hsub,hP1,hQ1,hc1⟩;dsimp only at hP1 hQ1 ⊢;refine Q4 ⟨⟨q1,qb1,t+1,bL (by omega),by have:=hpre.length_le;omega,hP1,hQ1,λj p k l hj hjp hl hm'=>?_⟩,?_⟩
   ·by_cases e:j=t
    ·subst e;rw[Ao hpre hqt]at hjp;injection hjp with hjp;subst hjp
     exact hc1 k l hl hm'
    ·have hjq:q[j]? =some (q[j]'(by omega)):=aQ _;rw[Ao hpre hjq]at hjp;injection hjp with hjp;subst hjp
     exact hsub k<|hcl j _ k l (by omega) hjq hl hm'
   ·rw[bL (by omega)];simp only[cB];omega
  ·rw[wB (by omega:td.length<=t),aM];have htq':t=q.length:=by omega
   have hclosed:∀i j,Lk n tch i j->(((i<n/\i∈q)\/∃k,k∈qb/\i=n+k)↔((j<n/\j∈q)\/∃k,k∈qb/\j=n+k)):=by
    rintro i j⟨k,l,hl,hil,rfl⟩;obtain⟨i',hi',ei⟩:=(ht l<|eL hl).2 _ hil;have:i'=i:=by omega
    subst this;constructor
    ·rintro(⟨_,h1⟩|⟨k',_,h1⟩)
     ·obtain⟨p,hp⟩:=dN h1;exact .inr ⟨k,hcl p i' k l (by rw[htq'];exact(aZ.1 hp).1) hp hl hil,rfl⟩
     ·omega
    ·rintro(⟨h1,_⟩|⟨k',h1,h2⟩)
     ·omega
     ·have:k'=k:=by omega
      subst this;exact .inl ⟨hi',(hQ.bk k' h1).2.2 l hl i' hil⟩
   have hall:∀x,x<n+m->r x=h->(x<n/\x∈q)\/∃k,k∈qb/\x=n+k:=λx hx hrx=>hC.fi _ hclosed h x (by omega) hx (by rw[hr,hrx])<|.inl ⟨hh,hP.q0⟩
   refine Q9 ⟨?_,?_,hP.sl,λp hp=>?_⟩
   ·refine Bq hP.pi (MO _ _ _ _) λx=>?_;rw[hP.pm,qM];constructor
    ·rintro⟨p,h1,h2⟩;exact⟨p,EB.2 ⟨(hP.qi p h1).1,by have:=(hP.qi p h1).1;omega,(hP.qi p h1).2⟩,h2⟩
    ·rintro⟨p,h1,h2⟩;obtain⟨g1,g2,g3⟩:=EB.1 h1
     rcases hall p g2 g3 with⟨_,g4⟩|⟨k,_,g4⟩
     ·exact⟨p,g4,h2⟩
     ·omega
   ·refine Bq hQ.bi (Kv _ _ _ _ _) λx=>?_;rw[hQ.bm,qM];constructor
    ·rintro⟨k,h1,h2⟩;obtain⟨g1,g2,g3⟩:=hQ.bk k h1;refine⟨k,As.2 ⟨by omega,g2,?_⟩,h2⟩;have hk:tch[k]? =some (tch[k]'(by omega)):=aQ _;refine hpl k _ hk λhemp=>?_;have qx:∀i j,Lk n tch i j->((i=n+k)↔(j=n+k)):=by
      rintro i j⟨k',l,hl,hil,rfl⟩;obtain⟨i',hi',ei⟩:=(ht l<|eL hl).2 _ hil;constructor
      ·intro;omega
      ·intro e;have:k'=k:=by omega
       subst this;rw[hk]at hl;injection hl with hl
       rw[<-hl,hemp]at hil;cases hil
     have:=hC.fi (λx=>x=n+k) qx (n+k) h (by omega) (by omega) (by rw[g2,hr]) rfl;omega
    ·rintro⟨k,h1,h2⟩;obtain⟨g1,g2,_⟩:=As.1 h1
     rcases hall (n+k) g1 g2 with⟨g4,_⟩|⟨k',g3,g4⟩
     ·omega
     ·have:k'=k:=by omega
      subst this;exact⟨k',g3,h2⟩
   ·rw[hP.sn p hp];congr 1;rw[decide_eq_decide];constructor
    ·rintro(h1|h1)
     ·omega
     ·have:=(hP.qi p h1).2;omega
    ·intro h1
     by_cases e:r p=h
     ·rcases hall p (by omega) e with⟨_,g4⟩|⟨k,_,g4⟩
      ·exact .inr g4
      ·omega
     ·exact .inl (by omega)
 ·refine⟨by rw[jk];exact hsl,λp hp=>?_,by simp,λp hp=>by simp at hp;subst hp;exact⟨hh,hr⟩,by simp,rfl,List.pairwise_singleton _ _,λx=>by simp⟩;rw[cB,fE]
  by_cases e:h=p
  ·subst e;rw[aC rfl,aC (by rw[hsl];exact hh)];congr 1;exact(bJ<|.inr (by simp)).symm
  ·rw[aF e,hsn p hp];congr 1;rw[decide_eq_decide];simp only[oI];omega
 ·exact⟨by rw[wI];exact hm,λk hk=>by simp[hm,hk],j9,λx=>by simp,λk hk=>by cases hk⟩
 intro o ho;refine Ra ho ?_<|λr hr=>hr.elim
 rintro⟨sn,pi,bo,us,td,t'⟩⟨h1,h2,h3,h4⟩;exact QC ⟨h1,h2,rfl,h3,h4⟩
end
theorem DQ(bs:List cD)(n t:Nat)(r:Nat->Nat)(hs:List Nat)(h:Nat):l6 bs n t r (hs++[h])=if F4 bs n (cls t r h)=true then l6 bs n t r hs++[L4 bs n<|cls t r h]else l6 bs n t r hs:=by
 unfold l6;rw[DI];split
 ·rw[dG];rfl
 ·rfl
def Ll(bs:List cD)(n m:Nat)(r:Nat->Nat)(h:cL):Nat:=gi bs n (n+m) r<|r<|eJ n h
structure MP (G G':List cP):Prop where
 len:G'.length=G.length
 each:∀(g:Nat)x,G[g]? =some x->∃y,G'[g]? =some y/\y.kD=x.kD/\y.aL=x.aL
theorem Df(G:List cP)(lg:eP->Option Nat)(ls:List eP):MP G (gF G lg ls):=
 ⟨zw _ _ _,λg x hx=>⟨{x with gH:=(ls.filter<|λl=>decide<|lg l=some g).map kq},by rw[jY,hx];rfl,rfl,rfl⟩⟩
section
variable {N:Nat}
theorem CR{bs:List cD}{n m:Nat}{r:Nat->Nat}(hbm:bs.length=m)(hn:n<=1000000)(hm:m<=1000000)(hle:∀i,i<n+m->r i<=i)(hrr:∀i,i<n+m->r (r i)=r i){G:List cP}(hG:MP (l6 bs n (n+m) r<|bT (n+m) r) G){h:cL}(hh:Ia bs n m h)(hN:4398046511104<=N):
  eI N G h=some ((Ll bs n m r h:Nat):Int)/\Ll bs n m r h<G.length:=by
 obtain⟨k,hk,hkb,hkp⟩:=hh.num;have hx:eJ n h<n+m:=by
  unfold eJ
  by_cases hb:h.cD=true
  ·rw[aC hb];have:=(hkb hb).1;omega
  ·rw[aF hb];have:=hkp (by simpa using hb);omega
 have hhead:r (eJ n h)∈bT (n+m) r:=jR.2 ⟨by have:=hle _ hx;omega,hrr _ hx⟩;have hne:F4 bs n (cls (n+m) r<|r<|eJ n h)=true:=by
  unfold eJ at hx ⊢
  by_cases hb:h.cD=true
  ·rw[aC hb]at hx ⊢;rw[hk,cB]at hx ⊢;exact Ki (hkb hb).2 hx
  ·rw[aF hb]at hx ⊢;rw[hk,cB]at hx ⊢;exact Kh (hkp (by simpa using hb)) hx
 obtain⟨g1,g2⟩:=L5 (bs:=bs) (n:=n) hhead hne;have hlen:G.length=(live bs n (n+m) r<|bT (n+m) r).length:=by rw[hG.len,ux]
 have hlive:(live bs n (n+m) r<|bT (n+m) r).Nodup:=List.Nodup.sublist List.filter_sublist<|nH _ _
 have hll:(live bs n (n+m) r<|bT (n+m) r).length<=n+m:=by
  have:=rD bs n (n+m) r<|bT (n+m) r
  have:=lZ (n+m) r;omega
 have hval:∀(g:Nat)y,G[g]? =some y->Ok (bif h.cD then((idx G ((g:Nat):Int)).bind λx241=>(cU N x241.aL h.Number).bind λx250=>bif x250 then some true else(bif(!h.cD)then((idx G ((g:Nat):Int)).bind λx253=>(cU N x253.kD h.Number).bind λx262=>some x262)else some false))else(bif(!h.cD)then((idx G ((g:Nat):Int)).bind λx264=>(cU N x264.kD h.Number).bind λx273=>some x273)else some false))
   (λb=>b=true↔(live bs n (n+m) r<|bT (n+m) r)[g]? =some (r<|eJ n h)):=λg y hy=>by
  have hgl:g<(live bs n (n+m) r<|bT (n+m) r).length:=by have:=(aZ.1 hy).1;omega
  have hlx:(live bs n (n+m) r<|bT (n+m) r)[g]? =some (live bs n (n+m) r<|bT (n+m) r)[g]:=aQ hgl;have hgx:(l6 bs n (n+m) r<|bT (n+m) r)[g]? =some (L4 bs n<|cls (n+m) r (live bs n (n+m) r<|bT (n+m) r)[g]):=by unfold l6;rw[eR,hlx];rfl
  obtain⟨y',hy',e1,e2⟩:=hG.each g _ hgx;rw[hy]at hy';injection hy' with hy';subst hy'
  generalize hhd:(live bs n (n+m) r<|bT (n+m) r)[g]=hd at *;have hpl:y.kD.length<=n+m/\y.aL.length<=n+m:=by
   have:=Hf n<|cls (n+m) r hd
   have:=Hg bs n<|cls (n+m) r hd
   have:=Bp (n+m) r hd;rw[e1,e2];unfold L4;simp only[gX];omega
  rw[hlx]
  cases hb:h.cD with
  |true=>
   rw[aK,dC hy,aB,rI (by omega) hN,aB];have hix:eJ n h=n+k:=by unfold eJ;rw[aC hb,hk,cB]
   have hiff:(h.Number∈y.aL)↔hd=r (eJ n h):=by
    rw[e2,hix];unfold L4;dsimp only;rw[qM,hk];constructor
    ·rintro⟨i,hi,e⟩;have:i=k:=by omega
     subst this;exact(As.1 hi).2.1.symm
    ·intro e;exact⟨k,As.2 ⟨by have:=(hkb hb).1;omega,e.symm,(hkb hb).2⟩,rfl⟩
   by_cases hin:h.Number∈y.aL
   ·rw[bJ hin,aK];exact QC ⟨λ_=>by rw[hiff.1 hin],λ_=>rfl⟩
   ·rw[bQ hin,aM,kQ,aM];refine QC ⟨λh=>(by cases h),λh=>?_⟩;injection h with h
    exact absurd (hiff.2 h) hin
  |false=>
   rw[aM,oK,aK,dC hy,aB,rI (by omega) hN,aB];have hix:eJ n h=k:=by unfold eJ;rw[aF (by rw[hb];exact ka),hk,cB]
   have hiff:(h.Number∈y.kD)↔hd=r (eJ n h):=by
    rw[e1,hix];unfold L4;dsimp only;rw[qM,hk];constructor
    ·rintro⟨i,hi,e⟩;have:i=k:=by omega
     subst this;exact(EB.1 hi).2.2.symm
    ·intro e;exact⟨k,EB.2 ⟨hkp hb,by have:=hkp hb;omega,e.symm⟩,rfl⟩
   refine QC ?_;rw[bP,hiff];exact⟨λh=>by rw[h],λh=>by injection h⟩
 refine⟨RD ?_,by unfold Ll;omega⟩;unfold eI Ll;refine QJ (Rw (n:=G.length) (λs=>s) (λk _=>∀g,g<k->(live bs n (n+m) r<|bT (n+m) r)[g]? ≠some (r<|eJ n h)) (Go:=λ_=>False) (Rt:=λs=>s=((gi bs n (n+m) r (r<|eJ n h):Nat):Int)) ?_ ?_ (dJ _) rfl (λg hg=>by omega) (by omega)) ?_
 ·rintro g s hg e hI;subst e;rw[j8 hg,aK];refine QJ (hval g _<|aQ hg) λb hb=>?_
  cases b with
  |true=>
   refine RK ?_;have:=Ah hlive (hb.1 rfl) g2;rw[this]
  |false=>
   refine Q4 ⟨bL (by omega),λg' hg'=>?_⟩
   by_cases e:g'=g
   ·subst e;intro h;have:=hb.2 h;cases this
   ·exact hI g' (by omega)
 ·rintro s e hI;exact absurd g2<|hI _ (by omega)
 intro o ho;exact Ra ho (λ_ h=>h.elim)<|λr hr=>QC hr
theorem Gq{bs:List cD}{pcs:List aI}{r:Nat->Nat}(hb:k8 bs)(hp:pcs.length<=1000000)(hpr:∀p∈pcs,p.gI.length<=1000000/\∀x∈p.gI,x.X0<x.X1)(hd:∀l:eP,∀b∈bs,∀p∈pcs,l4 l b=true->lx l p=true->False)
  (hle:∀i,i<pcs.length+bs.length->r i<=i) (hrr:∀i,i<pcs.length+bs.length->r (r i)=r i) {G:List cP} (hG:MP (l6 bs pcs.length (pcs.length+bs.length) r<|bT (pcs.length+bs.length) r) G) (l:eP) (hN:4398046511104<=N):
  fu N bs (pcs.map aI.dL) (pcs.map aI.gI) G l=some (I7 bs pcs r l)/\∀g,Bb bs pcs r l=some g->g<G.length:=by
 have hbl:=hb.len;unfold fu I7 Bb;rw[DO hb hp hpr l hN,aB,Ik<|hd l]
 cases hh:l5 bs pcs l with
 |none=>exact⟨rfl,λg h=>by cases h⟩
 |some h=>
  obtain⟨e1,e2⟩:=CR (N:=N) rfl hp (by omega) hle hrr hG (q6 hh) hN;refine⟨?_,λg hg=>?_⟩
  ·dsimp only[Option.getD_some,Option.isSome_some];rw[kQ,aM,e1,aB];rfl
  ·rw[Option.map_some]at hg;injection hg with hg
   rw[<-hg];exact e2
theorem Kw{bs:List cD}{pcs:List aI}:∀(k:Nat)l,(dO bs pcs)[k]? =some l->l≠[]->uw bs k=true:=λk l hl hne=>by
 unfold dO at hl;rw[eR,sV]at hl;obtain⟨b,hb,rfl⟩:=hl;unfold uw;rw[hb]
 cases hp:b.gw with
 |true=>simpa using hp
 |false=>
  exfalso;refine hne ?_;have:pj (il b) pcs pcs.length= []:=by
   unfold pj;rw[List.filter_eq_nil_iff];intro j _;rw[jr,Option.any_eq_false];intro p _;unfold il;rw[hp];rfl
  rw[this];rfl
theorem Jh{bs:List cD}{ls:List eP}{pcs:List aI}{r:Nat->Nat}(hb:k8 bs)(hp:pcs.length<=2000)(hl:ls.length<=1000000)(hpr:∀p∈pcs,p.gI.length<=1000000/\∀x∈p.gI,x.X0<x.X1)(hd:∀l:eP,∀b∈bs,∀p∈pcs,l4 l b=true->lx l p=true->False)
  (hC:Es pcs.length bs.length (dO bs pcs) r) (hN:4398046511104<=N):
  fL N bs ls (pcs.map aI.dL) (pcs.map aI.gI) (dO bs pcs)=some (gF (l6 bs pcs.length (pcs.length+bs.length) r<|bT (pcs.length+bs.length) r) (Bb bs pcs r) ls):=by
 refine RD ?_;have hbl:=hb.len;have htl:(dO bs pcs).length=bs.length:=by unfold dO;rw[cE]
 have hto:=Cx (bs:=bs) (pcs:=pcs) (by omega);have hgl:∀hs:List Nat,(l6 bs pcs.length (pcs.length+bs.length) r hs).length<=hs.length:=λhs=>by rw[ux];exact rD _ _ _ _ _
 unfold fL;rw[cE];refine QD (qo false (by omega)) ?_
 refine QJ (Rw (n:=pcs.length) (λst=>st.2.2) (λi st=>st.1=l6 bs pcs.length (pcs.length+bs.length) r (bT i r)/\st.2.1.length=pcs.length/\∀p,p<pcs.length->st.2.1[p]? =some (decide (r p<i)))
  (Go:=λst=>st.1=l6 bs pcs.length (pcs.length+bs.length) r (bT pcs.length r)) (Rt:=λ_=>False) ?_ ?_ (dJ _) rfl ⟨by simp[bT,l6,live],by simp,λp hp=>by simp[hp]⟩ (by omega)) ?_
 ·rintro i⟨G,sn,ii⟩hi e⟨hG,hsl,hsn⟩;dsimp only at e hG hsl hsn ⊢;subst e;subst hG;rw[j8 hi,aK];refine QU (hsn i hi) ?_;refine QJ (P:=λst:List cP×List Bool=>st.1=l6 bs pcs.length (pcs.length+bs.length) r (bT (i+1) r)/\st.2.length=pcs.length/\∀p,p<pcs.length->st.2[p]? =some (decide<|r p<i+1)) (Q8 (λhb=>?_)<|λhb=>QC ⟨?_,hsl,λp hp=>?_⟩)<|λst hst=>Q4 ⟨bL (by omega),hst⟩
  ·rw[Bool.not_eq_true',decide_eq_false_iff_not]at hb;have hri:r i=i:=by have:=hC.le i (by omega);omega
   refine QJ (Gp (bs:=bs) hC htl hto (by omega) (by omega) Kw hi hri hsl hsn hN) λx hx=>?_;obtain⟨x1,x2,x3,x4,x5⟩:=hx;have h1:=hgl<|bT i r
   have h2:=lZ i r;refine Rp (by simp only[cS,List.length_nil];omega)<|QC ⟨?_,x4,x5⟩
   dsimp only;have hne:F4 bs pcs.length (cls (pcs.length+bs.length) r i)=true:=by
    have:=Kh (bs:=bs) (r:=r) hi (show i<pcs.length+bs.length by omega);rwa[hri]at this
   rw[gV,aC hri,DQ,aC hne,x1,x2,x3];rfl
  ·rw[Bool.not_eq_false',bP]at hb;dsimp only;rw[gV,aF (by omega)]
  ·rw[Bool.not_eq_false',bP]at hb;rw[hsn p hp];congr 1;rw[decide_eq_decide];have hne:r p≠i:=λe=>by have:=hC.rr p (by omega);rw[e]at this;omega
   omega
 ·rintro⟨G,sn,ii⟩e⟨hG,_,_⟩;dsimp only at e hG ⊢;subst e;rw[l8,aM];exact Q9 hG
 intro o ho;refine Ra ho ?_<|λr hr=>hr.elim
 rintro⟨G,sn,ii⟩hG;dsimp only at hG ⊢;subst hG;rw[htl];have halone:∀k,k<bs.length->(dO bs pcs)[k]? =some []->∀x,x<pcs.length+bs.length->(r x=r (pcs.length+k)↔x=pcs.length+k):=λk hk hemp x hx=>by
  constructor
  ·intro e;refine hC.fi (λy=>y=pcs.length+k) ?_ (pcs.length+k) x (by omega) hx e.symm rfl;rintro i j⟨k',l,hl,hil,rfl⟩;obtain⟨i',hi',ei⟩:=(hto l<|eL hl).2 _ hil;constructor
   ·intro;omega
   ·intro e;have:k'=k:=by omega
    subst this;rw[hemp]at hl;injection hl with hl
    rw[<-hl]at hil;cases hil
  ·intro e;rw[e]
 refine QJ (Rw (n:=bs.length) (λst=>st.2) (λi st=>st.1=l6 bs pcs.length (pcs.length+bs.length) r (bT (pcs.length+i) r))
  (Go:=λst=>st.1=l6 bs pcs.length (pcs.length+bs.length) r (bT (pcs.length+bs.length) r)) (Rt:=λ_=>False) ?_ ?_ (dJ _) rfl rfl (by omega)) ?_
 ·rintro i⟨G,ii⟩hi e hG;dsimp only at e hG ⊢;subst e;subst hG;rw[j8 hi,aK];have hx:bs[i]? =some bs[i]:=aQ hi;have htx:(dO bs pcs)[i]? =some ((dO bs pcs)[i]'(by omega)):=aQ _;have hpi:uw bs i=bs[i].gw:=by unfold uw;rw[hx];rfl
  have hlen:=hgl<|bT (pcs.length+i) r
  have hhl:=lZ (pcs.length+i) r;have hcond:((idx bs ((i:Nat):Int)).bind λx210=>bif x210.gw then((idx (dO bs pcs) ((i:Nat):Int)).bind λx214=>some<|(x214.length:Int)==0)else some false)=some (uw bs i&&decide ((dO bs pcs)[i]'(by omega)= [])):=by
   rw[dC hx,aB,dC htx,aB,hpi]
   cases bs[i].gw with
   |false=>rfl
   |true=>
    rw[aK,Bool.true_and];congr 1;rw[eT,bP,beq_iff_eq];constructor
    ·intro h;exact List.eq_nil_of_length_eq_zero (by omega)
    ·intro h;rw[h];rfl
  refine QD hcond ?_;have hstep:l6 bs pcs.length (pcs.length+bs.length) r (bT (pcs.length+(i+1)) r)=if(uw bs i&&decide ((dO bs pcs)[i]'(by omega)= []))=true then l6 bs pcs.length (pcs.length+bs.length) r (bT (pcs.length+i) r)++[⟨[],[((i:Nat):Int)],[]⟩]else l6 bs pcs.length (pcs.length+bs.length) r (bT (pcs.length+i) r):=by
   rw[<-Nat.add_assoc,gV]
   by_cases hemp:(dO bs pcs)[i]'(by omega)= []
   ·rw[hemp]at htx;have qx:=halone i hi htx;have hri:r (pcs.length+i)=pcs.length+i:=by
     have h1:=hC.le (pcs.length+i) (by omega);exact(qx _ (by omega)).1<|hC.rr _ (by omega)
    rw[aC hri,DQ];have hcl:∀x,x∈cls (pcs.length+bs.length) r (pcs.length+i)↔x=pcs.length+i:=λx=>by
     rw[qs];constructor
     ·rintro⟨h1,h2⟩;exact(qx x h1).1 (by rw[h2,hri])
     ·intro h;subst h;exact⟨by omega,hri⟩
    have hgp:gP pcs.length (cls (pcs.length+bs.length) r<|pcs.length+i)= []:=by
     unfold gP;rw[List.filter_eq_nil_iff];intro x hx;rw[(hcl x).1 hx];simp
    by_cases hpl:uw bs i=true
    ·have hne:F4 bs pcs.length (cls (pcs.length+bs.length) r<|pcs.length+i)=true:=by
      have:=Ki (bs:=bs) (n:=pcs.length) (r:=r) hpl (show pcs.length+i<pcs.length+bs.length by omega);rwa[hri]at this
     rw[aC hne,aC (by rw[hpl,bJ hemp];rfl)];congr 2;unfold L4;rw[hgp];have hgb:ints (gB bs pcs.length<|cls (pcs.length+bs.length) r<|pcs.length+i)= [((i:Nat):Int)]:=by
      refine Bq (Kv _ _ _ _ _) (List.pairwise_singleton _ _) λx=>?_;rw[qM];simp only[oI];constructor
      ·rintro⟨k,h1,h2⟩;obtain⟨g1,g2,_⟩:=As.1 h1;have:=(qx _ g1).1 (by rw[g2,hri]);omega
      ·intro h;exact⟨i,As.2 ⟨by omega,hri,hpl⟩,h⟩
     rw[hgb];rfl
    ·have hne:¬F4 bs pcs.length (cls (pcs.length+bs.length) r<|pcs.length+i)=true:=by
      unfold F4;have hgb:gB bs pcs.length (cls (pcs.length+bs.length) r<|pcs.length+i)= []:=by
       unfold gB;rw[List.map_eq_nil_iff,List.filter_eq_nil_iff];intro x hx;rw[(hcl x).1 hx,Nat.add_sub_cancel_left];simp[hpl]
      rw[hgp,hgb];simp
     rw[aF hne,aF (by rw[jr]at hpl ⊢;rw[hpl];rfl)]
   ·have hri:¬r (pcs.length+i)=pcs.length+i:=λe=>by
     obtain⟨x,hxm⟩:=List.exists_mem_of_ne_nil _ hemp;obtain⟨p,hp1,hp2⟩:=(hto _<|cC (show i<(dO bs pcs).length by omega)).2 x hxm;have h1:=hC.co p (pcs.length+i) ⟨i,_,htx,by rw[<-hp2];exact hxm,rfl⟩;have h2:=hC.le p (by omega);omega
    rw[aF hri,aF (by rw[bQ hemp,Bool.and_false];exact ka)]
  refine QJ (P:=λst:List cP=>st=l6 bs pcs.length (pcs.length+bs.length) r (bT (pcs.length+(i+1)) r)) (Q8 (λhb=>?_)<|λhb=>QC ?_)<|λst hst=>Q4 ⟨bL (by omega),hst⟩
  ·refine Rp (by simp only[cS,List.length_nil];omega)<|QC ?_
   rw[hstep,aC hb]
  ·rw[hstep,aF (by rw[jr];exact hb)]
 ·rintro⟨G,ii⟩e hG;dsimp only at e hG ⊢;subst e;rw[l8,aM];exact Q9 hG
 intro o ho;refine Ra ho ?_<|λr hr=>hr.elim
 rintro⟨G,ii⟩hG;dsimp only at hG ⊢;subst hG;have hGl:=hgl<|bT (pcs.length+bs.length) r
 have hhl:=lZ (pcs.length+bs.length) r;generalize hGG:l6 bs pcs.length (pcs.length+bs.length) r (bT (pcs.length+bs.length) r)=G at *;refine QJ (Rw (n:=ls.length) (λst=>st.2) (λi st=>st.1=gF G (Bb bs pcs r) (ls.take i)) (Go:=λst=>st.1=gF G (Bb bs pcs r) ls) (Rt:=λ_=>False) ?_ ?_ (dJ _) rfl ?_ (by omega)) ?_
 ·rintro i⟨W,ii⟩hi e hW;dsimp only at e hW ⊢;subst e;subst hW;rw[j8 hi,aK];have hx:ls[i]? =some ls[i]:=aQ hi;have hts:ls.take (i+1)=ls.take i++[ls[i]]:=eD hi;obtain⟨e1,e2⟩:=Gq (N:=N) (r:=r) hb (by omega) hpr hd hC.le hC.rr (G:=gF G (Bb bs pcs r)<|ls.take i) (by rw[hGG];exact Df _ _ _) ls[i] hN;refine QU hx<|QD e1 ?_
  refine QJ (P:=λst:List cP=>st=gF G (Bb bs pcs r) (ls.take<|i+1)) ?_<|λst hst=>Q4 ⟨bL (by omega),hst⟩
  unfold I7
  cases hg:Bb bs pcs r ls[i]with
  |none=>
   dsimp only;rw[show decide ((-1:Int)>=0)=false by decide,aM];refine QC ?_;rw[hts,xO hg]
  |some g=>
   have hgW:=e2 g hg;have hWg:(gF G (Bb bs pcs r)<|ls.take i)[g]? =some (gF G (Bb bs pcs r)<|ls.take i)[g]:=aQ hgW;dsimp only;rw[bJ (by omega),aK];have hpl:(gF G (Bb bs pcs r)<|ls.take i)[g].gH.length<=ls.length:=by
    have:=hWg;rw[jY,sV]at this;obtain⟨y,_,hy⟩:=this;rw[<-hy];dsimp only;rw[cE];have:=kP (λl=>decide<|Bb bs pcs r l=some g)<|ls.take i
    rw[cQ]at this;omega
   refine QU hWg<|Rp (by simp only[cS,List.length_nil];omega)<|QU hWg<|QC ?_
   rw[cB,hts];exact zx hg hWg
 ·rintro⟨W,ii⟩e hW;dsimp only at e hW ⊢;subst e;rw[l8,aM];exact Q9 (by rw[eM]at hW;exact hW)
 ·apply List.ext_getElem?;intro g;rw[jY]
  cases hGg:G[g]? with
  |none=>rfl
  |some x=>
   have hx0:x.gH= []:=by
    rw[<-hGG]at hGg;unfold l6 at hGg;rw[eR,sV]at hGg;obtain⟨hd',_,rfl⟩:=hGg;rfl
   simp only[Option.map_some,List.take_zero,List.filter_nil,List.map_nil,Option.some.injEq];rw[<-hx0]
 intro o ho;exact Ra ho (λst hst=>QC hst)<|λr hr=>hr.elim
end
section
variable {N:Nat}{a:jT}{lE:List (List aA)}{dA:List (List (List aA))}{r:Nat->Nat}{gs:List cP}{ofP ofB pW:List Int}{pX:List cL}
theorem mw.F6(b:mw a lE dA r gs ofP ofB pW pX):uE a:=Jf b.Aj.F6
theorem tn(b:mw a lE dA r gs ofP ofB pW pX)(hN:4398046511104<=N):
  iG N a=some (a.aJ,a.cM,a.aL,a.bN,(aR 0 dA).map aI.dL,(aR 0 dA).map aI.gI,gs,dO a.aL<|aR 0 dA):=by
 refine RD ?_;have hc16:=b.Aj.w5.2;have hfew:=b.w5.2;have hbl:=b.Aj.gb.len;have hll:=b.F6.w5;unfold iG;have hpl:∀k,(aR 0<|dA.take k).length<=2000:=λk=>by
  have h1:=w8 (dA.take k) 0;have h2:=w8 dA 0;have h3:((dA.take k).map List.length).sum<=(dA.map List.length).sum:=by
   conv=>rhs;rw[<-List.take_append_drop k dA,dG,List.sum_append]
   omega
  omega
 refine QJ (Rw (n:=a.aJ.length) (λst=>st.2.2) (λi st=>st.1=(aR 0<|dA.take i).map aI.dL/\st.2.1=(aR 0<|dA.take i).map aI.gI) (Go:=λst=>st.1=(aR 0 dA).map aI.dL/\st.2.1=(aR 0 dA).map aI.gI) (Rt:=λ_=>False) ?_ ?_ (dJ _) rfl ⟨rfl,rfl⟩ (by omega)) ?_
 ·rintro i⟨La,Re,ii⟩hi e⟨h1,h2⟩;dsimp only at e h1 h2 ⊢;subst e;subst h1;subst h2;rw[j8 hi,aK];obtain⟨s,ps,u,hd,hp,L⟩:=AV b hi;have hcx:a.aJ[i]? =some a.aJ[i]:=aQ hi;have hcs:=b.Aj.cs _<|cC hi
  have hip:=(aZ.1 hp).1;have hts:aR 0 (dA.take<|i+1)=aR 0 (dA.take i)++ps.map (λp=>⟨((i:Nat):Int),p,aS p⟩):=by
   rw[eD hip,(aZ.1 hp).2,vc,cQ];simp only[iO,show min i dA.length=i by omega]
  have hl1:=hpl i;have hl2:=hpl<|i+1
  rw[hts,dB,cE]at hl2;refine QD (wF b.Aj.gb hcx hcs.1 hcs.2 L.dr hN)<|QD (L.pieces hN) ?_
  rw[cE]
  refine QJ (Rw (n:=ps.length) (λst=>st.2.2) (λj st=>st.1=(aR 0 (dA.take i)).map aI.dL++(ps.take j).map (λ_=>((i:Nat):Int))/\st.2.1=(aR 0 (dA.take i)).map aI.gI++(ps.take j).map aS)
   (Go:=λst=>st.1=(aR 0 (dA.take (i+1))).map aI.dL/\st.2.1=(aR 0 (dA.take (i+1))).map aI.gI) (Rt:=λ_=>False) ?_ ?_ (dJ _) rfl ⟨by simp,by simp⟩ (by omega)) ?_
  ·rintro j⟨La,Re,jj⟩hj e⟨h1,h2⟩;dsimp only at e h1 h2 ⊢;subst e;subst h1;subst h2;rw[j8 hj,aK];have hx:(ps.map aS)[j]? =some (aS ps[j]):=by rw[eR,aQ hj];rfl
   refine Rp ?_<|QU hx<|Rp ?_<|Q4 ⟨bL (by omega),?_,?_⟩
   ·rw[dB,cE,cE,cQ];simp only[cS,List.length_nil];omega
   ·rw[dB,cE,cE,cQ];simp only[cS,List.length_nil];omega
   ·dsimp only;rw[eD hj,dG,ku];rfl
   ·dsimp only;rw[eD hj,dG,ku];rfl
  ·rintro⟨La,Re,jj⟩e⟨h1,h2⟩;dsimp only at e h1 h2 ⊢;subst e;subst h1;subst h2;rw[l8,aM];refine Q9 ⟨?_,?_⟩
   ·dsimp only;rw[hts,dG,List.map_map,eM];rfl
   ·dsimp only;rw[hts,dG,List.map_map,eM];rfl
  intro o ho;exact Ra ho (λst hst=>Q4 ⟨bL (by omega),hst⟩)<|λr hr=>hr.elim
 ·rintro⟨La,Re,ii⟩e⟨h1,h2⟩;dsimp only at e h1 h2 ⊢;subst e;rw[l8,aM];rw[mh (by rw[b.dr.Ba];exact bV _)]at h1 h2;exact Q9 ⟨h1,h2⟩
 intro o ho;refine Ra ho ?_<|λr hr=>hr.elim
 rintro⟨La,Re,ii⟩⟨h1,h2⟩;dsimp only at h1 h2 ⊢;subst h1;subst h2;rw[cE];have hpf:=λp hp=>zF b (p:=p) hp;generalize hpcs:aR 0 dA=pcs at *;refine QJ (Rw (n:=a.aL.length) (λst=>st.2) (λi st=>st.1=dO (a.aL.take i) pcs) (Go:=λst=>st.1=dO a.aL pcs) (Rt:=λ_=>False) ?_ ?_ (dJ _) rfl rfl (by omega)) ?_
 ·rintro i⟨T,ii⟩hi e hT;dsimp only at e hT ⊢;subst e;subst hT;rw[j8 hi,aK];have hx:a.aL[i]? =some a.aL[i]:=aQ hi;have hg:=b.Aj.gb.ok _<|cC hi
  have hsq:=L3 hg.1 hg.2;have hplain:¬a.aL[i].gw=true->pj (il a.aL[i]) pcs pcs.length= []:=λhp=>by
   unfold pj;rw[List.filter_eq_nil_iff];intro j _;rw[jr,Option.any_eq_false];intro p _;unfold il;rw[jr]at hp;rw[hp];rfl
  refine QJ (RJ (Go:=λst=>st.1=ints (pj (il a.aL[i]) pcs pcs.length)) (Rt:=λ_=>False) (λst=>∃j:Nat,st.2=((j:Nat):Int)/\j<=pcs.length/\st.1=ints (pj (il a.aL[i]) pcs j)) (λst=>pcs.length - st.2.toNat) ?_ ⟨0,rfl,dJ _,rfl⟩ (by simp;omega)) ?_
  ·rintro⟨ow,jj⟩⟨j,e,hj,ho⟩;dsimp only at e ho ⊢;subst e;subst ho
   by_cases hlt:j<pcs.length
   ·rw[j8 hlt,aK,dC hx,aB,aB];refine Q8 (λhpl=>?_)<|λhpl=>Q9 ?_
    ·have hpx:pcs[j]? =some pcs[j]:=aQ hlt;have hlx:(pcs.map aI.dL)[j]? =some pcs[j].dL:=by rw[eR,hpx];rfl
     have hrx:(pcs.map aI.gI)[j]? =some pcs[j].gI:=by rw[eR,hpx];rfl
     obtain⟨f1,f2,_⟩:=hpf _<|cC hlt
     have hil:=w6 (il a.aL[i]) pcs j;have hcond:((some a.aL[i]).bind λx932=>(idx (pcs.map aI.dL) ((j:Nat):Int)).bind λx935=>(fN N x932 x935).bind λx936=>bif x936 then((idx (pcs.map aI.gI) ((j:Nat):Int)).bind λx938=>(some a.aL[i]).bind λx941=>(cO N x941).bind λx944=>(jL N x938 x944).bind λx946=>some x946)else some false)=some (il a.aL[i] pcs[j]):=by
      rw[aB,dC hlx,aB,vk,aB,dC hrx,aB,aB,mO hg.1,aB,Lj (by omega) (λq hq=>Er (f2 q hq).1 (f2 q hq).2.1 (f2 q hq).2.2) hsq hN,aB];unfold il;rw[hpl,Bool.true_and]
      cases kr a.aL[i] pcs[j].dL <;> rfl
     refine QD hcond ?_;refine QJ (P:=λst:List Int=>st=ints (pj (il a.aL[i]) pcs<|j+1)) (Q8 (λhb=>?_)<|λhb=>QC ?_)<|λst hst=>Q4 ⟨⟨j+1,bL (by omega),hlt,hst⟩,?_⟩
     ·refine Rp (by rw[gX];simp only[cS,List.length_nil];omega)<|QC ?_
      rw[yo hpx,aC hb,mg];rfl
     ·rw[yo hpx,aF (by rw[jr];exact hb)]
     ·dsimp only;rw[bL (by omega)];simp only[cB];omega
    ·have hn:=hplain (by rw[hpl];exact ka);have hj0:pj (il a.aL[i]) pcs j= []:=by
      unfold pj;rw[List.filter_eq_nil_iff];intro j' hj';rw[jr,Option.any_eq_false];intro p _;unfold il;rw[hpl];rfl
     dsimp only;rw[hn,hj0]
   ·have:j=pcs.length:=by omega
    subst this;rw[l8,aM,aB,aM];exact Q9 rfl
  intro o ho;refine Ra ho ?_<|λr hr=>hr.elim
  rintro⟨ow,jj⟩ho2;dsimp only at ho2 ⊢;subst ho2;refine Rp ?_<|Q4 ⟨bL (by omega),?_⟩
  ·unfold dO;rw[cE,cQ];simp only[cS,List.length_nil];omega
  ·dsimp only;unfold dO;rw[eD hi,dG];rfl
 ·rintro⟨T,ii⟩e hT;dsimp only at e hT ⊢;subst e;rw[l8,aM];exact Q9 (by rw[eM]at hT;exact hT)
 intro o ho;refine Ra ho ?_<|λr hr=>hr.elim
 rintro⟨T,ii⟩hT;dsimp only at hT ⊢;subst hT;have hcon:=b.L7;rw[hpcs]at hcon;have hnb:=λl=>Il b l;rw[hpcs]at hnb;refine QD (Jh (r:=r) b.Aj.gb (by omega) (by omega) (λp hp=>⟨by have:=(hpf p hp).1;omega,λx hx=>((hpf p hp).2.1 x hx).2.1⟩) hnb hcon.conn hN)<|QC ?_
 rw[<-hcon.gs]
end
section
variable {N:Nat}{a:jT}{lE:List (List aA)}{dA:List (List (List aA))}{r:Nat->Nat}{gs:List cP}{ofP ofB pW:List Int}{pX:List cL}
end
section
variable {N:Nat}
end
section
variable {bs:List cD}{ls:List eP}{pcs:List aI}{r:Nat->Nat}{gs:List cP}{ofP ofB pW:List Int}{pX:List cL}
end
section
variable {N:Nat}{a:jT}{lE:List (List aA)}{dA:List (List (List aA))}{r:Nat->Nat}{gs:List cP}{ofP ofB pW:List Int}{pX:List cL}
end
section
variable {N:Nat}
end
section
variable {N:Nat}{a:jT}{lE:List (List aA)}{dA:List (List (List aA))}{r:Nat->Nat}{gs:List cP}{ofP ofB pW:List Int}{pX:List cL}
theorem Im(x:eP)(p:eE):kq x=p↔x.Part=p.Part/\x.eE=p.eE:=by
 cases p;unfold kq;rw[eE.mk.injEq]
theorem Gr{a:jT}(hl:a.bN.length<=1000000)(p:eE)(hN:4398046511104<=N):jK N a p=some (jC a p):=by
 refine RD ?_;unfold jK;refine QJ (Rw (n:=a.bN.length) (λs=>s) (λk _=>∀(j:Nat)x,j<k->a.bN[j]? =some x->decide (kq x=p)=false) (Go:=λ_=>jC a p = -1) (Rt:=λr=>r=jC a p) ?_ ?_ (dJ _) rfl (λj x hj=>by omega) (by omega)) ?_
 ·rintro k s hk e hI;subst e;rw[j8 hk,aK];have hx:a.bN[k]? =some a.bN[k]:=aQ hk;have hc:((idx a.bN ((k:Nat):Int)).bind λx99=>bif x99.Part.rT p.Part then((idx a.bN ((k:Nat):Int)).bind λx104=>some<|x104.eE.rT p.eE)else some false)=some (decide<|kq a.bN[k]=p):=by
   rw[dC hx,aB,aB,HU,HU]
   by_cases h1:a.bN[k].Part=p.Part
   ·rw[bJ h1,aK];congr 1;rw[eT,bP,bP,Im];exact⟨λh=>⟨h1,h⟩,λh=>h.2⟩
   ·rw[bQ h1,aM,bQ<|λh=>h1 ((Im _ _).1 h).1]
  refine QD hc<|Q8 (λh=>RK ?_)<|λh=>Q4 ⟨bL (by omega),λj x hj hjx=>?_⟩
  ·exact(FK hx h hI).symm
  ·by_cases e:j=k
   ·subst e;rw[hx]at hjx;injection hjx with hjx;rw[<-hjx];exact h
   ·exact hI j x (by omega) hjx
 ·rintro s e hI;subst e;rw[l8,aM];refine Q9 ?_;unfold jC;rw[FJ];rw[List.any_eq_false];intro x hx;obtain⟨j,hj⟩:=dN hx;rw[hI j x (aZ.1 hj).1 hj];exact ka
 intro o ho;exact Ra ho (λs hs=>QC hs.symm)<|λr hr=>QC hr
theorem Ji(g:uE a)(p:eE)(hN:4398046511104<=N):lC N a p=some (jC a p):=by
 obtain⟨r,h1,h2⟩:=Gl (N:=N) (p:=p) g.up (by have:=g.w5;omega) (by omega) (φ:=jH N) (λx=>by unfold jH;rw[Af,aB,vu,aB]);unfold lC;have e:gD N a.bN p (jH N)=JU N a.bN p (jH N):=rfl;rw[e,h1,aB];exact h2
end
section
variable {N:Nat}
end
structure mW (A:Nat->Nat->Prop) (s:Nat) (F:Nat->Option Nat):Prop where
 zero:F s=some 0
 Hr:∀v,F v=some 0->v=s
 back:∀v d,F v=some (d+1)->∃u,A u v/\F u=some d
 step:∀u v d,A u v->F u=some d->∃e,F v=some e/\e<=d+1
section
variable {A:Nat->Nat->Prop}{s:Nat}{F G:Nat->Option Nat}
theorem mW.le(hF:mW A s F)(hG:mW A s G):∀(d v:Nat),F v=some d->∃e,G v=some e/\e<=d
 | 0,v,h=>⟨0,by rw[hF.Hr v h];exact hG.zero,bV _⟩
 |d+1,v,h=>by
  obtain⟨u,h1,h2⟩:=hF.back v d h;obtain⟨e,h3,h4⟩:=mW.le hF hG d u h2;obtain⟨e',h5,h6⟩:=hG.step u v e h1 h3;exact⟨e',h5,by omega⟩
theorem mW.uniq(hF:mW A s F)(hG:mW A s G):F=G:=funext λv=>by
 cases hf:F v with
 |none=>
  cases hg:G v with
  |none=>rfl
  |some e=>
   obtain⟨e',h1,_⟩:=hG.le hF e v hg;rw[hf]at h1;cases h1
 |some d=>
  obtain⟨e,h1,h2⟩:=hF.le hG d v hf;obtain⟨e',h3,h4⟩:=hG.le hF e v h1;rw[hf]at h3;injection h3 with h3
  rw[h1];congr 1;omega
theorem mW.reach(hF:mW A s F)(v:Nat):F v≠none↔∀S:Nat->Prop,S s->(∀a b,A a b->S a->S b)->S v:=by
 constructor
 ·intro h S h0 hS;have key:∀(d v:Nat),F v=some d->S v:=by
   intro d
   induction d with
   |zero=>intro v hv;rw[hF.Hr v hv];exact h0
   |succ d ih=>
    intro v hv;obtain⟨u,h1,h2⟩:=hF.back v d hv;exact hS u v h1<|ih u h2
  cases hv:F v with
  |none=>exact absurd hv h
  |some d=>exact key d v hv
 ·intro h;refine h (λx=>F x≠none) (by rw[hF.zero];exact λh=>by cases h)<|λa b hab ha=>?_
  cases hv:F a with
  |none=>exact absurd hv ha
  |some d=>
   obtain⟨e,h1,_⟩:=hF.step a b d hab hv;rw[h1];exact λh=>by cases h
end
theorem Hs{A:Nat->Nat->Prop}(hA:∀a b,A a b->A b a){s t:Nat}{F G:Nat->Option Nat}(hF:mW A s F)(hG:mW A t G):F t≠none↔G s≠none:=by
 rw[hF.reach,hG.reach];constructor
 ·intro h;intro S ht hS;exact(h (λx=>S t->(S x->S s)/\(S s->S x)) (λ_=>⟨id,id⟩) (λa b hab ha ht=>⟨λhb=>(ha ht).1<|hS b a (hA a b hab) hb,λhs=>hS a b hab<|(ha ht).2 hs⟩) ht).1 ht
 ·intro h;intro S hs hS;exact(h (λx=>S s->(S x->S t)/\(S t->S x)) (λ_=>⟨id,id⟩) (λa b hab ha hs=>⟨λhb=>(ha hs).1<|hS b a (hA a b hab) hb,λht=>hS a b hab<|(ha hs).2 ht⟩) hs).1 hs
def xR(adj:Nat->List Nat)(F:Nat->Option Nat)(d h:Nat):Nat:=((adj h).find?<|λn=>decide<|F n=some d).getD 0
def oG(adj:Nat->List Nat)(F:Nat->Option Nat):Nat->Nat->List Nat
 | 0,h=>[h]
 |d+1,h=>h::oG adj F d (xR adj F d h)
section
variable {A:Nat->Nat->Prop}{adj:Nat->List Nat}{s:Nat}{F:Nat->Option Nat}
theorem CS(hF:mW A s F)(hA:∀u v,A u v->u∈adj v){d h:Nat}(e:F h=some (d+1)):xR adj F d h∈adj h/\F (xR adj F d h)=some d/\(adj h).find? (λn=>decide<|F n=some d)=some (xR adj F d h):=by
 obtain⟨u,h1,h2⟩:=hF.back h d e;unfold xR
 cases hf:(adj h).find? (λn=>decide<|F n=some d)with
 |none=>
  have:=List.find?_eq_none.1 hf u<|hA u h h1
  simp[h2]at this
 |some n=>
  rw[Option.getD_some];exact⟨List.mem_of_find?_eq_some hf,by simpa using List.find?_some hf,rfl⟩
theorem wG:∀(d h:Nat),(oG adj F d h).length=d+1
 | 0,h=>rfl
 |d+1,h=>by unfold oG;rw[cS,wG d]
theorem Bs(hF:mW A s F)(hA:∀u v,A u v->u∈adj v):∀(d h:Nat),F h=some d->∀(i x:Nat),(oG adj F d h)[i]? =some x->i<=d/\F x=some (d - i)
 | 0,h,e,i,x,hx=>by
  have hi:i=0:=by have:=(aZ.1 hx).1;rw[wG]at this;omega
  subst hi;have:x=h:=by simpa[oG]using hx.symm
  subst this;exact⟨bV _,e⟩
 |d+1,h,e,i,x,hx=>by
  unfold oG at hx
  cases i with
  |zero=>
   have:x=h:=by simpa using hx.symm
   subst this;exact⟨by omega,e⟩
  |succ i=>
   rw[List.getElem?_cons_succ]at hx;obtain⟨h1,h2⟩:=Bs hF hA d _ (CS hF hA e).2.1 i x hx;exact⟨by omega,by rw[h2];congr 1;omega⟩
theorem Jj(d h:Nat):(oG adj F d h)[0]? =some h:=by cases d <;> rfl
theorem Jk(hF:mW A s F)(hA:∀u v,A u v->u∈adj v){d h:Nat}(e:F h=some d):(oG adj F d h)[d]? =some s:=by
 have hlt:d<(oG adj F d h).length:=by rw[wG];omega
 have hx:=aQ hlt;obtain⟨_,h2⟩:=Bs hF hA d h e d _ hx;rw[Nat.sub_self]at h2;rw[hx,hF.Hr _ h2]
end
structure BQ (A:Nat->Nat->Prop) (s t:Nat) (F:Nat->Option Nat) (ord:List Nat) (p:Nat):Prop where
 mem:∀v,F v≠none↔v∈ord
 nd:ord.Nodup
 lt:∀v∈ord,v<t
 zero:F s=some 0
 Hr:∀v,F v=some 0->v=s
 back:∀v d,F v=some (d+1)->∃u,A u v/\F u=some d
 fin:∀(j u:Nat),j<p->ord[j]? =some u->∀v d,A u v->F u=some d->∃e,F v=some e/\e<=d+1
 up:∀(i j u v:Nat),i<=j->ord[i]? =some u->ord[j]? =some v->∀d e,F u=some d->F v=some e->d<=e
 Lm:∀u d,ord[p]? =some u->F u=some d->∀v e,F v=some e->e<=d+1
section
variable {A:Nat->Nat->Prop}{s t p:Nat}{F:Nat->Option Nat}{ord:List Nat}
theorem Gs{l:List Nat}(h:l.Nodup){t:Nat}(hl:∀v∈l,v<t):l.length<=t:=by
 have:=fS h (m:=List.range t)<|λv hv=>oH.2<|hl v hv
 rwa[List.length_range]at this
theorem BQ.len(h:BQ A s t F ord p):ord.length<=t:=Gs h.nd h.lt
theorem BQ.start(A:Nat->Nat->Prop){s t:Nat}(hs:s<t):BQ A s t (λx=>if x=s then some 0 else none) [s] 0 where
 mem:=λv=>by
  by_cases e:v=s
  ·simp[e]
  ·simp[e]
 nd:=by simp
 lt:=λv hv=>by simp at hv;omega
 zero:=aC rfl
 Hr:=λv hv=>by
  by_cases e:v=s
  ·exact e
  ·simp[e]at hv
 back:=λv d hv=>by
  by_cases e:v=s
  ·simp[e]at hv
  ·simp[e]at hv
 fin:=λj u hj=>by omega
 up:=λi j u v hij hu hv d e hd he=>by
  by_cases e1:u=s
  ·simp[e1]at hd;omega
  ·simp[e1]at hd
 Lm:=λu d hu hd v e he=>by
  by_cases e1:v=s
  ·simp[e1]at he;omega
  ·simp[e1]at he
theorem BQ.push(h:BQ A s t F ord p){u v d:Nat}(hu:ord[p]? =some u)(hd:F u=some d)(hv:A u v)(hvt:v<t)(hn:F v=none):BQ A s t (λx=>if x=v then some (d+1)else F x) (ord++[v]) p:=by
 have hvo:v∉ord:=λhm=>absurd hn<|(h.mem v).2 hm
 have ne:∀{x e:Nat},F x=some e->x≠v:=λ{x e}hx hxv=>by rw[hxv,hn]at hx;cases hx
 have hold:∀{i x:Nat},i<ord.length->(ord++[v])[i]? =some x->ord[i]? =some x:=λ{i x}hi hx=>by rwa[gp hi]at hx
 have hpl:=(aZ.1 hu).1;have hmax:∀{x e:Nat},F x=some e->e<=d+1:=λ{x e}hx=>h.Lm u d hu hd x e hx;refine⟨λx=>?_,?_,λx hx=>?_,?_,λx hx=>?_,λx e hx=>?_,λj x hj hx y e hxy he=>?_,λi j x y hij hx hy a b ha hb=>?_,λx e hx he y a ha=>?_⟩
 ·rw[dI,oI,<-h.mem]
  by_cases e:x=v
  ·simp[e]
  ·simp[e]
 ·rw[List.nodup_append];exact⟨h.nd,by simp,λa ha b hb=>by rw[oI]at hb;subst hb;exact λe=>hvo<|e▸ha⟩
 ·rcases dI.1 hx with hx|hx
  ·exact h.lt x hx
  ·rw[oI]at hx;omega
 ·rw[aF<|ne h.zero];exact h.zero
 ·by_cases e:x=v
  ·rw[aC e]at hx;injection hx with hx;omega
  ·rw[aF e]at hx;exact h.Hr x hx
 ·by_cases e1:x=v
  ·rw[aC e1]at hx;injection hx with hx
   have:e=d:=by omega
   subst this;exact⟨u,e1▸hv,by rw[aF<|ne hd];exact hd⟩
  ·rw[aF e1]at hx;obtain⟨y,h1,h2⟩:=h.back x e hx;exact⟨y,h1,by rw[aF<|ne h2];exact h2⟩
 ·have hx:=hold (by omega) hx;have hxv:x≠v:=λe1=>hvo<|e1▸eL hx
  rw[aF hxv]at he;obtain⟨b,h1,h2⟩:=h.fin j x hj hx y e hxy he;exact⟨b,by rw[aF<|ne h1];exact h1,h2⟩
 ·by_cases hj:j<ord.length
  ·have hx:=hold (by omega) hx;have hy:=hold hj hy;have hxv:x≠v:=λe1=>hvo<|e1▸eL hx
   have hyv:y≠v:=λe1=>hvo<|e1▸eL hy
   rw[aF hxv]at ha;rw[aF hyv]at hb;exact h.up i j x y hij hx hy a b ha hb
  ·have hyv:y=v:=by
    rw[g9 (by omega)]at hy;have:j - ord.length=0:=by
     have:=(aZ.1 hy).1;simp at this;omega
    rw[this]at hy;simpa using hy.symm
   rw[aC hyv]at hb;injection hb with hb
   by_cases e1:x=v
   ·rw[aC e1]at ha;injection ha with ha;omega
   ·rw[aF e1]at ha;have:=hmax ha;omega
 ·have hx:=hold hpl hx;rw[hu]at hx;injection hx with hx;subst hx
  rw[aF<|ne hd,hd]at he;injection he with he;subst he
  by_cases e1:y=v
  ·rw[aC e1]at ha;injection ha with ha;omega
  ·rw[aF e1]at ha;exact hmax ha
theorem BQ.next(h:BQ A s t F ord p){u d:Nat}(hu:ord[p]? =some u)(hd:F u=some d)(hall:∀v,A u v->F v≠none):BQ A s t F ord (p+1):=by
 refine⟨h.mem,h.nd,h.lt,h.zero,h.Hr,h.back,λj x hj hx v e hxv he=>?_,h.up,λx e hx he v b hb=>?_⟩
 ·by_cases e1:j<p
  ·exact h.fin j x e1 hx v e hxv he
  ·have:j=p:=by omega
   subst this;rw[hu]at hx;injection hx with hx;subst hx
   rw[hd]at he;injection he with he;subst he
   cases hv:F v with
   |none=>exact absurd hv (hall v hxv)
   |some b=>exact⟨b,rfl,h.Lm u d hu hd v b hv⟩
 ·have h1:=h.up p (p+1) u x (by omega) hu hx d e hd he;have h2:=h.Lm u d hu hd v b hb;omega
theorem BQ.done(h:BQ A s t F ord p)(hp:ord.length<=p):mW A s F where
 zero:=h.zero
 Hr:=h.Hr
 back:=h.back
 step:=λu v d huv hu=>by
  have hm:u∈ord:=(h.mem u).1 (by rw[hu];exact λe=>by cases e);obtain⟨j,hj⟩:=dN hm;have:=(aZ.1 hj).1;exact h.fin j u (by omega) hj v d huv hu
end
def dF(n v:Nat):cL:=if v<n then⟨false,((v:Nat):Int)⟩else⟨true,((v - n:Nat):Int)⟩
theorem rS{n u v:Nat}(h:dF n u=dF n v):u=v:=by
 unfold dF at h
 by_cases h1:u<n
 ·by_cases h2:v<n
  ·rw[aC h1,aC h2]at h;injection h with _ h;omega
  ·rw[aC h1,aF h2]at h;injection h with h _;cases h
 ·by_cases h2:v<n
  ·rw[aF h1,aC h2]at h;injection h with h _;cases h
  ·rw[aF h1,aF h2]at h;injection h with _ h;omega
theorem qN{bs:List cD}{n m:Nat}{h:cL}(hh:Ia bs n m h):dF n (eJ n h)=h/\eJ n h<n+m:=by
 obtain⟨k,e,h1,h2⟩:=hh.num;obtain⟨B,q⟩:=h;dsimp only at e h1 h2;subst e;unfold dF eJ
 cases B with
 |true=>
  have:=(h1 rfl).1;rw[aC rfl,cB,aF (by omega)];exact⟨by congr 1;omega,by omega⟩
 |false=>
  have:=h2 rfl;rw[aF ka,cB,aC this];exact⟨rfl,by omega⟩
def dU(n:Nat)(tch:List (List Int))(v:Nat):List Nat:=if v<n then((List.range tch.length).filter<|λk=>decide<|((v:Nat):Int)∈tch.getD k []).map (λk=>n+k)else(tch.getD (v - n) []).map Int.toNat
structure tp (n m:Nat) (tch:List (List Int)):Prop where
 len:tch.length=m
 nb:n<=1000000
 mb:m<=1000000
 inc:∀l∈tch,jW l
 nat:∀l∈tch,∀x∈l,∃i:Nat,i<n/\x=((i:Nat):Int)
 w5:∀l∈tch,l.length<=1000000
section
variable {n m:Nat}{tch:List (List Int)}
theorem w9(h:tp n m tch){u v:Nat}:v∈dU n tch u↔Lk n tch u v\/Lk n tch v u:=by
 unfold dU
 by_cases hu:u<n
 ·rw[aC hu,dD];constructor
  ·rintro⟨k,hk,rfl⟩;obtain⟨h1,h2⟩:=jo.1 hk;have h1:=oH.1 h1;rw[bP,List.getD_eq_getElem?_getD,aQ h1]at h2;exact .inl ⟨k,_,aQ h1,h2,rfl⟩
  ·rintro(⟨k,l,h1,h2,h3⟩|⟨k,l,h1,h2,h3⟩)
   ·refine⟨k,jo.2 ⟨oH.2 (aZ.1 h1).1,?_⟩,h3.symm⟩;rw[bP,List.getD_eq_getElem?_getD,h1];exact h2
   ·omega
 ·rw[aF hu,dD];constructor
  ·rintro⟨x,hx,rfl⟩;rw[List.getD_eq_getElem?_getD]at hx
   cases hl:tch[u - n]? with
   |none=>rw[hl]at hx;cases hx
   |some l=>
    rw[hl]at hx;obtain⟨i,hi,rfl⟩:=h.nat l (eL hl) x hx;exact .inr ⟨u - n,l,hl,hx,by omega⟩
  ·rintro(⟨k,l,h1,h2,h3⟩|⟨k,l,h1,h2,h3⟩)
   ·obtain⟨i,hi,e⟩:=h.nat l (eL h1) _ h2;omega
   ·refine⟨((v:Nat):Int),?_,by omega⟩;rw[List.getD_eq_getElem?_getD,show u - n=k by omega,h1];exact h2
theorem wH(h:tp n m tch){u v:Nat}(hv:v∈dU n tch u):u∈dU n tch v:=(w9 h).2 ((w9 h).1 hv).symm
theorem L9(h:tp n m tch){u v:Nat}(hv:Lk n tch u v):u<n/\n<=v/\v<n+m:=by
 obtain⟨k,l,h1,h2,h3⟩:=hv;obtain⟨i,hi,e⟩:=h.nat l (eL h1) _ h2;have:=(aZ.1 h1).1;rw[h.len]at this;exact⟨by omega,by omega,by omega⟩
theorem Ht(h:tp n m tch){u v:Nat}(hv:v∈dU n tch u):v<n+m:=by
 rcases(w9 h).1 hv with h1|h1
 ·exact(L9 h h1).2.2
 ·have:=(L9 h h1).1;omega
theorem Bt(h:tp n m tch)(u:Nat):(dU n tch u).length<=1000000:=by
 unfold dU;split
 ·rw[cE];have:=kP (λk=>decide<|((u:Nat):Int)∈tch.getD k [])<|List.range tch.length
  rw[List.length_range]at this;have:=h.len;have:=h.mb;omega
 ·rw[cE,List.getD_eq_getElem?_getD]
  cases hl:tch[u - n]? with
  |none=>simp
  |some l=>exact h.w5 l (eL hl)
end
section
variable {N:Nat}
theorem xB{l:List Int}{c:Int}(hi:jW l)(hl:l.length<=1000000)(hN:4398046511104<=N):Ok (i6 N l c) (λr=>r.2=decide (c∈l)):=by
 unfold i6;have hlt:∀(i j:Nat)(x y:Int),i<j->l[i]? =some x->l[j]? =some y->x<y:=λi j x y hij hx hy=>by
  obtain⟨h1,rfl⟩:=aZ.1 hx;obtain⟨h2,rfl⟩:=aZ.1 hy;exact mi.1 hi i j h1 h2 hij
 refine QJ (RJ (λst=>∃a b:Nat,st=(((a:Nat):Int),((b:Nat):Int))/\a<=b/\b<=l.length/\(∀(k:Nat)x,k<a->l[k]? =some x->x<c)/\(∀(k:Nat)x,b<=k->l[k]? =some x->c<=x)) (λst=>(st.2 - st.1).toNat)
  (Go:=λst=>∃a:Nat,st.1=((a:Nat):Int)/\a<=l.length/\(∀(k:Nat)x,k<a->l[k]? =some x->x<c)/\(∀(k:Nat)x,a<=k->l[k]? =some x->c<=x)) (Rt:=λ_=>False) ?_ ⟨0,l.length,rfl,dJ _,bV _,λk x hk=>by omega,λk x hk hx=>by have:=(aZ.1 hx).1;omega⟩ (by dsimp only;omega)) ?_
 ·rintro st⟨a,b,rfl,hab,hb,h1,h2⟩;dsimp only
  by_cases h:a<b
  ·rw[bJ (show((a:Nat):Int)<((b:Nat):Int)by omega),aK,Dx h (by omega)];have hml:(a+b) / 2<l.length:=by omega
   have hx:l[(a+b) / 2]? =some l[(a+b) / 2]:=aQ hml;have hc:pB N l[(a+b) / 2] c=some (decide<|l[(a+b) / 2]<c):=by
    unfold pB ot;simp
   refine QU hx<|QD hc ?_
   by_cases hlc:l[(a+b) / 2]<c
   ·rw[bJ hlc,aK,bL (by omega),aB];refine Q4 ⟨⟨(a+b) / 2+1,b,rfl,by omega,hb,λk x hk hxk=>?_,h2⟩,by dsimp only;omega⟩
    by_cases e:k=(a+b) / 2
    ·subst e;rw[hx]at hxk;injection hxk with hxk;omega
    ·have:=hlt k _ x _ (by omega) hxk hx;omega
   ·rw[bQ hlc,aM,aB];refine Q4 ⟨⟨a,(a+b) / 2,rfl,by omega,by omega,h1,λk x hk hxk=>?_⟩,by dsimp only;omega⟩
    by_cases e:k=(a+b) / 2
    ·subst e;rw[hx]at hxk;injection hxk with hxk;omega
    ·have:=hlt _ k _ x (by omega) hx hxk;omega
  ·rw[bQ (show ¬((a:Nat):Int)<((b:Nat):Int)by omega),aM];have:a=b:=by omega
   subst this;exact Q9 ⟨a,rfl,hb,h1,h2⟩
 ·intro o ho;refine Ra ho ?_<|λr hr=>hr.elim
  rintro⟨i,j⟩⟨a,h0,ha,h1,h2⟩;dsimp only at h0 ⊢;subst h0
  by_cases qx:a<l.length
  ·have hx:l[a]? =some l[a]:=aQ qx;rw[bJ (show((a:Nat):Int)<((l.length:Nat):Int)by omega),aK]
   by_cases e:l[a]=c
   ·refine QD (x:=true) (by rw[dC hx,aB,e,BEq.rfl,aK])<|QC ?_
    rw[bJ<|e▸cC qx]
   ·refine QD (x:=false) (by
     rw[dC hx,aB,show(l[a]==c)=false by rw[beq_eq_false_iff_ne];exact e,aM,aB];unfold lP
     simp) (QC ?_)
    have hn:c∉l:=λhm=>by
     obtain⟨k,hk⟩:=dN hm
     by_cases hka:k<a
     ·have:=h1 k c hka hk;omega
     ·by_cases hke:k=a
      ·subst hke;rw[hx]at hk;injection hk with hk;exact e hk
      ·have h3:=hlt a k _ _ (by omega) hx hk;have h4:=h2 a _ (bV _) hx;omega
    rw[bQ hn]
  ·rw[bQ (show ¬((a:Nat):Int)<((l.length:Nat):Int)by omega),aM];refine QD (x:=false) rfl<|QC ?_
   have hn:c∉l:=λhm=>by
    obtain⟨k,hk⟩:=dN hm;have:=(aZ.1 hk).1;have:=h1 k c (by omega) hk;omega
   rw[bQ hn]
variable {n m:Nat}{tch:List (List Int)}
theorem Io(h:tp n m tch){v:Nat}(hv:v<n+m)(hN:4398046511104<=N):iz N tch (dF n v)=some ((dU n tch v).map<|dF n):=by
 have hn:=h.nb;have hm:=h.mb;have hl:=h.len;unfold iz dF
 by_cases hvn:v<n
 ·rw[aC hvn];simp only[aM];refine RD ?_;refine QJ (RR (λk s=>s=(((List.range k).filter<|λk=>decide<|((v:Nat):Int)∈tch.getD k []).map<|λk=>n+k).map (dF n)) (by omega) rfl<|λk s hk e=>?_)<|λs e=>QC ?_
  ·subst e;have hx:tch[k]? =some tch[k]:=aQ hk;obtain⟨r,r1,r2⟩:=xB (N:=N) (c:=((v:Nat):Int)) (h.inc _<|cC hk) (h.w5 _<|cC hk) hN;have hlen:((((List.range k).filter<|λk=>decide<|((v:Nat):Int)∈tch.getD k []).map<|λk=>n+k).map<|dF n).length<=k:=by
    rw[cE,cE];have:=kP (λk=>decide<|((v:Nat):Int)∈tch.getD k [])<|List.range k
    rwa[List.length_range]at this
   have hg:tch.getD k []=tch[k]:=by rw[List.getD_eq_getElem?_getD,hx];rfl
   have ho:dF n (n+k)= ⟨true,((k:Nat):Int)⟩:=by unfold dF;rw[aF (by omega)];congr 1;omega
   refine QU hx<|QD r1 ?_
   rw[r2,List.range_succ,jq,dG,dG]
   by_cases hm':((v:Nat):Int)∈tch[k]
   ·rw[bJ hm',aK,List.filter_cons_of_pos (p:=λk=>decide<|((v:Nat):Int)∈tch.getD k []) (by rw[hg,bJ hm']),List.filter_nil,dW,List.map_nil,dW,List.map_nil,ho];refine QJ (P:=λs=>s=_) (Rp (by simp only[cS,List.length_nil];omega)<|QC rfl)<|λs hs=>QC hs
   ·rw[bQ hm',aM,List.filter_cons_of_neg (p:=λk=>decide<|((v:Nat):Int)∈tch.getD k []) (by rw[hg,bQ hm'];exact ka),List.filter_nil,List.map_nil,List.map_nil,lF,aB];exact QC rfl
  ·rw[e];unfold dU;rw[aC hvn];rfl
 ·rw[aF hvn];simp only[aK];have hk:v - n<tch.length:=by omega
  have hx:tch[v - n]? =some tch[v - n]:=aQ hk;have hf:=h.w5 _<|cC hk
  have hnat:=h.nat _<|cC hk
  rw[dC hx,aB];refine RD ?_;refine QJ (RR (λk s=>s=((tch[v - n].take k).map Int.toNat).map (dF n)) (by omega) rfl<|λk s hk2 e=>?_)<|λs e=>QC ?_
  ·subst e;have hy:tch[v - n][k]? =some tch[v - n][k]:=aQ hk2;obtain⟨i,hi,e⟩:=hnat _<|cC hk2
   have hlen:(((tch[v - n].take k).map Int.toNat).map<|dF n).length<=k:=by
    rw[cE,cE];exact List.length_take_le _ _
   refine QU hy<|Rp (by simp only[cS,List.length_nil];omega)<|QC ?_
   rw[eD hk2,dG,dG,dW,List.map_nil,dW,List.map_nil];congr 2;rw[e,cB];unfold dF;rw[aC hi]
  ·rw[e,eM];unfold dU;rw[aF hvn,List.getD_eq_getElem?_getD,hx];rfl
end
theorem CT{κ ν:Type}[DecidableEq κ]:∀{m:List (κ×ν)}{k:κ}{x:ν},gZ m k=false->(om m k x).length=m.length+1
 | [],k,x,_=>rfl
 |(k',y)::m,k,x,h=>by
  unfold om
  by_cases e:k=k'
  ·subst e;simp[gZ]at h
  ·have h':gZ m k=false:=by
    unfold gZ at h ⊢;simp[e]at h;simpa using h
   rw[aF e,cS,cS,CT h']
theorem BQ.bound{A:Nat->Nat->Prop}{s t p:Nat}{F:Nat->Option Nat}{ord:List Nat}(h:BQ A s t F ord p){v d:Nat}(hv:F v=some d):d<t:=by
 have ex:∀d v,F v=some d->∃l:List Nat,l.length=d+1/\l.Nodup/\∀x∈l,∃e,F x=some e/\e<=d:=by
  intro d
  induction d with
  |zero=>intro v hv;exact⟨[v],rfl,by simp,λx hx=>by rw[oI]at hx;subst hx;exact⟨0,hv,bV _⟩⟩
  |succ d ih=>
   intro v hv;obtain⟨u,_,hu⟩:=h.back v d hv;obtain⟨l,h1,h2,h3⟩:=ih u hu;refine⟨v::l,by simp[h1],List.nodup_cons.2 ⟨λhm=>?_,h2⟩,λx hx=>?_⟩
   ·obtain⟨e,h4,h5⟩:=h3 v hm;rw[hv]at h4;injection h4 with h4;omega
   ·rcases dM.1 hx with rfl|hx
    ·exact⟨d+1,hv,bV _⟩
    ·obtain⟨e,h4,h5⟩:=h3 x hx;exact⟨e,h4,by omega⟩
 obtain⟨l,h1,h2,h3⟩:=ex d v hv
 have:=Gs h2 (t:=t) (λx hx=>by
  obtain⟨e,h4,_⟩:=h3 x hx
  exact h.lt x ((h.mem x).1 (by rw[h4];exact λh=>by cases h)))
 omega
def Kx(n:Nat)(M:List (cL×Int))(F:Nat->Option Nat):Prop:=∀v,gZ M (dF n v)=(F v).isSome/\eX M (dF n v) 0=(((F v).getD 0:Nat):Int)
def Ky(N:Nat)(p0_6:List (List Int))(p1:cL)(al:cL->Bool):Option (List<|cL×Int):=
 (iC (λ(s37:List (cL×Int)×List cL)=>(bif decide ((s37.2.length:Int)>0)then((idx s37.2 0).bind λx234=>(iz N p0_6 x234).bind λx236=>(my x236.length (λ(k238:Nat)(s239:List (cL×Int)×List cL)=>((idx x236 (k238:Int)).bind λx299=>(bif(!(gZ s239.1 x299))then some (al x299)else some false).bind λs306=>(bif s306 then((idx s239.2 0).bind λx320=>(app 16 s239.2 ([x299]:List cL)).bind λx324=>some (om s239.1 x299<|wrap .i64<|eX s239.1 x320 (0:Int)+1,x324))else some (s239.1,s239.2)).bind λs317=>some (s317.1,s317.2):Option (List (cL×Int)×List cL))) (s37.1,s37.2)).bind λs239=>(sY s239.2 1 (s239.2.length:Int)).bind λx327=>some<|.nx (s239.1,x327))else(some<|.br (s37.1,s37.2)):Option (Fl (List (cL×Int)×List cL) Empty))) N (om ([]:List (cL×Int)) p1 0,([p1]:List cL))).bind λo330=>o330.cs (λ(s37:List (cL×Int)×List cL)=>some s37.1)<|λr=>r.elim
section
variable {N:Nat}
theorem MQ(tch:List (List Int))(h:cL):ln N tch h=Ky N tch h (λ_=>true):=rfl
theorem Ln(tch:List (List Int))(h w:cL):nU N tch h w=Ky N tch h (λx=> !(decide<|x=w)):=rfl
variable {n m:Nat}{tch:List (List Int)}
theorem EC(h:tp n m tch){s:Nat}(hs:s<n+m){al:cL->Bool}(hN:4398046511104<=N):
  ∃M F,Ky N tch (dF n s) al=some M/\Kx n M F/\mW (λu v=>v∈dU n tch u/\al (dF n v)=true) s F/\(∀v d,F v=some d->v<n+m/\d<n+m):=by
 have hn:=h.nb;have hm:=h.mb
 suffices hh:Ok (Ky N tch (dF n s) al) (λM=>∃F,Kx n M F/\mW (λu v=>v∈dU n tch u/\al (dF n v)=true) s F/\(∀v d,F v=some d->v<n+m/\d<n+m))by
  obtain⟨M,h1,F,h2,h3,h4⟩:=hh;exact⟨M,F,h1,h2,h3,h4⟩
 generalize hA:(λu v=>v∈dU n tch u/\al (dF n v)=true)=A;unfold Ky
 refine QJ (RJ (λst=>∃F ord p,BQ A s (n+m) F ord p/\p<=ord.length/\Kx n st.1 F/\st.2=(ord.drop p).map (dF n)/\st.1.length=ord.length) (λst=>(n+m - st.1.length)+st.2.length)
  (Go:=λst=>∃F ord p,BQ A s (n+m) F ord p/\ord.length<=p/\Kx n st.1 F) (Rt:=λ_=>False) ?_ ?_ ?_) ?_
 ·rintro⟨M,q⟩⟨F,ord,p,hB,hp,hMF,hq,hMl⟩;dsimp only at hMF hq hMl ⊢;have hol:=hB.len;subst hq
  by_cases hpl:p<ord.length
  ·have hd0:ord.drop p=ord[p]::ord.drop (p+1):=sW hpl;have hu:ord[p]? =some ord[p]:=aQ hpl;have hul:=hB.lt _<|cC hpl
   obtain⟨d,hd⟩:∃d,F ord[p]=some d:=by
    have:=(hB.mem ord[p]).2<|cC hpl
    cases hf:F ord[p]with
    |none=>exact absurd hf this
    |some d=>exact⟨d,rfl⟩
   rw[bJ (show((((ord.drop p).map<|dF n).length:Nat):Int)>0 by rw[cE,gC];omega),aK];have hq0:((ord.drop p).map<|dF n)[0]? =some (dF n ord[p]):=by rw[hd0];rfl
   have hi0:=dC hq0;refine QD hi0<|QD (Io h hul hN) ?_
   have qx:=Bt h ord[p];generalize hu0:ord[p]=u at *
   refine QJ (RR (λj st=>∃F' ord',BQ A s (n+m) F' ord' p/\p<ord'.length/\Kx n st.1 F'/\st.2=(ord'.drop p).map (dF n)/\st.1.length=ord'.length/\ord'[p]? =some u/\F' u=some d/\(∀(i v:Nat),i<j->(dU n tch u)[i]? =some v->A u v->F' v≠none)/\(n+m - st.1.length)+st.2.length=(n+m - M.length)+((ord.drop p).map (dF n)).length)
    (by rw[cE];omega) ⟨F,ord,hB,hpl,hMF,rfl,hMl,hu,hd,λi v hi=>by omega,rfl⟩ (λj st hj I=>?_)) ?_
   ·obtain⟨M',q'⟩:=st;obtain⟨F',ord',b1,b2,b3,b4,b5,b6,b7,b8,b9⟩:=I;dsimp only at b3 b4 b5 b9 ⊢;subst b4;rw[cE]at hj;have hx:((dU n tch u).map<|dF n)[j]? =some (dF n (dU n tch u)[j]):=by rw[eR,aQ hj];rfl
    have hxa:(dU n tch u)[j]? =some (dU n tch u)[j]:=aQ hj;have hxm:(dU n tch u)[j]∈dU n tch u:=cC hj;have hxl:=Ht h hxm;refine QU hx ?_;generalize (dU n tch u)[j]=v at *;obtain⟨f1,f2⟩:=b3 v;have ob:=b1.len;have keep8:∀{F2:Nat->Option Nat},(∀x,F' x≠none->F2 x≠none)->(A u v->F2 v≠none)->∀(i x:Nat),i<j+1->(dU n tch u)[i]? =some x->A u x->F2 x≠none:=λ{F2}g1 g2 i x hi hix hax=>by
     by_cases e:i<j
     ·exact g1 x<|b8 i x e hix hax
     ·have:i=j:=by omega
      subst this;rw[hxa]at hix;injection hix with hix
      subst hix;exact g2 hax
    cases hfv:F' v with
    |some e=>
     rw[hfv]at f1;have f1:gZ M' (dF n v)=true:=f1;rw[f1];exact QC ⟨F',ord',b1,b2,b3,rfl,b5,b6,b7,keep8 (λx hx=>hx) (λ_=>by rw[hfv];exact λh=>by cases h),b9⟩
    |none=>
     rw[hfv]at f1;have f1:gZ M' (dF n v)=false:=f1;rw[f1,oK,aK,aB]
     cases hav:al (dF n v)with
     |false=>
      rw[aM,aB];exact QC ⟨F',ord',b1,b2,b3,rfl,b5,b6,b7,keep8 (λx hx=>hx) (λha=>by rw[<-hA]at ha;rw[hav]at ha;exact absurd ha.2 (by decide)),b9⟩
     |true=>
      have hAuv:A u v:=by rw[<-hA];exact⟨hxm,hav⟩
      have hpush:=b1.push b6 b7 hAuv hxl hfv;have hpb:=b1.bound b7;have hpl2:=hpush.len;rw[dB,cS,List.length_nil]at hpl2;have hq0':((ord'.drop p).map<|dF n)[0]? =some (dF n u):=by
       rw[eR,gh];simp only[Nat.add_zero];rw[b6];rfl
      have hgu:eX M' (dF n u) 0=((d:Nat):Int):=by rw[(b3 u).2,b7];rfl
      have hvu:v≠u:=λe=>by rw[e,b7]at hfv;cases hfv
      rw[aK];have hdl:(ord'++[v]).drop p=ord'.drop p++[v]:=List.drop_append_of_le_length (by omega);refine QD (x:=(om M' (dF n v) ((d+1:Nat):Int),((ord'++[v]).drop p).map<|dF n)) ?_<|QC ⟨_,_,hpush,?_,?_,rfl,?_,?_,?_,keep8 (λx hx=>?_)<|λ_=>?_,?_⟩
      ·have hi0':idx ((ord'.drop p).map<|dF n) 0=some (dF n u):=dC hq0';rw[hi0',aB,j6 (by simp only[cE,gC,cS,List.length_nil];omega),aB,hgu,bL (by omega),hdl,dG];rfl
      ·rw[dB];omega
      ·intro x;dsimp only;rw[Aa,uj]
       by_cases e:x=v
       ·subst e;rw[aC rfl,aC rfl,bJ rfl];exact⟨rfl,rfl⟩
       ·have e':dF n x≠dF n v:=λh=>e<|rS h
        rw[aF e,aF e',bQ e',Bool.false_or];exact b3 x
      ·dsimp only;rw[CT f1,b5];simp
      ·rw[gp b2];exact b6
      ·rw[aF<|Ne.symm hvu];exact b7
      ·by_cases e:x=v
       ·rw[aC e];exact λh=>by cases h
       ·rw[aF e];exact hx
      ·rw[aC rfl];exact λh=>by cases h
      ·dsimp only;rw[CT f1,hdl,dG,dB,dW,List.map_nil,cS,List.length_nil];omega
   ·rintro⟨M',q'⟩⟨F',ord',b1,b2,b3,b4,b5,b6,b7,b8,b9⟩;dsimp only at b3 b4 b5 b9 ⊢;subst b4
    have hnx:=b1.next b6 b7 (λv hv=>by
     have hv':=hv;rw[<-hA]at hv';obtain⟨i,hi⟩:=dN hv'.1
     exact b8 i v (by rw[cE];exact(aZ.1 hi).1) hi hv)
    have hsl:sY ((ord'.drop p).map<|dF n) 1 ((((ord'.drop p).map<|dF n).length:Nat):Int)=some ((ord'.drop<|p+1).map<|dF n):=by
     have:=pL ((ord'.drop p).map<|dF n) 1 (by rw[cE,gC];omega);rw[<-List.map_drop,List.drop_drop]at this;exact this
    have ob:=b1.len;refine QD hsl<|Q4 ⟨⟨F',ord',p+1,hnx,by omega,b3,rfl,b5⟩,?_⟩
    dsimp only;simp only[cE,gC]at b9 ⊢;omega
  ·rw[bQ (show ¬((((ord.drop p).map<|dF n).length:Nat):Int)>0 by rw[cE,gC];omega),aM];exact Q9 ⟨F,ord,p,hB,by omega,hMF⟩
 ·refine⟨_,[s],0,BQ.start A hs,by simp,λv=>?_,rfl,rfl⟩;dsimp only;rw[Aa,uj]
  by_cases e:v=s
  ·subst e;rw[aC rfl,aC rfl,bJ rfl];exact⟨rfl,rfl⟩
  ·have e':dF n v≠dF n s:=λh=>e<|rS h
   rw[aF e,aF e',bQ e'];exact⟨rfl,rfl⟩
 ·show(n+m - 1)+1<N;omega
 ·intro o ho;refine Ra ho ?_<|λr hr=>hr.elim
  rintro⟨M,q⟩⟨F,ord,p,hB,hp,hMF⟩;exact QC ⟨F,hMF,hB.done hp,λv d hv=>⟨hB.lt v<|(hB.mem v).1 (by rw[hv];exact λh=>by cases h),hB.bound hv⟩⟩
theorem MR(h:tp n m tch){x y:Nat}(hx:x<n+m)(hy:y<n+m){F:Nat->Option Nat}(hF:mW (λu v=>v∈dU n tch u) y F)(hN:4398046511104<=N):
  i7 N tch (dF n x) (dF n y)=some (match F x with|none=>([],false)|some d=>((oG (dU n tch) F d x).map<|dF n,true)):=by
 have hn:=h.nb;have hm:=h.mb;obtain⟨M,F',f1,f2,f3,f4⟩:=EC (N:=N) h hy (al:=λ_=>true) hN;have hFF:F'=F:=by
  refine mW.uniq (A:=λu v=>v∈dU n tch u) ⟨f3.zero,f3.Hr,λv d hv=>?_,λu v d huv hu=>f3.step u v d ⟨huv,rfl⟩ hu⟩ hF;obtain⟨u,h1,h2⟩:=f3.back v d hv;exact⟨u,h1.1,h2⟩
 subst hFF;have hAs:∀u v,(λu v=>v∈dU n tch u) u v->u∈dU n tch v:=λu v huv=>wH h huv;unfold i7;rw[MQ,f1,aB,(f2 x).1]
 cases hfx:F' x with
 |none=>rfl
 |some d=>
  rw[Option.isSome_some,kQ,aM];refine RD ?_
  refine QJ (RJ (λst=>∃u e,F' u=some e/\e<=d/\st.2=dF n u/\st.1.length+e=d+1/\st.1++((oG (dU n tch) F' e u).tail).map (dF n)=(oG (dU n tch) F' d x).map (dF n)) (λst=>(eX M st.2 0).toNat)
   (Go:=λst=>st.1=(oG (dU n tch) F' d x).map (dF n)) (Rt:=λ_=>False) ?_ ?_ ?_) ?_
  ·rintro⟨out,q⟩⟨u,e,h1,h2,h3,h4,h5⟩;dsimp only at h3 h4 h5 ⊢;subst h3;obtain⟨hul,_⟩:=f4 u e h1;obtain⟨_,hdl⟩:=f4 x d hfx;have hgu:eX M (dF n u) 0=((e:Nat):Int):=by rw[(f2 u).2,h1];rfl
   cases e with
   |zero=>
    have:u=y:=hF.Hr u h1;subst this;rw[bJ rfl,kQ,aM];exact Q9 (by dsimp only;rw[<-h5];simp[oG])
   |succ e=>
    have huy:u≠y:=λe2=>by subst e2;rw[hF.zero]at h1;injection h1 with h1;omega
    rw[bQ<|λh=>huy<|rS h,oK,aK];obtain⟨w1,w2,w3⟩:=CS (adj:=dU n tch) hF hAs h1;refine QD (Io h hul hN) ?_;have qx:=Bt h u;refine QJ (SM (λk s=>s=dF n u/\∀(i v:Nat),i<k->(dU n tch u)[i]? =some v->F' v≠some e) (Go:=λs=>s=dF n (xR (dU n tch) F' e u)) (Rt:=λ_=>False) (by rw[cE];omega) ⟨rfl,λi v hi=>by omega⟩ (λk s hk I=>?_)<|λs I=>?_) ?_
    ·obtain⟨rfl,I⟩:=I;rw[cE]at hk;have hxv:((dU n tch u).map<|dF n)[k]? =some (dF n (dU n tch u)[k]):=by rw[eR,aQ hk];rfl
     have hxa:(dU n tch u)[k]? =some (dU n tch u)[k]:=aQ hk;refine QU hxv ?_;obtain⟨g1,g2⟩:=f2 (dU n tch u)[k];have ec:(bif gZ M (dF n (dU n tch u)[k])then some (eX M (dF n (dU n tch u)[k]) (0:Int)==wrap .i64 (eX M (dF n u) (0:Int) - 1))else some false)=some (decide<|F' (dU n tch u)[k]=some e):=by
      rw[g1,g2,hgu,iH (by omega) (by omega)]
      cases hfk:F' (dU n tch u)[k]with
      |none=>rfl
      |some e'=>
       rw[Option.isSome_some,aK,Option.getD_some];congr 1;rw[eT,beq_iff_eq,bP];constructor
       ·intro h;congr 1;omega
       ·intro h;injection h with h;omega
     refine QD ec ?_
     by_cases hfk:F' (dU n tch u)[k]=some e
     ·rw[bJ hfk,aK];refine Q9 ?_;have hfind:(dU n tch u).find? (λn=>decide<|F' n=some e)=some (dU n tch u)[k]:=by
       rw[List.find?_eq_some_iff_getElem];refine⟨by rw[bP];exact hfk,k,hk,rfl,λj hj=>?_⟩;have:=I j _ hj<|aQ (by omega)
       simpa using this
      rw[w3]at hfind;injection hfind with hfind
      rw[hfind]
     ·rw[bQ hfk,aM];refine Q4 ⟨rfl,λi v hi hiv=>?_⟩
      by_cases e2:i<k
      ·exact I i v e2 hiv
      ·have:i=k:=by omega
       subst this;rw[hxa]at hiv;injection hiv with hiv
       subst hiv;exact hfk
    ·obtain⟨i,hi⟩:=dN w1;exact absurd w2<|I.2 i _ (by rw[cE];exact(aZ.1 hi).1) hi
    ·intro o ho;refine Ra ho ?_<|λr hr=>hr.elim
     rintro _ rfl;refine Rp (by simp only[cS,List.length_nil];omega)<|Q4 ⟨⟨_,e,w2,by omega,rfl,by simp only[dB,cS,List.length_nil];omega,?_⟩,?_⟩
     ·rw[<-h5];show(out++[dF n<|xR (dU n tch) F' e u])++_=out++(oG (dU n tch) F' e<|xR (dU n tch) F' e u).map (dF n);rw[ku];congr 1
      cases e with
      |zero=>rfl
      |succ e=>rfl
     ·dsimp only;rw[(f2 _).2,w2,hgu,Option.getD_some];omega
  ·refine⟨x,d,hfx,bV _,rfl,by simp;omega,?_⟩
   cases d <;> rfl
  ·dsimp only;rw[(f2 x).2,hfx,Option.getD_some];have:=(f4 x d hfx).2;omega
  ·intro o ho;refine Ra ho ?_<|λr hr=>hr.elim
   rintro⟨out,q⟩hst;dsimp only at hst;subst hst;exact QC rfl
end
theorem Es.uniq{n m:Nat}{tch:List (List Int)}{r1 r2:Nat->Nat}(h1:Es n m tch r1)(h2:Es n m tch r2){i j:Nat}(hi:i<n+m)(hj:j<n+m):r1 i=r1 j↔r2 i=r2 j:=by
 have key:∀{r1 r2:Nat->Nat},Es n m tch r1->Es n m tch r2->r1 i=r1 j->r2 i=r2 j:=λ{r1 r2}h1 h2 e=>
  (h1.fi (λx=>r2 i=r2 x) (λa b hab=>by rw[h2.co a b hab]) i j hi hj e) rfl
 exact⟨key h1 h2,key h2 h1⟩
section
variable {N:Nat}{a:jT}{lE:List (List aA)}{dA:List (List (List aA))}{r:Nat->Nat}{gs:List cP}{ofP ofB pW:List Int}{pX:List cL}
structure QA (bs:List cD) (pcs:List aI) (ls:List eP) (r2:Nat->Nat) (j:Nat) (up:List Int) (fm:List (Int×Int)) (out:List Int):Prop where
 uf:UF (pcs.length+bs.length) up r2
 len:out.length=ls.length
 no:∀i l,i<j->ls[i]? =some l->l5 bs pcs l=none->out[i]? =some (-1)
 yes:∀i l h,i<j->ls[i]? =some l->l5 bs pcs l=some h->gZ fm ((r2 (eJ pcs.length h):Nat):Int)=true/\out[i]? =some (eX fm ((r2 (eJ pcs.length h):Nat):Int) 0)
 low:∀x,gZ fm x=true->∃v:Nat,eX fm x 0=((v:Nat):Int)/\v<j
 inj:∀x y,gZ fm x=true->gZ fm y=true->eX fm x 0=eX fm y 0->x=y
end
section
variable {N:Nat}
end
noncomputable def GA(n:Nat)(tch:List (List Int))(u v w:Nat):Bool:=decide (w=u\/w=v\/∀F,mW (λa b=>b∈dU n tch a/\b≠w) v F->F u=none)
section
variable {N:Nat}{a:jT}{lE:List (List aA)}{dA:List (List (List aA))}{r:Nat->Nat}{gs:List cP}{ofP ofB pW:List Int}{pX:List cL}
theorem uF(b:mw a lE dA r gs ofP ofB pW pX):tp (aR 0 dA).length a.aL.length (dO a.aL<|aR 0 dA):=by
 have hf:=b.w5.2;have hbl:=b.Aj.gb.len;refine⟨by unfold dO;simp,by omega,by omega,λl hl=>?_,λl hl=>(Cx (by omega) l hl).2,λl hl=>?_⟩
 ·unfold dO at hl;obtain⟨x,_,rfl⟩:=dD.1 hl;exact CN<|List.Pairwise.filter _ List.pairwise_lt_range
 ·unfold dO at hl;obtain⟨x,_,rfl⟩:=dD.1 hl;have:=w6 (il x) (aR 0 dA) (aR 0 dA).length;rw[gX];omega
theorem CU(b:mw a lE dA r gs ofP ofB pW pX){F:Nat->Option Nat}{u v:Nat}(hu:u<(aR 0 dA).length+a.aL.length)(hv:v<(aR 0 dA).length+a.aL.length)(hF:mW (λx y=>y∈dU (aR 0 dA).length (dO a.aL<|aR 0 dA) x) v F):F u≠none↔r u=r v:=by
 have hT:=uF b;constructor
 ·intro h;refine(hF.reach u).1 h (λx=>r x=r v) rfl<|λx y hxy hx=>?_
  rcases(w9 hT).1 hxy with h1|h1
  ·rw[<-b.L7.conn.co _ _ h1];exact hx
  ·rw[b.L7.conn.co _ _ h1];exact hx
 ·intro h;refine b.L7.conn.fi (λx=>F x≠none) (λi j hij=>?_) v u hv hu h.symm (by rw[hF.zero];exact λh=>by cases h);have key:∀{i j},j∈dU (aR 0 dA).length (dO a.aL<|aR 0 dA) i->F i≠none->F j≠none:=λ{i j}hij hi=>by
   cases hfi:F i with
   |none=>exact absurd hfi hi
   |some d=>
    obtain⟨e,h1,_⟩:=hF.step i j d hij hfi;rw[h1];exact λh=>by cases h
  exact⟨key<|(w9 hT).2<|.inl hij,key<|(w9 hT).2<|.inr hij⟩
theorem Hu(b:mw a lE dA r gs ofP ofB pW pX){v:Nat}(hv:v<(aR 0 dA).length+a.aL.length)(hN:4398046511104<=N):∃F,mW (λx y=>y∈dU (aR 0 dA).length (dO a.aL<|aR 0 dA) x) v F/\∀x d,F x=some d->x<(aR 0 dA).length+a.aL.length/\d<(aR 0 dA).length+a.aL.length:=by
 obtain⟨M,F,_,_,f3,f4⟩:=EC (N:=N) (uF b) hv (al:=λ_=>true) hN;refine⟨F,⟨f3.zero,f3.Hr,λv d hv=>?_,λu v d huv hu=>f3.step u v d ⟨huv,rfl⟩ hu⟩,f4⟩;obtain⟨u,h1,h2⟩:=f3.back v d hv;exact⟨u,h1.1,h2⟩
theorem Ip(b:mw a lE dA r gs ofP ofB pW pX)(p q:eE)(hN:4398046511104<=N):
  iw N a.aJ a.cM a.aL a.bN pW pX p q=some (bif decide (jC a p<0)||decide (jC a q<0)then(⟨false,0⟩,⟨false,0⟩,false,9)else
   (((a.bN[(jC a p).toNat]?).bind (l5 a.aL (aR 0 dA))).getD ⟨false,0⟩,((a.bN[(jC a q).toNat]?).bind (l5 a.aL (aR 0 dA))).getD ⟨false,0⟩,((a.bN[(jC a p).toNat]?).bind (l5 a.aL (aR 0 dA))).isSome&&((a.bN[(jC a q).toNat]?).bind (l5 a.aL (aR 0 dA))).isSome,0)):=by
 have hA:∀p,lC N (⟨a.aJ,a.cM,a.aL,a.bN⟩:jT) p=some (jC a p):=λp=>Ji b.F6 p hN;unfold iw;rw[hA,aB,hA,aB]
 rcases tk a p with⟨e1,_⟩|⟨i,x,e1,hx,_⟩
 ·rw[e1];rfl
 rcases tk a q with⟨e2,_⟩|⟨k,y,e2,hy,_⟩
 ·rw[e2,bJ (show(-1:Int)<0 by decide),Bool.or_true,aK,aK]
 have o1:pW[i]? =some (I7 a.aL (aR 0 dA) r x):=by rw[b.L7.pW,eR,hx];rfl
 have o2:pW[k]? =some (I7 a.aL (aR 0 dA) r y):=by rw[b.L7.pW,eR,hy];rfl
 have a1:pX[i]? =some ((l5 a.aL (aR 0 dA) x).getD ⟨false,0⟩):=by rw[b.L7.pX,eR,hx];rfl
 have a2:pX[k]? =some ((l5 a.aL (aR 0 dA) y).getD ⟨false,0⟩):=by rw[b.L7.pX,eR,hy];rfl
 have hs:∀z:eP,decide (I7 a.aL (aR 0 dA) r z>=0)=(l5 a.aL (aR 0 dA) z).isSome:=λz=>by
  unfold I7 Bb
  cases l5 a.aL (aR 0 dA) z with
  |none=>rfl
  |some h=>rw[Option.map_some,Option.isSome_some,bP];dsimp only;omega
 rw[e1,e2,bQ (show ¬((i:Nat):Int)<0 by omega),bQ (show ¬((k:Nat):Int)<0 by omega),Bool.or_false,aM,aM,dC a1,aB,dC a2,aB,dC o1,aB,dC o2,aB,hs,hs,cB,cB,hx,hy,Option.bind_some,Option.bind_some]
 cases(l5 a.aL (aR 0 dA) x).isSome <;> rfl
inductive OK (N:Nat) (a:jT) (p q:eE):Prop
 |err (e:Int) (he:e≠0) (h:jI N a p q=some ([],false,e)) (h2:fG N a p q=some ([],e))
 |none {lE:List (List aA)} {dA:List (List (List aA))} {r:Nat->Nat} {gs:List cP} {ofP ofB pW:List Int} {pX:List cL} (b:mw a lE dA r gs ofP ofB pW pX)
  (ho:i5 N a=some (some (a.aJ,a.cM,a.aL,a.bN,lE,aR 0 dA,dO a.aL<|aR 0 dA,gs,ofP,ofB,pW,pX),0)) {i k:Nat} {x y:eP} (ep:jC a p=((i:Nat):Int)) (hx:a.bN[i]? =some x) (eq:jC a q=((k:Nat):Int)) (hy:a.bN[k]? =some y)
  (hn:∀h h',l5 a.aL (aR 0 dA) x=some h->l5 a.aL (aR 0 dA) y=some h'->r (eJ (aR 0 dA).length h)≠r (eJ (aR 0 dA).length h')) (h:jI N a p q=some ([],false,0)) (h2:fG N a p q=some ([],9))
 |way {lE:List (List aA)} {dA:List (List (List aA))} {r:Nat->Nat} {gs:List cP} {ofP ofB pW:List Int} {pX:List cL} (b:mw a lE dA r gs ofP ofB pW pX)
  (ho:i5 N a=some (some (a.aJ,a.cM,a.aL,a.bN,lE,aR 0 dA,dO a.aL<|aR 0 dA,gs,ofP,ofB,pW,pX),0)) {i k:Nat} {x y:eP} (ep:jC a p=((i:Nat):Int)) (hx:a.bN[i]? =some x) (eq:jC a q=((k:Nat):Int)) (hy:a.bN[k]? =some y)
  {h h':cL} (hh:l5 a.aL (aR 0 dA) x=some h) (hh':l5 a.aL (aR 0 dA) y=some h') (hr:r (eJ (aR 0 dA).length h)=r (eJ (aR 0 dA).length h')) {F:Nat->Option Nat} {d:Nat}
  (hF:mW (λx y=>y∈dU (aR 0 dA).length (dO a.aL<|aR 0 dA) x) (eJ (aR 0 dA).length h') F) (hd:F (eJ (aR 0 dA).length h)=some d) (hdl:d<(aR 0 dA).length+a.aL.length)
  (h1:jI N a p q=some ((oG (dU (aR 0 dA).length<|dO a.aL<|aR 0 dA) F d<|eJ (aR 0 dA).length h).map<|dF (aR 0 dA).length,true,0))
  (h2:fG N a p q=some (((oG (dU (aR 0 dA).length<|dO a.aL<|aR 0 dA) F d<|eJ (aR 0 dA).length h).filter<|GA (aR 0 dA).length (dO a.aL<|aR 0 dA) (eJ (aR 0 dA).length h)<|eJ (aR 0 dA).length h').map<|dF (aR 0 dA).length,0)):OK N a p q
theorem Jl{a:jT}(ha:uy a)(p q:eE)(hN:4398046511104<=N):OK N a p q:=by
 rcases opened (N:=N) ha hN with⟨e,he,h⟩|⟨b,h⟩
 ·have hb:(e != 0)=true:=by simpa using he
  refine .err e he ?_ ?_
  ·unfold jI;rw[h,aB];simp only[GQ,hb,aK]
  ·unfold fG;rw[h,aB];simp only[GQ,hb,aK]
 rename_i lE dA r gs ofP ofB pW pX;have hT:=uF b;have hE:=Ip b p q hN;have hf:=b.w5.2;have hbl:=b.Aj.gb.len;have gW:∀(x:cL×cL×Bool×Int),iw N a.aJ a.cM a.aL a.bN pW pX p q=some x->jI N a p q=bif(x.2.2.2 != 0)||(!x.2.2.1)then some ([],false,x.2.2.2)else((i7 N (dO a.aL<|aR 0 dA) x.1 x.2.1).bind λx63=>some (x63.1,x63.2,0)):=λx hx=>by
  unfold jI;rw[h,aB];simp only[GQ,bne_self_eq_false,aM];rw[hx,aB]
 have gB:∀(x:cL×cL×Bool×Int),iw N a.aJ a.cM a.aL a.bN pW pX p q=some x->(x.2.2.2=0->x.2.2.1=false->fG N a p q=some ([],9))/\(x.2.2.2≠0->fG N a p q=some ([],x.2.2.2)):=λx hx=>by
  unfold fG;rw[h,aB];simp only[GQ,bne_self_eq_false,aM];rw[hx,aB];refine⟨λh0 h1=>?_,λh0=>?_⟩
  ·rw[h0,h1];rfl
  ·rw[show(x.2.2.2 != 0)=true by simpa using h0];rfl
 rcases tk a p with⟨e1,_⟩|⟨i,x,e1,hx,_⟩
 ·rw[e1]at hE;exact .err 9 (by decide) ((gW _ hE).trans rfl)<|(gB _ hE).2<|λh=>absurd (show(9:Int)=0 from h) (by decide)
 rcases tk a q with⟨e2,_⟩|⟨k,y,e2,hy,_⟩
 ·rw[e2,bJ (show(-1:Int)<0 by decide),Bool.or_true]at hE;exact .err 9 (by decide) ((gW _ hE).trans rfl)<|(gB _ hE).2<|λh=>absurd (show(9:Int)=0 from h) (by decide)
 rw[e1,e2,bQ (show ¬((i:Nat):Int)<0 by omega),bQ (show ¬((k:Nat):Int)<0 by omega),Bool.or_false,aM,cB,cB,hx,hy,Option.bind_some,Option.bind_some]at hE
 cases hh:l5 a.aL (aR 0 dA) x with
 |none=>
  rw[hh]at hE;exact .none b h e1 hx e2 hy (λh h' hz=>by rw[hh]at hz;cases hz) ((gW _ hE).trans rfl)<|(gB _ hE).1 rfl rfl
 |some h1=>
  cases hh':l5 a.aL (aR 0 dA) y with
  |none=>
   rw[hh,hh']at hE;exact .none b h e1 hx e2 hy (λh h' _ hz=>by rw[hh']at hz;cases hz) ((gW _ hE).trans rfl)<|(gB _ hE).1 rfl rfl
  |some h2=>
   rw[hh,hh']at hE;obtain⟨u1,u2⟩:=qN<|q6 hh
   obtain⟨v1,v2⟩:=qN<|q6 hh'
   obtain⟨F,hF,hFb⟩:=Hu b v2 hN;have hW:=MR (N:=N) hT u2 v2 hF hN;rw[u1,v1]at hW;have hroot:=CU b u2 v2 hF;have hWay:=gW _ hE;simp only[Option.isSome_some,Bool.and_self,bne_self_eq_false,kQ,Bool.or_self,aM,Option.getD_some]at hWay;rw[hW,aB]at hWay;have hBr:fG N a p q=(match F (eJ (aR 0 dA).length h1)with|none=>some ([],9)|some d=>some (((oG (dU (aR 0 dA).length<|dO a.aL<|aR 0 dA) F d<|eJ (aR 0 dA).length h1).filter<|GA (aR 0 dA).length (dO a.aL<|aR 0 dA) (eJ (aR 0 dA).length h1)<|eJ (aR 0 dA).length h2).map<|dF (aR 0 dA).length,0)):=by
    unfold fG;rw[h,aB];simp only[GQ,bne_self_eq_false,aM];rw[hE,aB];simp only[Option.isSome_some,Bool.and_self,bne_self_eq_false,aM,aK,Option.getD_some];rw[hW,aB,aB]
    cases hd:F (eJ (aR 0 dA).length h1)with
    |none=>rfl
    |some d=>
     simp only[kQ,aM];obtain⟨_,hdl⟩:=hFb _ _ hd;have hlen:=wG (adj:=dU (aR 0 dA).length<|dO a.aL<|aR 0 dA) (F:=F) d<|eJ (aR 0 dA).length h1
     have hAs:∀u v,(λu v=>v∈dU (aR 0 dA).length (dO a.aL<|aR 0 dA) u) u v->u∈dU (aR 0 dA).length (dO a.aL<|aR 0 dA) v:=λu v huv=>wH hT huv;have hat:=λj w hw=>Bs hF hAs d _ hd j w hw;generalize hu:eJ (aR 0 dA).length h1=u at *;generalize hv:eJ (aR 0 dA).length h2=v at *;generalize oG (dU (aR 0 dA).length<|dO a.aL<|aR 0 dA) F d u=L at *
     rw[KZ (s:=([]:List cL)) (λj=>((L.take j).filter (GA (aR 0 dA).length (dO a.aL (aR 0 dA)) u v)).map (dF (aR 0 dA).length)) (by rw[cE];omega) rfl (λj hj=>by
      rw[cE]at hj;have hw:L[j]? =some L[j]:=aQ hj;have hxw:(L.map<|dF (aR 0 dA).length)[j]? =some (dF (aR 0 dA).length L[j]):=by rw[eR,hw];rfl
      obtain⟨_,hFw⟩:=hat j L[j] hw;obtain⟨hwl,_⟩:=hFb _ _ hFw;obtain⟨M,G,g1,g2,g3,g4⟩:=EC (N:=N) hT v2 (al:=λx=> !(decide<|x=dF (aR 0 dA).length L[j])) hN;rw[v1]at g1;have eA:(λu v=>v∈dU (aR 0 dA).length (dO a.aL<|aR 0 dA) u/\(!(decide<|dF (aR 0 dA).length v=dF (aR 0 dA).length L[j]))=true)=(λa' b'=>b'∈dU (aR 0 dA).length (dO a.aL<|aR 0 dA) a'/\b'≠L[j]):=by
       funext s t;refine propext<|and_congr_right λ_=>?_
       rw[Bool.not_eq_true',decide_eq_false_iff_not];exact⟨λh e=>h (by rw[e]),λh e=>h<|rS e⟩
      rw[eA]at g3;have hlj:(((L.take j).filter<|GA (aR 0 dA).length (dO a.aL<|aR 0 dA) u v).map<|dF (aR 0 dA).length).length<=j:=by
       rw[cE];exact Nat.le_trans (kP _ _)<|List.length_take_le _ _
      have ec:(bif decide (dF (aR 0 dA).length L[j]=h1)then some true else some (decide (dF (aR 0 dA).length L[j]=h2)||(!(gZ M h1))))=some (GA (aR 0 dA).length (dO a.aL<|aR 0 dA) u v L[j]):=by
       have d1:(dF (aR 0 dA).length L[j]=h1)↔L[j]=u:=by rw[<-u1];exact⟨rS,λh=>by rw[h]⟩
       have d2:(dF (aR 0 dA).length L[j]=h2)↔L[j]=v:=by rw[<-v1];exact⟨rS,λh=>by rw[h]⟩
       have d3:gZ M h1=(G u).isSome:=by rw[<-u1];exact(g2 u).1
       have d4:(∀F,mW (λa' b'=>b'∈dU (aR 0 dA).length (dO a.aL<|aR 0 dA) a'/\b'≠L[j]) v F->F u=none)↔G u=none:=⟨λh=>h G g3,λh F hF2=>by rw[hF2.uniq g3];exact h⟩;unfold GA;rw[d3]
       by_cases k1:L[j]=u
       ·rw[bJ<|d1.2 k1,aK,bJ<|.inl k1]
       ·rw[bQ<|λh=>k1<|d1.1 h,aM];congr 1;rw[eT,dS,bP,bP,d2,d4,Bool.not_eq_true',Option.isSome_eq_false_iff,Option.isNone_iff_eq_none];exact⟨λh=> .inr h,λh=>h.resolve_left k1⟩
      rw[dC hxw,aB,Ln,g1,aB,ec,aB,eD hj,jq,dG]
      cases hbr:GA (aR 0 dA).length (dO a.aL<|aR 0 dA) u v L[j]with
      |true=>rw[aK,j6 (by simp only[cS,List.length_nil];omega),aB,aB,List.filter_cons_of_pos hbr,List.filter_nil];rfl
      |false=>rw[aM,aB,List.filter_cons_of_neg (by rw[hbr];exact ka),List.filter_nil,List.map_nil,lF]),aB,cE,eM]
   cases hd:F (eJ (aR 0 dA).length h1)with
   |none=>
    rw[hd]at hWay hBr;refine .none b h e1 hx e2 hy (λa1 a2 z1 z2 hr=>?_) hWay hBr;rw[hh]at z1;injection z1 with z1;subst z1
    rw[hh']at z2;injection z2 with z2;subst z2
    exact(hroot.2 hr) hd
   |some d=>
    rw[hd]at hWay hBr;exact .way b h e1 hx e2 hy hh hh' (hroot.1 (by rw[hd];exact λh=>by cases h)) hF hd (hFb _ _ hd).2 hWay hBr
end
theorem mW.Ma{adj:Nat->List Nat}{v w:Nat}{F:Nat->Option Nat}(hF:mW (λa b=>b∈adj a/\b≠w) v F)(hv:v≠w):mW (λa b=>b∈adj a/\a≠w/\b≠w) v F:=by
 have hw:F w=none:=by
  cases hf:F w with
  |none=>rfl
  |some d=>
   cases d with
   |zero=>exact absurd (hF.Hr w hf).symm hv
   |succ d=>obtain⟨u,h1,_⟩:=hF.back w d hf;exact absurd rfl h1.2
 refine⟨hF.zero,hF.Hr,λx d hx=>?_,λu x d hux hu=>hF.step u x d ⟨hux.1,hux.2.2⟩ hu⟩;obtain⟨u,h1,h2⟩:=hF.back x d hx;exact⟨u,⟨h1.1,(λe=>by rw[e,hw]at h2;cases h2),h1.2⟩,h2⟩
theorem Gt{adj:Nat->List Nat}(hA:∀a b,b∈adj a->a∈adj b){u v w:Nat}(hu:u≠w)(hv:v≠w){F G:Nat->Option Nat}(hF:mW (λa b=>b∈adj a/\b≠w) u F)(hG:mW (λa b=>b∈adj a/\b≠w) v G):F v=none↔G u=none:=by
 have:=Hs (λa b h=>⟨hA a b h.1,h.2.2,h.2.1⟩) (hF.Ma hu)<|hG.Ma hv
 constructor
 ·intro h;exact Classical.byContradiction λhn=>this.2 hn h
 ·intro h;exact Classical.byContradiction λhn=>this.1 hn h
theorem Lo{adj:Nat->List Nat}{u w:Nat}{F:Nat->Option Nat}(hu:u≠w)(hF:mW (λa b=>b∈adj a/\b≠w) u F):F w=none:=by
 cases hf:F w with
 |none=>rfl
 |some d=>
  cases d with
  |zero=>exact absurd (hF.Hr w hf).symm hu
  |succ d=>obtain⟨x,h1,_⟩:=hF.back w d hf;exact absurd rfl h1.2
def dst(F:Nat->Option Nat)(v:Nat):Int:=(F v).elim (-1)<|λd=>((d:Nat):Int)
theorem ED{F:Nat->Option Nat}{v:Nat}:dst F v<0↔F v=none:=by
 unfold dst
 cases F v with
 |none=>simp
 |some d=>simp
theorem qO{F:Nat->Option Nat}{v d:Nat}(h:F v=some d):dst F v=((d:Nat):Int):=by unfold dst;rw[h];rfl
theorem MS{F:Nat->Option Nat}{v d:Nat}:dst F v=((d:Nat):Int)↔F v=some d:=by
 unfold dst
 cases F v with
 |none=>simp
 |some e=>
  show((e:Nat):Int)=((d:Nat):Int)↔some e=some d;constructor
  ·intro h;congr 1;omega
  ·intro h;injection h with h;omega
def vl(t:Nat)(F:Nat->Option Nat):List Int:=(List.range t).map<|dst F
theorem zG(t:Nat)(F:Nat->Option Nat):(vl t F).length=t:=by unfold vl;simp
theorem qu{t v:Nat}(F:Nat->Option Nat)(h:v<t):(vl t F)[v]? =some (dst F v):=by unfold vl;rw[eR,List.getElem?_range h];rfl
theorem Gu{t v d:Nat}{F:Nat->Option Nat}(h:v<t):(vl t F).set v ((d:Nat):Int)=vl t (λx=>if x=v then some d else F x):=by
 refine List.ext_getElem? λj=>?_
 by_cases hj:j<t
 ·rw[qu _ hj]
  by_cases e:v=j
  ·subst e;rw[List.getElem?_set_self (by rw[zG];exact h)];unfold dst;dsimp only;rw[aC rfl];rfl
  ·rw[List.getElem?_set_ne e,qu _ hj];unfold dst;dsimp only;rw[aF<|Ne.symm e]
 ·rw[List.getElem?_eq_none (by rw[jk,zG];omega),List.getElem?_eq_none (by rw[zG];omega)]
theorem Hv{t s:Nat}(h:s<t):(List.replicate t (-1:Int)).set s 0=vl t (λx=>if x=s then some 0 else none):=by
 have e:List.replicate t (-1:Int)=vl t (λ_=>none):=by
  refine List.ext_getElem? λj=>?_
  by_cases hj:j<t
  ·rw[qu _ hj,List.getElem?_replicate,aC hj];rfl
  ·rw[List.getElem?_eq_none (by simp;omega),List.getElem?_eq_none (by rw[zG];omega)]
 rw[e];exact Gu (d:=0) h
section
variable {n m:Nat}{tch:List (List Int)}
theorem MT(h:tp n m tch)(u:Nat):(dU n tch u).Pairwise (· < ·):=by
 unfold dU
 by_cases hu:u<n
 ·rw[aC hu,List.pairwise_map];exact List.Pairwise.imp (λh=>by omega)<|List.Pairwise.filter _ List.pairwise_lt_range
 ·rw[aF hu,List.pairwise_map,List.getD_eq_getElem?_getD]
  cases hl:tch[u - n]? with
  |none=>exact j9
  |some l=>
   rw[Option.getD_some];have hm:=eL hl;refine List.Pairwise.imp_of_mem (λ{x y}hx hy hxy=>?_)<|h.inc l hm
   obtain⟨i,_,e1⟩:=h.nat l hm x hx;obtain⟨j,_,e2⟩:=h.nat l hm y hy;have hxy:x<y:=hxy;omega
end
def vm(p:Nat->Bool)(l:List Nat):Int:=l.foldl (λs x=>if p x=true/\(s<0\/((x:Nat):Int)<s)then((x:Nat):Int)else s)<|-1
theorem Gv{p:Nat->Bool}:∀{l:List Nat},l.Pairwise (· < ·)->vm p l=(l.find? p).elim (-1) (λx=>((x:Nat):Int)):=by
 have key:∀(l:List Nat)(s:Int),0<=s->(∀x∈l,s<((x:Nat):Int))->l.foldl (λs x=>if p x=true/\(s<0\/((x:Nat):Int)<s)then((x:Nat):Int)else s) s=s:=by
  intro l
  induction l with
  |nil=>intro s _ _;rfl
  |cons x l ih=>
   intro s h0 h;have hx:=h x<|List.mem_cons_self ..
   rw[List.foldl_cons,aF (by omega)];exact ih s h0<|λy hy=>h y<|ir _ hy
 intro l
 induction l with
 |nil=>intro _;rfl
 |cons x l ih=>
  intro h;obtain⟨h1,h2⟩:=oJ.1 h;unfold vm;rw[List.foldl_cons]
  cases hp:p x with
  |true=>
   rw[aC ⟨rfl, .inl (by omega)⟩,List.find?_cons_of_pos hp];exact key l _ (by omega) (λy hy=>by have:=h1 y hy;omega)
  |false=>
   rw[aF (λh=>by cases h.1),List.find?_cons_of_neg (by rw[hp];exact ka)];exact ih h2
theorem Gw{p:Nat->Bool}{l:List Nat}{k:Nat}(hk:k<l.length):vm p (l.take<|k+1)=if p l[k]=true/\(vm p (l.take k)<0\/((l[k]:Nat):Int)<vm p (l.take k))then((l[k]:Nat):Int)else vm p (l.take k):=by
 unfold vm;rw[eD hk,List.foldl_append];rfl
end Go.Gk
