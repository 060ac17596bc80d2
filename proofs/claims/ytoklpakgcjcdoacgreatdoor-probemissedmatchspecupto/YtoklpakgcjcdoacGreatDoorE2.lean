/-
  Helping texts: plain functions and plain laws. No statement of the seed is proved here.
-/
import Derived.Test.YtoklpakgcjcdoacGreatDoorE1
import Derived.Test.YtoklpakgcjcdoacGreatDoorA2
set_option linter.unusedVariables false
set_option linter.unusedSimpArgs false
set_option linter.unusedSectionVars false
namespace Go.Gk
open Go IntKind Classical
section
variable {N:Nat}
def F6(a:gM):Prop:=∀x∈a.bO,x.Part.dV.length<=2097152/\x.eG.dV.length<=2097152
theorem G7{a:gM}(h1:a.aL.length<=1073741824)(h2:a.bO.length<=1073741824)(h3:F6 a)(hN:4194304<=N):mo N a=some (nS a):=by
 unfold mo nS
 by_cases h:1000<a.bO.length
 ·grind
 ·have hw:wrap .i64 ((a.aL.length:Int) - 1)=(a.aL.length:Int) - 1:=gC (by omega) (by omega)
  rw[cA (by omega),aR,aH h,rZ (lZ a) (by omega) (λk hk _=>by
   have hx:a.bO[k]? =some a.bO[k]:=aM hk;have hs:=h3 _<|cH hk
   rw[cB hx,aB,CM hs.1 hN,aB]
   have hle:lZ a k=(if(qc a.bO[k].Part&&isWord a.bO[k].eG)=true then
     if(ij a.bO[k].cM 0 ((a.aL.length:Int) - 1)&&vo a.bO[k].At)=true then
      if 0<k/\(∃y,a.bO[k - 1]? =some y/\ik (lj a.bO[k]) (lj y)<=0)then some 8 else none
     else some 1
    else some 5):=by unfold lZ;rw[hx];rfl
   rw[hle];have e1:((bif(!qc a.bO[k].Part)then some true else((kF N a.bO[k].eG).bind λx225=>some<|!x225)):aT Bool)=some (!(qc a.bO[k].Part&&isWord a.bO[k].eG)):=by
    grind [vZ,aB,qc]
   have e2:((jQ N a.bO[k].cM 0<|wrap .i64<|(a.aL.length:Int) - 1).bind λx318=>bif(!x318)then some true else((ly N a.bO[k].At).bind λx321=>some<|!x321))=some (!(ij a.bO[k].cM 0 ((a.aL.length:Int) - 1)&&vo a.bO[k].At)):=by
    grind [BP,aB,D6]
   show((bif(!qc a.bO[k].Part)then some true else((kF N a.bO[k].eG).bind λx225=>some<|!x225)):aT Bool).bind _=_;rw[e1,aB]
   cases h4:(qc a.bO[k].Part&&isWord a.bO[k].eG)with
   |false=>rfl
   |true=>
    rw[lq,aR,aF rfl];show(((jQ N a.bO[k].cM 0<|wrap .i64<|(a.aL.length:Int) - 1).bind λx318=>bif(!x318)then some true else((ly N a.bO[k].At).bind λx321=>some<|!x321))).bind _=_;rw[e2,aB]
    cases h5:(ij a.bO[k].cM 0 ((a.aL.length:Int) - 1)&&vo a.bO[k].At)with
    |false=>rfl
    |true=>
     rw[lq,aR,aF rfl]
     by_cases h0:0<k
     ·rw[bS (by omega),aP,iL h0 (by omega),nu _ _ (by omega)];simp only[DB,aB,qK]
      by_cases h6:ik (lj a.bO[k]) (lj a.bO[k - 1])<=0
      ·rw[bS h6,aF ⟨h0,_,aM (by omega),h6⟩];rfl
      ·rw[cA h6,aH (by
        grind)];rfl
     ·rw[cA (by omega),aH (λh=>h0 h.1)];rfl),aB]
  cases rY a.bO.length (lZ a) <;> rfl
def m7(b:bU)(k:Int):Bool:=decide (b.cO<=k)&&decide (k<=b.To)
theorem F7(b:bU)(k:Int):mQ N b k=some (m7 b k):=rfl
def lS(bs:Z bU)(k:Int):Z aG:=(bs.filter<|λb=>m7 b k).map zK
structure lF (bs:Z bU):Prop where
 len:bs.length<=500
 ok:∀b∈bs,t8 b=true/\dO (zK b)=true
structure ye (r hs:Z aG) (s:Z aA):Prop where
 can:fY (s.map cR)
 cover:∀x y,yW (s.map cR) x y=(vW r x y&& !vW hs x y)
 FQ:BX (xh r++xh hs) (kB r++kB hs) (s.map cR)
theorem DC{bs:Z bU}(h:lF bs)(k:Int):(lS bs k).length<=500:=by
 unfold lS;rw[dQ];have:=ln (λb=>m7 b k) bs;have:=h.len;omega
theorem vq{bs:Z bU}(h:lF bs)(k:Int):∀r∈lS bs k,GK r/\dO r=true:=by
 intro r hr;unfold lS at hr;obtain⟨b,hb,rfl⟩:=dN.1 hr;have:=h.ok b (ll.1 hb).1
 grind [RD]
theorem ye.small{r hs:Z aG}{s:Z aA}(h:ye r hs s)(h1:∀x∈r,GK x)(h2:∀x∈hs,GK x):(∀c∈xh r++xh hs,small c)/\∀c∈kB r++kB hs,small c:=by
 constructor
 ·intro c hc
  rcases dJ.1 hc with h|h
  ·obtain⟨x,hx,rfl|rfl⟩:=xk.1 h
   ·exact(h1 x hx).s1
   ·exact(h1 x hx).s2
  ·obtain⟨x,hx,rfl|rfl⟩:=xk.1 h
   ·exact(h2 x hx).s1
   ·exact(h2 x hx).s2
 ·intro c hc
  rcases dJ.1 hc with h|h
  ·obtain⟨x,hx,rfl|rfl⟩:=pf.1 h
   ·exact(h1 x hx).s3
   ·exact(h1 x hx).s4
  ·obtain⟨x,hx,rfl|rfl⟩:=pf.1 h
   ·exact(h2 x hx).s3
   ·exact(h2 x hx).s4
theorem Am{s:Z aA}{X Y:Z Int}{A:Nat}(hc:fY (s.map cR))(h:BX X Y (s.map cR))(hX:X.length<=A)(hY:Y.length<=A):s.length<=A/\(∀b∈s,b.Xs.length<=A)/\(bA s).length<=A*A:=by
 have h1:s.length<=A:=by have:=h.len hc;grind
 have h2:∀b∈s,b.Xs.length<=A:=λb hb=>by
  have:=h.row hc (b:=cR b)<|dN.2 ⟨b,hb,rfl⟩
  grind [cR]
 simp_all[FU]
theorem G8{r hs:Z aG}(h1:r.length<=2000)(h2:∀x∈r,GK x)(h3:hs.length<=500)(h4:∀x∈hs,GK x)(hN:ns N){β:Type}{f:Z aA->aT β}{Q:β->Prop}(k:∀s,ye r hs s->Ok (f s) Q):
  Ok ((jq N r).bind λx378=>(jq N hs).bind λx380=>(mR N x378 x380).bind f) Q:=by
 refine WO (sP (N:=N) (by omega) h2 (by omega))<|λs hs1=>?_
 refine WO (sP (N:=N) (by omega) h4 (by omega))<|λt ht=>?_
 have hz:∀c∈kB r++kB hs,small c:=by
  intro c hc
  rcases dJ.1 hc with h|h
  ·obtain⟨x,hx,rfl|rfl⟩:=pf.1 h
   ·exact(h2 x hx).s3
   ·exact(h2 x hx).s4
  ·obtain⟨x,hx,rfl|rfl⟩:=pf.1 h
   ·exact(h4 x hx).s3
   ·exact(h4 x hx).s4
 refine WO (Nu (X:=xh r++xh hs) (Y:=kB r++kB hs) hs1.can ht.can (hs1.FQ.mono (λc h=>List.mem_append_left _ h) (λc h=>List.mem_append_left _ h)) (ht.FQ.mono (λc h=>List.mem_append_right _ h) (λc h=>List.mem_append_right _ h))
  (by grind [eC,vl]) (by grind [eC,nQ]) hz hN) (λu hu=>?_)
 exact k u ⟨hu.can,λx y=>by rw[hu.cover,hs1.cover,ht.cover],hu.FQ⟩
def bP:Nat->Z (Z<|Z aA)->Z aD
 |_,[]=>[]
 |k,ps::r=>ps.map (λp=>⟨(k:Int),p,bA p⟩)++bP (k+1) r
theorem yf(ps:Z (Z aA)):∀(r:Z (Z<|Z aA))(k:Nat),bP k (r++[ps])=bP k r++ps.map (λp=>⟨((k+r.length:Nat):Int),p,bA p⟩)
 | [],k=>by unfold bP;simp[bP]
 |q::r,k=>by
  show _++bP (k+1) (r++[ps])=(_++bP (k+1) r)++_;rw[yf ps r<|k+1,kN];congr 3;simp only[eN];rw[show k+(r.length+1)=k+1+r.length by omega]
theorem F8{s p:Z aA}{ps:Z (Z aA)}{r:Nat->Nat}{X Y:Z Int}(h:vX s r ps)(hc:fY (s.map cR))(hl:BX X Y (s.map cR))(hX:∀c∈X,small c)(hY:∀c∈Y,small c)(hp:p∈ps):
  ∃j k:Nat,ps[j]? =some p/\(bV (bA s).length r)[j]? =some k/\vm (pj (bA s) (bA s).length r k) p/\BX X Y (p.map cR):=by
 obtain⟨j,hj⟩:=eE hp;have hjl:=(bR.1 hj).1;rw[h.len]at hjl;have hh:(bV (bA s).length r)[j]? =some (bV (bA s).length r)[j]:=aM hjl;have hs:=h.each j _ p hh hj;refine⟨j,_,hj,hh,hs,hs.FQ.mono (λc hcx=>?_)<|λc hcx=>?_⟩
 ·obtain⟨x,hx,hxc⟩:=xk.1 hcx;obtain⟨i,_,_,hi⟩:=m6.1 hx;have:=FW hc hl hX hY x<|gh hi
  grind
 ·obtain⟨x,hx,hxc⟩:=pf.1 hcx;obtain⟨i,_,_,hi⟩:=m6.1 hx;have:=FW hc hl hX hY x<|gh hi
  grind
structure zN (cs:Z (Z aG)) (bs:Z bU) (k:Nat) (kb:Z (Z aA)) (cI:Z (Z (Z aA))):Prop where
 len:kb.length=k
 DD:cI.length=k
 dr:∀(i:Nat)r s,i<k->cs[i]? =some r->kb[i]? =some s->ye r (lS bs (i:Int)) s
 pt:∀(i:Nat)s ps,i<k->kb[i]? =some s->cI[i]? =some ps->∃u,vX s u ps
 yU:(bP 0 cI).length<=k*25000000
theorem vX.yU{s:Z aA}{u:Nat->Nat}{ps:Z (Z aA)}(h:vX s u ps):ps.length<=(bA s).length:=by
 rw[h.len];exact me _ _
theorem LO{cs:Z (Z aG)}{bs:Z bU}(hcs:cs.length<=16)(hc:∀r∈cs,r.length<=2000/\∀x∈r,GK x)(hb:lF bs)(hN:ns N):
  Ok (lJ N cs bs [] []) (λx=>∃cI,zN cs bs cs.length x.2.1 cI/\x.2.2=bP 0 cI/\(x.1=true↔(∀s∈x.2.1,(bA s).length<=2000)/\x.2.2.length<=2000)):=by
 unfold lJ
 refine WO (P:=λ(st:Z (Z aA)×Z aD×Bool)=>∃cI,zN cs bs cs.length st.1 cI/\st.2.1=bP 0 cI/\(st.2.2=true↔∀s∈st.1,(bA s).length<=2000)) (XM (λ(k:Nat)(st:Z (Z aA)×Z aD×Bool)=>∃cI,zN cs bs k st.1 cI/\st.2.1=bP 0 cI/\(st.2.2=true↔∀s∈st.1,(bA s).length<=2000)) (by omega)
  ⟨[],⟨rfl,rfl,λi r s hi=>by omega,λi s ps hi=>by omega,by simp[bP]⟩,rfl,by simp⟩ (λk st hk hI=>?_)) ?_
 ·obtain⟨kb,pcs,okk⟩:=st;obtain⟨cI,D,e1,e2⟩:=hI;dsimp only at D e1 e2 ⊢;subst e1;have hkx:cs[k]? =some cs[k]:=aM hk;obtain⟨hr1,hr2⟩:=hc _<|cH hk
  refine WV hkx ?_;refine WO (P:=λt=>t=lS bs ((k:Nat):Int)) (Ok.mono (XM (λj t=>t=lS (bs.take j) ((k:Nat):Int)) (by have:=hb.len;omega) rfl<|λj t hj e=>?_) (λt e=>by rw[e,eD]))<|λt e=>?_
  ·subst e;refine XN hj<|IT (F7 _ _) ?_
   have hts:bs.take (j+1)=bs.take j++[bs[j]]:=dM hj;have hgb:=hb.ok _<|cH hj
   have hl:(lS (bs.take j) ((k:Nat):Int)).length<=500:=by
    unfold lS;rw[dQ];have:=ln (λb=>m7 b ((k:Nat):Int))<|bs.take j
    rw[dE]at this;have:=hb.len;omega
   cases ht:m7 bs[j] ((k:Nat):Int)with
   |false=>
    grind [IT,IS,lS]
   |true=>
    rw[aP]
    grind [IT,lS,po,aB,j4,IS]
  ·subst e;have hho:=vq hb ((k:Nat):Int);have hhl:=DC hb ((k:Nat):Int);refine G8 hr1 hr2 hhl (λx hx=>(hho x hx).1) hN<|λs hs=>?_
   obtain⟨sx,sy⟩:=hs.small hr2<|λx hx=>(hho x hx).1
   obtain⟨z1,z2,z3⟩:=Am (A:=5000) hs.can hs.FQ (by grind [eC,vl]) (by grind [eC,nQ]);have hmany:=Qt (N:=N) (s:=s) (by omega) (λb hb=>by grind) (by omega);refine IT (x:=(okk&&decide ((bA s).length<=2000),s)) ?_ ?_
   ·grind [aB,decide,bA]
   dsimp only;refine XC (by rw[D.len];simp;omega) ?_;refine WO (LL (N:=N) hs.can hs.FQ sx sy (by omega) (λb hb=>by grind) (by omega) hN) ?_;rintro ps⟨u,hu⟩;have hfew:=hu.yU;have hk16:k*25000000<=16*25000000:=Nat.mul_le_mul_right _ (by omega);have hDf:=D.yU;refine WO (P:=λt=>t=bP 0 cI++ps.map (λp=>(⟨((k:Nat):Int),p,bA p⟩:aD))) (Ok.mono (XM (λj t=>t=bP 0 cI++(ps.take j).map (λp=>(⟨((k:Nat):Int),p,bA p⟩:aD))) (by omega) (by simp)<|λj t hj e=>?_) (λt e=>by rw[e,eD]))<|λt e=>IS ?_
   ·subst e;have hjx:ps[j]? =some ps[j]:=aM hj;refine WV hjx ?_;obtain⟨_,_,_,_,py,hpl⟩:=F8 hu hs.can hs.FQ sx sy<|cH hj
    obtain⟨y1,y2,y3⟩:=Am (A:=5000) py.can hpl (by grind [eC,vl]) (by grind [eC,nQ]);refine IT (FV (xm py.can) (by omega) (λb hb=>by grind) (by omega))<|XC ?_<|IS ?_
    ·grind
    grind [dM,kN]
   ·subst e;refine⟨cI++[ps],⟨by simp[D.len],by simp[D.DD],λi r s' hi hr hs'=>?_,λi s' ps' hi hs' hps'=>?_,?_⟩,?_,?_⟩
    ·dsimp only at hs'
     by_cases hik:i<k
     ·rw[kM (by rw[D.len];exact hik)]at hs';exact D.dr i r s' hik hr hs'
     ·have:i=k:=by omega
      subst this;rw[ku (by rw[D.len];omega),D.len,Nat.sub_self]at hs';simp at hs';subst hs';rw[hkx]at hr;injection hr with hr;subst hr
      exact hs
    ·dsimp only at hs'
     by_cases hik:i<k
     ·rw[kM (by rw[D.len];exact hik)]at hs';rw[kM (by rw[D.DD];exact hik)]at hps';exact D.pt i s' ps' hik hs' hps'
     ·have:i=k:=by omega
      subst this;rw[ku (by rw[D.len];omega),D.len,Nat.sub_self]at hs';rw[ku (by rw[D.DD];omega),D.DD,Nat.sub_self]at hps';simp at hs' hps';subst hs';subst hps';exact⟨u,hu⟩
    ·rw[yf,eC,dQ];omega
    ·dsimp only;rw[yf,D.DD,jT]
    ·dsimp only;rw[dB,e2,dF];constructor
     ·rintro⟨h1,h2⟩s' hs'
      rcases dJ.1 hs' with h|h
      ·exact h1 s' h
      ·simp at h;subst h;exact h2
     ·intro h;exact⟨λs' hs'=>h s'<|List.mem_append_left _ hs',h s (by simp)⟩
 ·rintro⟨kb,pcs,okk⟩⟨cI,D,e1,e2⟩;dsimp only at D e1 e2 ⊢;subst e1;refine WO (P:=λb=>b=true↔(∀s∈kb,(bA s).length<=2000)/\(bP 0 cI).length<=2000) (Xn (λh=>IS ?_)<|λh=>IS ?_)<|λb hb=>IS ⟨cI,D,rfl,hb⟩
  ·rw[dF];constructor
   ·intro h';exact⟨e2.1 h,by omega⟩
   ·rintro⟨_,h'⟩;omega
  ·constructor
   ·intro h';cases h'
   ·rintro⟨h',_⟩;rw[e2.2 h']at h;cases h
end
section
variable {N:Nat}
section
variable {α:Type}
def ry(P:α->Bool)(l:Z α)(n:Nat):Z Nat:=(List.range n).filter<|λk=>(l[k]?).any P
theorem BQ{P:α->Bool}{l:Z α}{n:Nat}{x:α}(h:l[n]? =some x):ry P l (n+1)=if P x=true then ry P l n++[n]else ry P l n:=by
 grind [ry,List.range_succ]
theorem DE(P:α->Bool)(l:Z α)(n:Nat):(ry P l n).length<=n:=by
 have:=ln (λk=>(l[k]?).any P)<|List.range n
 rw[List.length_range]at this;exact this
theorem NB{P:α->Bool}{l:Z α}{n k:Nat}:k∈ry P l n↔k<n/\(l[k]?).any P=true:=by simp[ry]
theorem CP{β:Type}{l:Z α}(P:α->Bool)(g:Nat->β):rY l.length (λk=>(l[k]?).bind λx=>if P x=true then some (g k)else none)=(l.findIdx? P).map g:=by
 cases h:l.findIdx? P with
 |none=>
  grind [List.findIdx?_eq_none_iff,km,aM,cH]
 |some j=>
  obtain⟨hj,hp,hn⟩:=List.findIdx?_eq_some_iff_getElem.1 h;refine kn.2 ⟨j,hj,by grind,λi hi=>?_⟩
  grind
end
def ints(l:Z Nat):Z Int:=l.map λi=>((i:Nat):Int)
theorem tH(l m:Z Nat):ints (l++m)=ints l++ints m:=fH
theorem my(l:Z Nat):(ints l).length=l.length:=dQ _
theorem qz{l:Z Nat}{x:Int}:x∈ints l↔∃i∈l,x=((i:Nat):Int):=by
 grind [ints]
def uA(p0 p1:aG):Bool:=(((decide (p0.X0<p1.X1)&&decide (p1.X0<p0.X1))&&((p0.Y1==p1.Y0)||(p1.Y1==p0.Y0)))||((decide (p0.Y0<p1.Y1)&&decide (p1.Y0<p0.Y1))&&((p0.X1==p1.X0)||(p1.X1==p0.X0))))
def i9(b:bU)(p:aD):Bool:=b.fJ&&(m7 b p.cM&&p.dY.any (λr=>uA r<|zK b))
def cU(bs:Z bU)(pcs:Z aD):Z (Z Int):=bs.map λb=>ints<|ry (i9 b) pcs pcs.length
theorem v7{l:Z aG}{φ:aG->aT Bool}(p:aG->Bool)(hl:l.length<=4611686018427387904)(h:∀x∈l,φ x=some (p x)):iY N l φ=some (l.any p):=
 wT p hl h
theorem O2{bs:Z bU}{pcs:Z aD}(hb:lF bs)(hp:pcs.length<=1073741824)(hr:∀p∈pcs,p.dY.length<=1073741824):lK N bs pcs []=some (cU bs pcs):=by
 refine XL ?_;have hbl:=hb.len;unfold lK;refine WO (XM (λk st=>st=cU (bs.take k) pcs) (by omega) rfl<|λk st hk e=>?_)<|λst e=>IS (by rw[e,eD])
 subst e;have hg:=hb.ok _<|cH hk
 refine XN hk ?_;refine WO (P:=λt=>t=ints (ry (i9 bs[k]) pcs pcs.length)) (XM (λj t=>t=ints (ry (i9 bs[k]) pcs j)) (by omega) rfl<|λj t hj e=>?_)<|λt e=>?_
 ·subst e;have hjx:pcs[j]? =some pcs[j]:=aM hj;have hl:=DE (i9 bs[k]) pcs j;refine WV hjx ?_;refine IT (x:=i9 bs[k] pcs[j]) ?_ ?_
  ·unfold i9
   cases bs[k].fJ with
   |false=>rfl
   |true=>
    rw[aP,F7,aB,Bool.true_and]
    cases m7 bs[k] pcs[j].cM with
    |false=>rfl
    |true=>
     rw[aP,v7 (λr=>uA r (zK bs[k])) (by grind) (λr _=>by
      unfold lW;rw[po hg.1];rfl),aB,Bool.true_and]
  ·rw[BQ hjx]
   cases ht:i9 bs[k] pcs[j]with
   |false=>simp[aR,aH,IT,IS]
   |true=>
    rw[aP,aF rfl]
    grind [IT,ints,ry,i9,j4,my,aB,IS,tH]
 grind [XC,IS,cU,dM]
def D8(r:Z aG)(p:dW):Bool:=r.any<|λx=>decide (p.X>=x.X0)&&(decide (p.X<x.X1)&&(decide (p.Y>=x.Y0)&&decide (p.Y<x.Y1)))
theorem CQ{r:Z aG}{p:dW}(hl:r.length<=4611686018427387904):ma N r p=some (D8 r p):=by
 unfold ma
 rw[v7 (λx=>decide (p.X>=x.X0)&&(decide (p.X<x.X1)&&(decide (p.Y>=x.Y0)&&decide (p.Y<x.Y1)))) hl (λx _=>by
  grind [nk,decide])];rfl
def nE(l:cX)(b:bU):Bool:=b.fJ&&(m7 b l.cM&&D8 [zK b] l.At)
def mz(l:cX)(p:aD):Bool:=(p.cM==l.cM)&&D8 p.dY l.At
def rF(bs:Z bU)(pcs:Z aD)(l:cX):aT dZ:=match bs.findIdx? (nE l)with
 |some k=>some ⟨true,((k:Nat):Int)⟩
 |none=>(pcs.findIdx? (mz l)).map λk=>⟨false,((k:Nat):Int)⟩
theorem O3{bs:Z bU}{pcs:Z aD}(hb:lF bs)(hp:pcs.length<=1073741824)(hr:∀p∈pcs,p.dY.length<=1073741824)(l:cX):
  lM N bs pcs l=some ((rF bs pcs l).getD ⟨false,0⟩,(rF bs pcs l).isSome):=by
 have hbl:=hb.len;unfold lM
 rw[rZ (λk=>(bs[k]?).bind λx=>if nE l x=true then some ((⟨true,((k:Nat):Int)⟩:dZ),true)else none) (by omega) (λk hk _=>by
  have hkx:bs[k]? =some bs[k]:=aM hk;have hg:=hb.ok _<|cH hk
  rw[cB hkx,aB,hkx,po hg.1,aB,aB,CQ (by simp)];unfold nE
  cases bs[k].fJ with
  |false=>rfl
  |true=>
   show(((bif m7 bs[k] l.cM then _ else _:aT Bool)).bind _)=_
   cases m7 bs[k] l.cM with
   |false=>rfl
   |true=>
    cases D8 [zK bs[k]] l.At <;> rfl),aB,CP (nE l) (λk=>((⟨true,((k:Nat):Int)⟩:dZ),true))]
 unfold rF
 cases bs.findIdx? (nE l)with
 |some k=>rfl
 |none=>
  show((vA pcs.length _ ()).bind _)=_
  rw[rZ (λk=>(pcs[k]?).bind λx=>if mz l x=true then some ((⟨false,((k:Nat):Int)⟩:dZ),true)else none) (by omega) (λk hk _=>by
   have hkx:pcs[k]? =some pcs[k]:=aM hk;rw[cB hkx,aB,hkx,aB,CQ (by have:=hr _<|cH hk;omega)];unfold mz
   cases pcs[k].cM==l.cM with
   |false=>rfl
   |true=>cases D8 pcs[k].dY l.At <;> rfl),aB,CP (mz l) (λk=>((⟨false,((k:Nat):Int)⟩:dZ),true))]
  cases pcs.findIdx? (mz l) <;> rfl
def Lk(n:Nat)(tch:Z (Z Int))(i j:Nat):Prop:=∃(k:Nat)(l:Z Int),tch[k]? =some l/\(i:Int)∈l/\j=n+k
structure EF (n m:Nat) (tch:Z (Z Int)) (r:Nat->Nat):Prop where
 le:∀i,i<n+m->r i<=i
 rr:∀i,i<n+m->r (r i)=r i
 co:∀i j,Lk n tch i j->r i=r j
 fi:∀S:Nat->Prop,(∀i j,Lk n tch i j->(S i↔S j))->∀i j,i<n+m->j<n+m->r i=r j->S i->S j
theorem HK{n m:Nat}{tch:Z (Z Int)}(hm:tch.length=m)(ht:∀l∈tch,l.length<=1073741824/\∀x∈l,∃i:Nat,i<n/\x=((i:Nat):Int))(hn:n<=1073741824)(hm2:m<=1073741824){up:Z Int}(hu:UF (n+m) up (λi=>i))(hN:ns N):
  Ok (kL tch.length (λ(k34:Nat)(s35:Z Int)=>((idx tch (k34:Int)).bind λx89=>(kL x89.length (λ(k92:Nat)(s93:Z Int)=>((idx x89 (k92:Int)).bind λx107=>(fV N s93 x107<|wrap .i64<|(n:Int)+(k34:Int)).bind λx109=>some x109:aT (Z Int))) s35).bind λs93=>some s93:aT (Z Int))) up)
   (λup'=>∃r,UF (n+m) up' r/\EF n m tch r):=by
 have base:Ok (kL tch.length (λ(k34:Nat)(s35:Z Int)=>((idx tch (k34:Int)).bind λx89=>(kL x89.length (λ(k92:Nat)(s93:Z Int)=>((idx x89 (k92:Int)).bind λx107=>(fV N s93 x107<|wrap .i64<|(n:Int)+(k34:Int)).bind λx109=>some x109:aT (Z Int))) s35).bind λs93=>some s93:aT (Z Int))) up)
   (λup'=>∃r E,UF (n+m) up' r/\oq r E/\yT (n+m) r E/\(∀p∈E,Lk n tch p.1 p.2)/\∀(k:Nat)l(i:Nat),k<tch.length->tch[k]? =some l->((i:Nat):Int)∈l->(i,n+k)∈E):=by
  refine XM (λq up'=>∃r E,UF (n+m) up' r/\oq r E/\yT (n+m) r E/\(∀p∈E,Lk n tch p.1 p.2)/\∀(k:Nat)l(i:Nat),k<q->tch[k]? =some l->((i:Nat):Int)∈l->(i,n+k)∈E) (by omega)
   ⟨_,_,hu,oq.id,yT.id _,λp hp=>(by cases hp),λk l i hk=>by omega⟩ (λq up' hq hI=>?_)
  obtain⟨r,E,h1,h2,h3,h4,h5⟩:=hI;have hqx:tch[q]? =some tch[q]:=aM hq;obtain⟨hl1,hl2⟩:=ht _<|cH hq
  refine WV hqx ?_;rw[wrap_add (by omega)]
  refine WO (XM (λt up'=>∃r E,UF (n+m) up' r/\oq r E/\yT (n+m) r E/\(∀p∈E,Lk n tch p.1 p.2)/\(∀(k:Nat)l(i:Nat),k<q->tch[k]? =some l->((i:Nat):Int)∈l->(i,n+k)∈E)/\∀i:Nat,((i:Nat):Int)∈tch[q].take t->(i,n+q)∈E) (by omega)
   ⟨r,E,h1,h2,h3,h4,h5,λi hi=>by simp at hi⟩ (λt up' htl hI=>?_)) (λup' hI=>IS ?_)
  ·obtain⟨r,E,h1,h2,h3,h4,h5,h6⟩:=hI;refine XN htl ?_;obtain⟨i,hi,e⟩:=hl2 _<|cH htl
   rw[e];obtain⟨u2,a1,a2⟩:=MK (N:=N) h1 (i:=i) (k:=n+q) (by omega) (by omega) (by omega);refine IT a1<|IS ⟨_,_,a2,h2.join i (n+q)<|h1.rr i (by omega),h3.join (by omega) (by omega),λp hp=>?_,λk l j hk hl hj=>List.mem_append_left _<|h5 k l j hk hl hj,λj hj=>?_⟩
   ·rcases dJ.1 hp with hp|hp
    ·exact h4 p hp
    ·simp at hp;subst hp;exact⟨q,tch[q],hqx,by grind,rfl⟩
   ·rw[dM htl,dJ]at hj
    rcases hj with hj|hj
    ·exact List.mem_append_left _<|h6 j hj
    ·rw[mg,e]at hj;have:j=i:=by omega
     subst this;simp
  ·obtain⟨r,E,h1,h2,h3,h4,h5,h6⟩:=hI;refine⟨r,E,h1,h2,h3,h4,λk l i hk hl hi=>?_⟩
   by_cases hkq:k<q
   ·exact h5 k l i hkq hl hi
   ·have:k=q:=by omega
    subst this;rw[hqx]at hl;injection hl with hl;subst hl
    exact h6 i (by grind)
 obtain⟨up',e,r,E,h1,h2,h3,h4,h5⟩:=base;have hE:∀i j,Lk n tch i j->(i,j)∈E:=λi j⟨k,l,hl,hi,hj⟩=>by
  grind
 exact⟨up',e,r,h1,h1.le,h1.rr,λi j h=>h2 (i,j)<|hE i j h,λS hS i j hi hj=>h3 S (λp hp=>hS p.1 p.2<|h4 p hp) i j hi hj⟩
def sS(bs:Z bU)(j:Nat):Bool:=(bs[j]?).any<|λb=>b.fJ
def gP(n:Nat)(c:Z Nat):Z Nat:=c.filter<|λi=>decide<|i<n
def gB(bs:Z bU)(n:Nat)(c:Z Nat):Z Nat:=(c.filter<|λi=> !decide (i<n)&&sS bs (i - n)).map<|λi=>i - n
def Ku(bs:Z bU)(n:Nat)(c:Z Nat):Bool:=decide<|0<(gP n c).length+(gB bs n c).length
def RE(bs:Z bU)(n:Nat)(c:Z Nat):bZ:=⟨ints<|gP n c,ints<|gB bs n c,[]⟩
theorem MO(n:Nat)(c:Z Nat)(i:Nat):gP n (c++[i])=if i<n then gP n c++[i]else gP n c:=by
 unfold gP;grind
theorem MP(bs:Z bU)(n:Nat)(c:Z Nat)(i:Nat):gB bs n (c++[i])=if i<n then gB bs n c else if sS bs (i - n)=true then gB bs n c++[i - n]else gB bs n c:=by
 unfold gB;grind
theorem II(n:Nat)(c:Z Nat):(gP n c).length<=c.length:=ln _ _
theorem IJ(bs:Z bU)(n:Nat)(c:Z Nat):(gB bs n c).length<=c.length:=by unfold gB;grind
def live(bs:Z bU)(n t:Nat)(r:Nat->Nat)(hs:Z Nat):Z Nat:=hs.filter<|λh=>Ku bs n<|cls t r h
def m8(bs:Z bU)(n t:Nat)(r:Nat->Nat)(hs:Z Nat):Z bZ:=(live bs n t r hs).map<|λh=>RE bs n<|cls t r h
theorem HL(bs:Z bU)(n t:Nat)(r:Nat->Nat)(hs:Z Nat)(h:Nat):live bs n t r (hs++[h])=if Ku bs n (cls t r h)=true then live bs n t r hs++[h]else live bs n t r hs:=by
 grind [live]
theorem vr(bs:Z bU)(n t:Nat)(r:Nat->Nat)(hs:Z Nat):(m8 bs n t r hs).length=(live bs n t r hs).length:=by simp[m8,dQ]
def gi(bs:Z bU)(n t:Nat)(r:Nat->Nat)(h:Nat):Nat:=(live bs n t r<|(bV t r).takeWhile<|λx=>decide<|x≠h).length
theorem A6{l:Z Nat}(hn:l.Nodup){k h:Nat}(hk:l[k]? =some h):l.takeWhile (λx=>decide<|x≠h)=l.take k:=by
 induction l generalizing k with
 |nil=>simp at hk
 |cons a l ih=>
  cases k with
  |zero=>simp_all
  |succ k=>
   grind [List.nodup_cons,gh,List.takeWhile_cons]
theorem si(bs:Z bU)(n t:Nat)(r:Nat->Nat)(hs:Z Nat):(live bs n t r hs).length<=hs.length:=ln _ _
theorem HM{bs:Z bU}{n t:Nat}{r:Nat->Nat}{h:Nat}(hh:h∈bV t r)(hne:Ku bs n (cls t r h)=true):gi bs n t r h<(live bs n t r<|bV t r).length/\(live bs n t r<|bV t r)[gi bs n t r h]? =some h:=by
 obtain⟨k,hk⟩:=eE hh;have hkl:=(bR.1 hk).1;unfold gi;rw[A6 (nb t r) hk]
 grind [bV,List.take_append_drop,xD,bR,live]
end
section
variable {N:Nat}
theorem An{l:Z Nat}(h:l.Nodup){i j a:Nat}(hi:l[i]? =some a)(hj:l[j]? =some a):i=j:=
 by grind [List.getElem_inj,bR]
theorem te{n i k:Nat}{r:Nat->Nat}:i∈cls n r k↔i<n/\r i=k:=by simp[cls]
theorem NC(n:Nat)(r:Nat->Nat)(k:Nat):(cls n r k).Nodup:=List.Nodup.sublist List.filter_sublist List.nodup_range
structure UN (bs:Z bU) (n m:Nat) (r:Nat->Nat) (hs:Z Nat) (ofP ofB:Z Int):Prop where
 lp:ofP.length=n
 lb:ofB.length=m
 pc:∀i,i<n->r i∈hs->ofP[i]? =some ((gi bs n (n+m) r (r i):Nat):Int)
 bo:∀j,j<m->r (n+j)∈hs->ofB[j]? =some (if sS bs j=true then((gi bs n (n+m) r (r<|n+j):Nat):Int)else -1)
theorem Kv{bs:Z bU}{n m:Nat}{r:Nat->Nat}(hm:bs.length=m)(hn:n<=1073741824)(hm2:m<=1073741824){op ob:Z Int}(hop:op.length=n)(hob:ob.length=m)
  {body:Nat->Z bZ×Z Int×Z Int->aT (Z bZ×Z Int×Z Int)}
  (hbody:body=(λ(k123:Nat)(s124:Z bZ×Z Int×Z Int)=>((idx (vn (n+m) r) (k123:Int)).bind λx455=>(kL x455.length (λ(k458:Nat)(s459:Z Int×Z Int×Z Int×Z Int)=>((idx x455 (k458:Int)).bind λx556=>(bif decide (x556<(n:Int))then((idx s459.1 x556).bind λx580=>(app 8 s459.2.2.1 ([x556]:Z Int)).bind λx582=>some (s459.1.set (Int.toNat x556) (s124.1.length:Int),s459.2.1,x582,s459.2.2.2))else((idx bs<|wrap .i64<|x556 -(n:Int)).bind λx584=>(bif x584.fJ then((idx s459.2.1<|wrap .i64<|x556 -(n:Int)).bind λx594=>(app 8 s459.2.2.2 ([wrap .i64<|x556 -(n:Int)]:Z Int)).bind λx596=>some (s459.2.1.set (Int.toNat<|wrap .i64<|x556 -(n:Int)) (s124.1.length:Int),x596))else((idx s459.2.1<|wrap .i64<|x556 -(n:Int)).bind λx598=>some (s459.2.1.set (Int.toNat<|wrap .i64<|x556 -(n:Int))<|-1,s459.2.2.2))).bind λs592=>some (s459.1,s592.1,s459.2.2.1,s592.2))).bind λs577=>some (s577.1,s577.2.1,s577.2.2.1,s577.2.2.2):aT (Z Int×Z Int×Z Int×Z Int))) (s124.2.1,s124.2.2,([]:Z Int),([]:Z Int))).bind λs459=>(bif decide (wrap .i64 ((s459.2.2.1.length:Int)+(s459.2.2.2.length:Int))>0)then((app 72 s124.1 [(⟨s459.2.2.1,s459.2.2.2,([]:Z eG)⟩:bZ)]).bind λx610=>some x610)else some s124.1).bind λs606=>some (s606,s459.1,s459.2.1):aT (Z bZ×Z Int×Z Int)))):
  Ok (kL (vn (n+m) r).length body ([],op,ob)) (λst=>st.1=m8 bs n (n+m) r (bV (n+m) r)/\UN bs n m r (bV (n+m) r) st.2.1 st.2.2):=by
 subst hbody;have hsl:(vn (n+m) r).length=(bV (n+m) r).length:=by simp[vn]
 have hhl:=me (n+m) r;refine Ok.mono (XM (λ(k:Nat)(st:Z bZ×Z Int×Z Int)=>st.1=m8 bs n (n+m) r ((bV (n+m) r).take k)/\UN bs n m r ((bV (n+m) r).take k) st.2.1 st.2.2) (by omega) ⟨rfl,hop,hob,λi hi h=>by simp at h,λj hj h=>by simp at h⟩<|λk st hk hI=>?_) (λst h=>by grind);obtain⟨gs,ofP,ofB⟩:=st;obtain⟨e1,I⟩:=hI;dsimp only at e1 I ⊢;subst e1;rw[hsl]at hk;have hkx:(bV (n+m) r)[k]? =some (bV (n+m) r)[k]:=aM hk;have hts:(bV (n+m) r).take (k+1)=(bV (n+m) r).take k++[(bV (n+m) r)[k]]:=dM hk;have hgk:gi bs n (n+m) r (bV (n+m) r)[k]=(m8 bs n (n+m) r<|(bV (n+m) r).take k).length:=by
  unfold gi;grind [A6,nb,vr]
 generalize hh:(bV (n+m) r)[k]=h at *;have hsx:(vn (n+m) r)[k]? =some (ints<|cls (n+m) r h):=by unfold vn;rw[iE,hkx];rfl
 refine WV hsx ?_;have hcl:=CL (n+m) r h;rw[my];have hgl:(m8 bs n (n+m) r<|(bV (n+m) r).take k).length<=n+m:=by
  grind [vr,si,bV,dE]
 have hold:∀i∈cls (n+m) r h,∀i',r i'∈(bV (n+m) r).take k->i≠i':=λi hi i' hi' e=>by
  grind [te,eE,bR,dE,List.getElem?_take_of_lt,An,nb]
 refine WO (P:=λs'=>UN bs n m r ((bV (n+m) r).take (k+1)) s'.1 s'.2.1/\s'.2.2.1=ints (gP n (cls (n+m) r h))/\s'.2.2.2=ints (gB bs n (cls (n+m) r h))) (Ok.mono (XM
  (λ(t:Nat)(s':Z Int×Z Int×Z Int×Z Int)=>UN bs n m r ((bV (n+m) r).take k) s'.1 s'.2.1/\s'.2.2.1=ints (gP n ((cls (n+m) r h).take t))/\s'.2.2.2=ints (gB bs n ((cls (n+m) r h).take t))/\
   (∀i∈(cls (n+m) r h).take t,i<n->s'.1[i]? =some ((gi bs n (n+m) r h:Nat):Int))/\∀i∈(cls (n+m) r h).take t,¬i<n->s'.2.1[i - n]? =some (if sS bs (i - n)=true then((gi bs n (n+m) r h:Nat):Int)else -1)) (by omega)
   ⟨I,rfl,rfl,λi hi=>by simp at hi,λi hi=>by simp at hi⟩ (λt s' ht hI'=>?_)) ?_) ?_
 ·obtain⟨oP,oB,pp,bb⟩:=s';obtain⟨J,e2,e3,J1,J2⟩:=hI';dsimp only at J e2 e3 J1 J2 ⊢;subst e2;subst e3;have htx:(ints<|cls (n+m) r h)[t]? =some (((cls (n+m) r h)[t]:Nat):Int):=by unfold ints;rw[iE,aM ht];rfl
  refine WV htx ?_;have htt:(cls (n+m) r h).take (t+1)=(cls (n+m) r h).take t++[(cls (n+m) r h)[t]]:=dM ht;have hcm:=cH ht;have hdist:∀i∈(cls (n+m) r h).take t,i≠(cls (n+m) r h)[t]:=λi hi e=>by
   obtain⟨j,hj⟩:=eE hi;have hjt:j<t:=by have:=(bR.1 hj).1;rw[dE]at this;omega
   rw[List.getElem?_take_of_lt hjt]at hj;have:=An (NC (n+m) r h) hj (by rw[e];exact aM ht);omega
  generalize (cls (n+m) r h)[t]=c at *;obtain⟨hc1,hc2⟩:=te.1 hcm;have hgp:=II n<|(cls (n+m) r h).take t
  have hgb:=IJ bs n<|(cls (n+m) r h).take t
  rw[dE]at hgp hgb
  by_cases hcn:c<n
  ·rw[bS (by omega:(c:Int)<(n:Int)),aP];refine WO (P:=λx=>x=(oP.set c ((gi bs n (n+m) r h:Nat):Int),oB,ints (gP n<|(cls (n+m) r h).take t)++[(c:Int)],ints<|gB bs n<|(cls (n+m) r h).take t)) ?_ ?_
   ·refine XN (by rw[J.lp];exact hcn)<|XC (by rw[my];simp;omega)<|IS ?_
    rw[cK,hgk]
   ·rintro _ rfl;refine IS ⟨⟨by simp[J.lp],J.lb,λi hi hr=>?_,J.bo⟩,?_,?_,λi hi hin=>?_,λi hi hin=>?_⟩
    ·dsimp only;rw[sf (by rw[J.lp];exact hcn),aH<|λe=>hold c hcm i hr e.symm];exact J.pc i hi hr
    ·dsimp only;rw[htt,MO,aF hcn,tH];rfl
    ·dsimp only;rw[htt,MP,aF hcn]
    ·dsimp only;rw[sf (by rw[J.lp];exact hcn)];split
     ·rfl
     ·rename_i hne;rw[htt]at hi
      rcases dJ.1 hi with hi|hi
      ·exact J1 i hi hin
      ·exact absurd (by simpa using hi) hne
    ·rw[htt]at hi
     rcases dJ.1 hi with hi|hi
     ·exact J2 i hi hin
     ·have:i=c:=by simpa using hi
      subst this;exact absurd hcn hin
  ·rw[cA (by omega:¬(c:Int)<(n:Int)),aR];have hw:wrap .i64 ((c:Int) -(n:Int))=((c - n:Nat):Int):=by rw[gC (by omega) (by omega)];omega
   have hcm2:c - n<bs.length:=by omega
   have hpl:sS bs (c - n)=bs[c - n].fJ:=by unfold sS;rw[aM hcm2];rfl
   rw[hw];refine WO (P:=λx=>x=(oP,oB.set (c - n) (if sS bs (c - n)=true then((gi bs n (n+m) r h:Nat):Int)else -1),ints<|gP n<|(cls (n+m) r h).take t,ints<|gB bs n<|(cls (n+m) r h).take t++[c])) ?_ ?_
   ·refine XN hcm2 ?_;rw[MP,aH hcn,hpl]
    cases hp:bs[c - n].fJ with
    |true=>
     rw[aP,aF rfl,aF rfl];refine IT (x:=(oB.set (c - n) ((gi bs n (n+m) r h:Nat):Int),ints<|gB bs n ((cls (n+m) r h).take t)++[c - n])) ?_<|IS rfl
     rw[nu _ _ (by rw[J.lb];omega),aB,j4 (by rw[my];simp;omega),aB,cK,hgk,tH];rfl
    |false=>
     rw[aR,aH (by simp),aH (by simp)];refine IT (x:=(oB.set (c - n)<|-1,ints<|gB bs n<|(cls (n+m) r h).take t)) ?_<|IS rfl
     rw[nu _ _ (by rw[J.lb];omega),aB,cK]
   ·rintro _ rfl;refine IS ⟨⟨J.lp,by simp[J.lb],J.pc,λj hj hr=>?_⟩,?_,?_,λi hi hin=>?_,λi hi hin=>?_⟩
    ·dsimp only;rw[sf (by rw[J.lb];omega),aH<|λe=>hold c hcm (n+j) hr (by omega)];exact J.bo j hj hr
    ·dsimp only;rw[htt,MO,aH hcn]
    ·dsimp only;rw[htt]
    ·rw[htt]at hi
     rcases dJ.1 hi with hi|hi
     ·exact J1 i hi hin
     ·have:i=c:=by simpa using hi
      subst this;exact absurd hin hcn
    ·dsimp only;rw[sf (by rw[J.lb];omega)];split
     ·rename_i e;rw[e]
     ·rename_i hne;rw[htt]at hi
      rcases dJ.1 hi with hi|hi
      ·exact J2 i hi hin
      ·exact absurd (by have:i=c:=(by simpa using hi);rw[this]) hne
 ·rintro⟨oP,oB,pp,bb⟩⟨J,e2,e3,J1,J2⟩;dsimp only at J e2 e3 J1 J2 ⊢;rw[eD]at e2 e3 J1 J2;refine⟨⟨J.lp,J.lb,λi hi hr=>?_,λj hj hr=>?_⟩,e2,e3⟩
  ·rw[hts]at hr
   rcases dJ.1 hr with hr|hr
   ·exact J.pc i hi hr
   ·have hr:r i=h:=by simpa using hr
    rw[hr];exact J1 i (te.2 ⟨by omega,hr⟩) hi
  ·rw[hts]at hr
   rcases dJ.1 hr with hr|hr
   ·exact J.bo j hj hr
   ·have hr:r (n+j)=h:=by simpa using hr
    rw[hr];have:=J2 (n+j) (te.2 ⟨by omega,hr⟩) (by omega);rwa[Nat.add_sub_cancel_left]at this
 ·rintro⟨oP,oB,pp,bb⟩⟨J,e2,e3⟩;dsimp only at J e2 e3 ⊢;subst e2;subst e3;have hgp:=II n<|cls (n+m) r h
  have hgb:=IJ bs n<|cls (n+m) r h
  rw[my,my,wrap_add (by omega)];have hgs:m8 bs n (n+m) r ((bV (n+m) r).take<|k+1)=if Ku bs n (cls (n+m) r h)=true then m8 bs n (n+m) r ((bV (n+m) r).take k)++[RE bs n<|cls (n+m) r h]else m8 bs n (n+m) r ((bV (n+m) r).take k):=by
   unfold m8;rw[hts,HL];split
   ·rw[fH];rfl
   ·rfl
  refine WO (P:=λx=>x=m8 bs n (n+m) r ((bV (n+m) r).take<|k+1)) (Xn (λhb=>?_)<|λhb=>IS ?_)<|λx e=>IS ⟨e,J⟩
  ·have hne:Ku bs n (cls (n+m) r h)=true:=bS (by have:=of_decide_eq_true hb;omega);refine XC (by simp;omega)<|IS ?_
   rw[hgs,aF hne];rfl
  ·have hne:¬Ku bs n (cls (n+m) r h)=true:=λh'=>by
    have h1:=of_decide_eq_true h';have h2:=of_decide_eq_false hb;omega
   rw[hgs,aH hne]
end
section
variable {N:Nat}
def eB(n:Nat)(h:dZ):Nat:=if h.bU=true then n+h.Number.toNat else h.Number.toNat
structure F9 (bs:Z bU) (n m:Nat) (h:dZ):Prop where
 num:∃k:Nat,h.Number=(k:Int)/\(h.bU=true->k<m/\sS bs k=true)/\(h.bU=false->k<n)
theorem DF{bs:Z bU}{pcs:Z aD}{l:cX}{h:dZ}(hh:rF bs pcs l=some h):F9 bs pcs.length bs.length h:=by
 unfold rF at hh
 cases hf:bs.findIdx? (nE l)with
 |some k=>
  rw[hf]at hh;injection hh with hh;subst hh
  obtain⟨hk,hp,_⟩:=List.findIdx?_eq_some_iff_getElem.1 hf;refine⟨k,rfl,λ_=>⟨hk,?_⟩,λh=>by cases h⟩
  grind [nE,sS,aM]
 |none=>
  rw[hf]at hh;dsimp only at hh;rw[sW]at hh;obtain⟨k,hk,rfl⟩:=hh;obtain⟨hk,_⟩:=List.findIdx?_eq_some_iff_getElem.1 hk;exact⟨k,rfl,λh=>(by cases h),λ_=>hk⟩
def vN(bs:Z bU)(pcs:Z aD)(r:Nat->Nat)(l:cX):aT Nat:=(rF bs pcs l).map λh=>gi bs pcs.length (pcs.length+bs.length) r<|r<|eB pcs.length h
def G9(bs:Z bU)(pcs:Z aD)(r:Nat->Nat)(l:cX):Int:=match vN bs pcs r l with|some g=>(g:Int)|none=> -1
def g8(gs:Z bZ)(lg:cX->aT Nat)(ls:Z cX):Z bZ:=gs.mapIdx<|λg x=>{x with fB:=(ls.filter<|λl=>decide<|lg l=some g).map lj}
theorem mA{gs:Z bZ}{lg:cX->aT Nat}{ls:Z cX}{g:Nat}:(g8 gs lg ls)[g]? =(gs[g]?).map λx=>{x with fB:=(ls.filter<|λl=>decide<|lg l=some g).map lj}:=by
 simp[g8,List.getElem?_mapIdx]
theorem yg(gs:Z bZ)(lg:cX->aT Nat)(ls:Z cX):(g8 gs lg ls).length=gs.length:=by simp[g8,List.length_mapIdx]
theorem A7{gs:Z bZ}{lg:cX->aT Nat}{ls:Z cX}{l:cX}(h:lg l=none):g8 gs lg (ls++[l])=g8 gs lg ls:=by
 apply List.ext_getElem?
 grind [mA]
theorem CR{gs:Z bZ}{lg:cX->aT Nat}{ls:Z cX}{l:cX}{k:Nat}{x:bZ}(h:lg l=some k)(hx:(g8 gs lg ls)[k]? =some x):
  (g8 gs lg ls).set k {x with fB:=x.fB++[lj l]}=g8 gs lg (ls++[l]):=by
 apply List.ext_getElem?;intro g;have hk:=(bR.1 hx).1;rw[lU]
 by_cases e:k=g
 ·subst e
  grind [mA,sW]
 grind [mA]
theorem Kw{bs:Z bU}{n t:Nat}{r:Nat->Nat}{i:Nat}(hi:i<n)(ht:i<t):Ku bs n (cls t r<|r i)=true:=by
 unfold Ku;rw[dF];have:i∈gP n (cls t r<|r i):=ll.2 ⟨te.2 ⟨ht,rfl⟩,by grind⟩
 grind
theorem Kx{bs:Z bU}{n t:Nat}{r:Nat->Nat}{j:Nat}(hp:sS bs j=true)(ht:n+j<t):Ku bs n (cls t r<|r<|n+j)=true:=by
 unfold Ku;rw[dF];have:j∈gB bs n (cls t r<|r<|n+j):=dN.2 ⟨n+j,ll.2 ⟨te.2 ⟨ht,rfl⟩,by simp[hp]⟩,by omega⟩
 grind
structure yh (bs:Z bU) (ls:Z cX) (pcs:Z aD) (r:Nat->Nat) (gs:Z bZ) (ofP ofB eY:Z Int) (eT:Z dZ):Prop where
 conn:EF pcs.length bs.length (cU bs pcs) r
 gs:gs=g8 (m8 bs pcs.length (pcs.length+bs.length) r<|bV (pcs.length+bs.length) r) (vN bs pcs r) ls
 of:UN bs pcs.length bs.length r (bV (pcs.length+bs.length) r) ofP ofB
 eY:eY=ls.map (G9 bs pcs r)
 eT:eT=ls.map (λl=>(rF bs pcs l).getD ⟨false,0⟩)
theorem zO{bs:Z bU}{pcs:Z aD}(hp:pcs.length<=1073741824):∀l∈cU bs pcs,l.length<=1073741824/\∀x∈l,∃i:Nat,i<pcs.length/\x=(i:Int):=by
 grind [cU,DE,i9,my,qz,NB]
theorem IK{bs:Z bU}{ls:Z cX}{pcs:Z aD}(hb:lF bs)(hp:pcs.length<=1000000000)(hr:∀p∈pcs,p.dY.length<=1073741824)(hl:ls.length<=1073741824)(hN:ns N):
  Ok (il N bs ls pcs (cU bs pcs) [] [] [] []) (λx=>∃r,yh bs ls pcs r x.1 x.2.1 x.2.2.1 x.2.2.2.1 x.2.2.2.2):=by
 have hbl:=hb.len;unfold il;rw[wrap_add (by omega)];obtain⟨up0,u1,u2⟩:=zH (N:=N) (n:=pcs.length+bs.length) (by omega);refine IT u1 ?_;refine WO (HK (n:=pcs.length) (m:=bs.length) (by simp[cU]) (zO (by omega)) (by omega) (by omega) u2 hN) ?_;rintro up1⟨r,v1,v2⟩;refine IT (oC 0 (by omega))<|IT (oC 0 (by omega)) ?_
 obtain⟨up2,w1,_⟩:=Qu (N:=N) v1 (by omega) (by omega);refine IT w1 ?_;refine WO (Kv (bs:=bs) (n:=pcs.length) (m:=bs.length) (r:=r) rfl (by omega) (by omega) (op:=List.replicate pcs.length 0) (ob:=List.replicate bs.length 0) (by simp) (by simp) rfl) ?_;rintro⟨gs,ofP,ofB⟩⟨e1,I⟩;dsimp only at e1 I ⊢;subst e1;have hgl:(m8 bs pcs.length (pcs.length+bs.length) r<|bV (pcs.length+bs.length) r).length<=pcs.length+bs.length:=by
  grind [vr,si,bV,me]
 refine WO (XM (λ(k:Nat)(st:Z bZ×Z Int×Z Int×Z Int×Z dZ)=>st=(g8 (m8 bs pcs.length (pcs.length+bs.length) r<|bV (pcs.length+bs.length) r) (vN bs pcs r)<|ls.take k,ofP,ofB,(ls.take k).map<|G9 bs pcs r,(ls.take k).map<|λl=>(rF bs pcs l).getD ⟨false,0⟩)) (by omega) ?_<|λk st hk e=>?_) ?_
 ·congr 1;unfold g8;apply List.ext_getElem?;intro g;rw[List.getElem?_mapIdx];unfold m8;rw[iE]
  cases(live bs pcs.length (pcs.length+bs.length) r<|bV (pcs.length+bs.length) r)[g]? <;> rfl
 ·subst e;dsimp only;have hts:ls.take (k+1)=ls.take k++[ls[k]]:=dM hk;refine XN hk<|IT (O3 hb (by omega) hr _) ?_
  dsimp only;refine WO (P:=λx=>x=(g8 (m8 bs pcs.length (pcs.length+bs.length) r<|bV (pcs.length+bs.length) r) (vN bs pcs r)<|ls.take k++[ls[k]],G9 bs pcs r ls[k])) ?_ ?_
  ·cases hh:rF bs pcs ls[k]with
   |none=>
    refine IS ?_;have h1:vN bs pcs r ls[k]=none:=by unfold vN;rw[hh];rfl
    rw[A7 h1];unfold G9;rw[h1]
   |some h=>
    have h1:vN bs pcs r ls[k]=some (gi bs pcs.length (pcs.length+bs.length) r<|r<|eB pcs.length h):=by unfold vN;rw[hh];rfl
    have h2:G9 bs pcs r ls[k]=((gi bs pcs.length (pcs.length+bs.length) r (r<|eB pcs.length h):Nat):Int):=by unfold G9;rw[h1]
    obtain⟨q,q1,q2,q3⟩:=(DF hh).num;have hix:eB pcs.length h<pcs.length+bs.length/\Ku bs pcs.length (cls (pcs.length+bs.length) r<|r<|eB pcs.length h)=true/\jr N ofP ofB h=some ((gi bs pcs.length (pcs.length+bs.length) r (r<|eB pcs.length h):Nat):Int):=by
     unfold jr eB;rw[q1,cK]
     cases hbo:h.bU with
     |true=>
      obtain⟨q4,q5⟩:=q2 hbo;rw[aP,aF rfl];refine⟨by omega,Kx q5 (by omega),?_⟩;have:=I.bo q q4<|iN.2 ⟨by have:=v2.le (pcs.length+q) (by omega);omega,v2.rr _ (by omega)⟩
      rw[aF q5]at this;rw[cB this,aB]
     |false=>
      have q4:=q3 hbo;rw[aR,aH (by simp)];refine⟨by omega,Kw q4 (by omega),?_⟩;have:=I.pc q q4<|iN.2 ⟨by have:=v2.le q (by omega);omega,v2.rr _ (by omega)⟩
      rw[cB this,aB]
    obtain⟨i1,i2,i3⟩:=hix;have hgi:=HM (r:=r) (t:=pcs.length+bs.length) (bs:=bs) (n:=pcs.length) (h:=r<|eB pcs.length h) (iN.2 ⟨by have:=v2.le _ i1;omega,v2.rr _ i1⟩) i2;have hgx:gi bs pcs.length (pcs.length+bs.length) r (r<|eB pcs.length h)<(g8 (m8 bs pcs.length (pcs.length+bs.length) r<|bV (pcs.length+bs.length) r) (vN bs pcs r)<|ls.take k).length:=by
     rw[yg,vr];exact hgi.1
    rw[h2];dsimp only[Option.getD,Option.isSome];rw[aP];refine IT i3 ?_;generalize gi bs pcs.length (pcs.length+bs.length) r (r<|eB pcs.length h)=g at *;refine XN hgx<|IT (DB _) ?_
    have hpl:((g8 (m8 bs pcs.length (pcs.length+bs.length) r<|bV (pcs.length+bs.length) r) (vN bs pcs r)<|ls.take k)[g]).fB.length<=ls.length:=by
     have:=mA (gs:=m8 bs pcs.length (pcs.length+bs.length) r<|bV (pcs.length+bs.length) r) (lg:=vN bs pcs r) (ls:=ls.take k) (g:=g);rw[aM hgx]at this;have:=this.symm;rw[sW]at this;obtain⟨y,_,hy⟩:=this;rw[<-hy,dQ];have:=ln (λl=>decide<|vN bs pcs r l=some g)<|ls.take k
     rw[dE]at this;omega
    refine XC (by simp;omega)<|XN hgx<|IS ?_
    rw[cK];congr 1;exact CR h1<|aM hgx
  ·rintro _ rfl;dsimp only;refine XC (by simp;omega)<|XC (by simp;omega)<|IS ?_
   rw[hts,fH,fH];rfl
 ·rintro st rfl;dsimp only;rw[eD];exact IS ⟨r,v2,rfl,I,rfl,rfl⟩
end
section
variable {N:Nat}
theorem DG{p:aD}:∀{cI:Z (Z<|Z aA)}{k:Nat},p∈bP k cI->∃(i:Nat)(ps:Z (Z aA))(q:Z aA),cI[i]? =some ps/\q∈ps/\p= ⟨((k+i:Nat):Int),q,bA q⟩
 | [],k,h=>by cases h
 |ps::cI,k,h=>by
  rcases dJ.1 h with h|h
  ·obtain⟨q,hq,rfl⟩:=dN.1 h;exact⟨0,ps,q,rfl,hq,rfl⟩
  ·obtain⟨i,ps',q,h1,h2,h3⟩:=DG h;refine⟨i+1,ps',q,by grind,h2,?_⟩;rw[h3,show k+1+i=k+(i+1)by omega]
structure tf (a:gM):Prop where
 yU:0<a.aL.length/\a.aL.length<=16
 We:∀r∈a.aL,kp r=0
 out:kp a.cQ=0
 many:a.cQ.length+(a.aL.map List.length).sum<=2000
 CS:j6 a=0
 vt:nS a=0
theorem tf.gb{a:gM}(h:tf a):lF a.aN:=⟨(n7 h.CS).1,λb hb=>⟨((n7 h.CS).2 b hb).1,((n7 h.CS).2 b hb).2.1⟩⟩
theorem tf.cs{a:gM}(h:tf a):∀r∈a.aL,r.length<=2000/\∀x∈r,GK x:=λr hr=>F5 (tG.1<|h.We r hr).1
structure yi (a:gM) (kb:Z (Z aA)) (cI:Z (Z (Z aA))) (p:aD) (i:Nat) (r:Z aG) (s:Z aA) (ps:Z (Z aA)) (u:Nat->Nat) (j k:Nat):Prop where
 WG:a.aL[i]? =some r
 kb:kb[i]? =some s
 cI:cI[i]? =some ps
 dr:ye r (lS a.aN (i:Int)) s
 pt:vX s u ps
 at_:ps[j]? =some p.Set
 head:(bV (bA s).length u)[j]? =some k
 set:vm (pj (bA s) (bA s).length u k) p.Set
 FQ:BX (xh r++xh (lS a.aN (i:Int))) (kB r++kB (lS a.aN (i:Int))) (p.Set.map cR)
 UO:p.cM=(i:Int)
 RF:p.dY=bA p.Set
theorem Ky{a:gM}{kb:Z (Z aA)}{cI:Z (Z<|Z aA)}(hg:tf a)(hD:zN a.aL a.aN a.aL.length kb cI){p:aD}(hp:p∈bP 0 cI):∃i r s ps u j k,yi a kb cI p i r s ps u j k:=by
 obtain⟨i,ps,q,h1,h2,rfl⟩:=DG hp;have hil:i<a.aL.length:=by have:=(bR.1 h1).1;rw[hD.DD]at this;exact this
 have hc:a.aL[i]? =some a.aL[i]:=aM hil;have hd:kb[i]? =some (kb[i]'(by rw[hD.len];exact hil)):=aM _;have hdr:=hD.dr i _ _ hil hc hd;obtain⟨u,hu⟩:=hD.pt i _ ps hil hd h1;obtain⟨sx,sy⟩:=hdr.small (hg.cs _<|cH hil).2<|λx hx=>(vq hg.gb _ x hx).1
 obtain⟨j,k,g1,g2,g3,g4⟩:=F8 hu hdr.can hdr.FQ sx sy h2;exact⟨i,_,_,ps,u,j,k,hc,hd,h1,hdr,hu,g1,g2,g3,g4,by rw[jT],rfl⟩
theorem yi.Kr{a:gM}{kb:Z (Z aA)}{cI:Z (Z<|Z aA)}(hg:tf a){p:aD}{i:Nat}{r:Z aG}{s:Z aA}{ps:Z (Z aA)}{u:Nat->Nat}{j k:Nat}(h:yi a kb cI p i r s ps u j k):
  p.Set.length<=5000/\(∀b∈p.Set,b.Xs.length<=5000)/\p.dY.length<=5000*5000:=by
 have h1:=(hg.cs r<|gh h.WG).1;have h2:=DC hg.gb (i:Int);rw[h.RF];exact Am (A:=5000) h.set.can h.FQ (by grind [eC,vl]) (by grind [eC,nQ])
def Kz(a0 a1 b0 b1:Int):Bool:=decide (b0<a1)&&decide (a0<b1)
def KA(a b:aG):Bool:=Kz a.X0 a.X1 b.X0 b.X1&&Kz a.Y0 a.Y1 b.Y0 b.Y1
theorem Ga{a0 a1 b0 b1:Int}(h1: -1000000<=a0/\a0<=1000000)(h2: -1000000<=a1/\a1<=1000000)(h3: -1000000<=b0/\b0<=1000000)(h4: -1000000<=b1/\b1<=1000000):∃n,lz N a0 a1 b0 b1=some n/\0<=n/\(n=0↔Kz a0 a1 b0 b1=true):=by
 unfold lz Kz
 grind [wrap,gC]
theorem Sv{a b:aG}(h1:dO a=true)(h2:dO b=true):∃n,mP N a b=some n/\(n=0↔KA a b=true):=by
 have b1:=jI h1;have b2:=jI h2;obtain⟨n,n1,n2,n3⟩:=Ga (N:=N) (a0:=a.X0) (a1:=a.X1) (b0:=b.X0) (b1:=b.X1) (by omega) (by omega) (by omega) (by omega);obtain⟨m,m1,m2,m3⟩:=Ga (N:=N) (a0:=a.Y0) (a1:=a.Y1) (b0:=b.Y0) (b1:=b.Y1) (by omega) (by omega) (by omega) (by omega);unfold mP KA;rw[n1,aB,m1,aB]
 grind
def vu(x y:bU):Bool:=(decide (x.cO<=y.To)&&decide (y.cO<=x.To))&&KA (zK x) (zK y)
def t9(a:gM):Prop:=∃(i k:Nat)(x y:bU),k<i/\a.aN[i]? =some x/\a.aN[k]? =some y/\vu x y=true
noncomputable def zP(r:Z aG):aT Int:=if kp r≠0 then some (kp r)else none
noncomputable def IL(a:gM):Int:=if 2000<a.cQ.length+(a.aL.map List.length).sum then 2 else if j6 a≠0 then j6 a else if nS a≠0 then nS a else if t9 a then 12 else 0
noncomputable def ND(a:gM):Int:=match a.aL.findSome? zP with|some e=>e|none=>if kp a.cQ≠0 then kp a.cQ else IL a
noncomputable def lk(a:gM):Int:=if a.aL.length=0 then 9 else if 16<a.aL.length then 2 else ND a
def SQ(kb:Z (Z aA))(cI:Z (Z<|Z aA)):Prop:=(∀s∈kb,(bA s).length<=2000)/\(bP 0 cI).length<=2000
abbrev Gb:=Z (Z aG)×Z aG×Z bU×Z cX×Z (Z aA)×Z aD×Z (Z Int)×Z bZ×Z Int×Z Int×Z Int×Z dZ
def RG(a:gM)(x:aT Gb×Int):Prop:=
 (lk a≠0/\x=(none,lk a))\/(lk a=0/\tf a/\¬t9 a/\∃kb cI,zN a.aL a.aN a.aL.length kb cI/\
  ((¬SQ kb cI/\x=(none,2))\/(SQ kb cI/\∃r gs ofP ofB eY eT,yh a.aN a.bO (bP 0 cI) r gs ofP ofB eY eT/\
   x=(some (a.aL,a.cQ,a.aN,a.bO,kb,bP 0 cI,cU a.aN (bP 0 cI),gs,ofP,ofB,eY,eT),0))))
structure xn (a:gM):Prop where
 cs:a.aL.length<=1048576
 each:∀r∈a.aL,r.length<=1048576
 out:a.cQ.length<=1048576
 bs:a.aN.length<=1048576
 ls:a.bO.length<=1048576
 nm:F6 a
theorem KB{a:gM}(h:bk a<=1048576):xn a:=by
 rw[OM]at h;have h1:=BC a.aL;have h2:=BC a.cQ;have h3:=BC a.aN;have h4:=BC a.bO;refine⟨by omega,λr hr=>?_,by omega,by omega,by omega,λx hx=>?_⟩
 ·have:=LB hr
  grind [BC]
 ·have:=LB hx
  grind [MC,Sr]
theorem DH{a:gM}(hs:xn a)(hN:ns N):Ok (jt N a) (RG a):=by
 unfold jt;have pe:∀e:Int,e≠0->lk a=e->Ok (some ((none:aT Gb),e)) (RG a):=λe he h=>IS<|.inl ⟨by omega,by rw[h]⟩
 have c1:=hs.cs;refine Xn (λh=>?_)<|λh=>?_
 ·grind [lk]
 have h0:¬a.aL.length=0:=by grind
 refine Xn (λh=>?_)<|λh=>?_
 ·grind [lk]
 have h1:¬16<a.aL.length:=by grind
 have pe1:lk a=ND a:=by grind [lk]
 have hso:=hs.out;have sumle:∀k,k<=a.aL.length->((a.aL.take k).map List.length).sum<=k*1048576:=by
  intro k
  induction k with
  |zero=>intro _;simp
  |succ k ih=>
   intro hk;have:=ih (by omega);have h2:=hs.each _<|cH (show k<a.aL.length by omega)
   rw[dM (by omega),fH,List.sum_append]
   grind
 refine WO (Y7 (Go:=λs:Int=>s=((a.cQ.length+(a.aL.map List.length).sum:Nat):Int)/\∀r∈a.aL,kp r=0) (Rt:=λx:aT Gb×Int=>∃e,e≠0/\x=(none,e)/\a.aL.findSome? zP=some e)
  (λ(k:Nat)(s:Int)=>s=((a.cQ.length+((a.aL.take k).map List.length).sum:Nat):Int)/\∀r∈a.aL.take k,kp r=0) (by omega) ⟨by simp,λr hr=>by simp at hr⟩ (λk s hk hI=>?_) (λs hI=>by grind)) ?_
 ·obtain⟨e,hI⟩:=hI;subst e;have hkx:a.aL[k]? =some a.aL[k]:=aM hk;have hts:a.aL.take (k+1)=a.aL.take k++[a.aL[k]]:=dM hk;have he:=hs.each _<|cH hk
  refine WV hkx<|IT (zM (by omega) hN) ?_
  refine Xn (λh=>XR ?_)<|λh=>W8 ?_
  ·have h:kp a.aL[k]≠0:=by simpa using h
   refine⟨_,h,rfl,?_⟩
   grind [List.findSome?_eq_some_iff,zP,xD,List.take_append_drop]
  ·have h:kp a.aL[k]=0:=by simpa using h
   have:=sumle k (by omega);have hk16:k*1048576<=16*1048576:=Nat.mul_le_mul_right _ (by omega);refine⟨?_,λr hr=>?_⟩
   ·rw[wrap_add (by omega),hts,fH,List.sum_append];simp only[eW,List.map_nil,List.sum_cons,List.sum_nil];congr 1;omega
   ·rw[hts]at hr
    rcases dJ.1 hr with hr|hr
    ·exact hI r hr
    ·simp at hr;subst hr;exact h
 intro o ho;refine Xf ho ?_ ?_
 rotate_left
 ·rintro x⟨e,he,rfl,hf⟩;exact pe e he (by rw[pe1];unfold ND;rw[hf])
 rintro s⟨rfl,hreg⟩;have UT:a.aL.findSome? zP=none:=List.findSome?_eq_none_iff.2 λr hr=>by unfold zP;rw[aH (by simpa using hreg r hr)]
 have pe2:lk a=if kp a.cQ≠0 then kp a.cQ else IL a:=by rw[pe1];unfold ND;rw[UT]
 refine IT (zM (by omega) hN) ?_;refine Xn (λh=>?_)<|λh=>?_
 ·have h:kp a.cQ≠0:=by simpa using h
  exact pe _ h (by rw[pe2,aF h])
 have hout:kp a.cQ=0:=by simpa using h
 have pe3:lk a=IL a:=by rw[pe2,aH (by simpa using hout)]
 refine Xn (λh=>?_)<|λh=>?_
 ·have h:2000<a.cQ.length+(a.aL.map List.length).sum:=by have:=of_decide_eq_true h;omega
  exact pe 2 (by omega) (by rw[pe3];unfold IL;rw[aF h])
 have hmany:¬2000<a.cQ.length+(a.aL.map List.length).sum:=by have:=of_decide_eq_false h;omega
 have hbs:=hs.bs;have hls:=hs.ls;refine IT (G6 (by omega) (by omega) (by omega)) ?_;refine Xn (λh=>?_)<|λh=>?_
 ·have h:j6 a≠0:=by simpa using h
  exact pe _ h (by rw[pe3];unfold IL;rw[aH hmany,aF h])
 have hbo:j6 a=0:=by simpa using h
 refine IT (G7 (by omega) (by omega) hs.nm (by omega)) ?_;refine Xn (λh=>?_)<|λh=>?_
 ·have h:nS a≠0:=by simpa using h
  exact pe _ h (by rw[pe3];unfold IL;rw[aH hmany,aH (by simpa using hbo),aF h])
 have hla:nS a=0:=by simpa using h
 have hg:tf a:=⟨by omega,hreg,hout,by omega,hbo,hla⟩;have pe4:lk a=if t9 a then 12 else 0:=by rw[pe3];unfold IL;rw[aH hmany,aH (by simpa using hbo),aH (by simpa using hla)]
 refine WO (Y7 (Go:=λ_:Unit=>¬t9 a) (Rt:=λx:aT Gb×Int=>x=(none,12)/\t9 a)
  (λ(k:Nat)(_:Unit)=>∀(i j:Nat)(x y:bU),i<k->j<i->a.aN[i]? =some x->a.aN[j]? =some y->¬vu x y=true) (by omega) (λi j x y h=>by omega) (λk s hk hI=>?_) (λs hI=>?_)) ?_
 ·have hkx:a.aN[k]? =some a.aN[k]:=aM hk;refine WV hkx<|IT (tv _ k (by omega)) ?_
  have hgk:=hg.gb.ok _<|cH hk
  refine WO (Y7 (Go:=λ_:Unit=>∀(j:Nat)(y:bU),j<k->a.aN[j]? =some y->¬vu a.aN[k] y=true) (Rt:=λx:aT Gb×Int=>x=(none,12)/\t9 a)
   (λ(t:Nat)(_:Unit)=>∀(j:Nat)(y:bU),j<t->a.aN[j]? =some y->¬vu a.aN[k] y=true) (by rw[dE];omega) (λj y h=>by omega) (λt s ht hI2=>?_) (λs hI2 j y hj hy=>hI2 j y (by rw[dE];omega) hy)) ?_
  ·have htk:t<k:=by rw[dE]at ht;omega
   have htx:(a.aN.take k)[t]? =some a.aN[t]:=by rw[List.getElem?_take_of_lt htk];exact aM (by omega)
   have hgt:=hg.gb.ok _<|cH (show t<a.aN.length by omega)
   refine WV htx ?_;refine IT (x:=vu a.aN[k] a.aN[t]) ?_ ?_
   ·unfold vu
    cases hc:(decide (a.aN[k].cO<=a.aN[t].To)&&decide (a.aN[t].cO<=a.aN[k].To))with
    |false=>rfl
    |true=>
     obtain⟨n,n1,n2⟩:=Sv (N:=N) hgk.2 hgt.2;rw[aP,po hgk.1,aB,po hgt.1,aB,n1,aB,Bool.true_and];congr 1;rw[jd,beq_iff_eq];exact n2
   ·refine Xn (λh=>XR ⟨rfl,k,t,_,_,htk,hkx,aM (by omega),h⟩)<|λh=>W8 λj y hj hy=>?_
    by_cases e:j<t
    ·exact hI2 j y e hy
    ·have:j=t:=by omega
     subst this;rw[aM (by omega)]at hy;injection hy with hy
     rw[<-hy,h];simp
  ·intro o ho;refine Xf ho (λs hI2=>W8 λi j x y hi hj hx hy=>?_)<|λx hx=>XR hx
   by_cases e:i<k
   ·exact hI i j x y e hj hx hy
   ·have:i=k:=by omega
    subst this;rw[hkx]at hx;injection hx with hx
    rw[<-hx];exact hI2 j y hj hy
 ·rintro⟨i,j,x,y,hj,hx,hy,hc⟩;exact hI i j x y (bR.1 hx).1 hj hx hy hc
 intro o ho;refine Xf ho ?_ ?_
 rotate_left
 ·rintro x⟨rfl,hc⟩;exact pe 12 (by omega) (by rw[pe4,aF hc])
 intro _ hncl;have pe5:lk a=0:=by rw[pe4,aH hncl]
 refine WO (LO (N:=N) (by omega) hg.cs hg.gb hN) ?_;rintro⟨okk,kb,pcs⟩⟨cI,D,e1,e2⟩;dsimp only at D e1 e2 ⊢;subst e1;refine Xn (λh=>IS<|.inr ⟨pe5,hg,hncl,kb,cI,D, .inl ⟨λhf=>?_,rfl⟩⟩)<|λh=>?_
 ·have:=e2.2 hf;rw[this]at h;cases h
 ·have hf:SQ kb cI:=e2.1 (by cases okk <;> simp_all);have hpr:∀p∈bP 0 cI,p.dY.length<=1073741824:=λp hp=>by
   obtain⟨i,r,s,ps,u,j,k,hP⟩:=Ky hg D hp;have:=(hP.Kr hg).2.2;omega
  have hf2:=hf.2;refine IT (O2 hg.gb (by omega) hpr) ?_;refine WO (IK (N:=N) hg.gb (by omega) hpr (by omega) hN) ?_;rintro⟨gs,ofP,ofB,eY,eT⟩⟨r,hC⟩;exact IS<|.inr ⟨pe5,hg,hncl,kb,cI,D, .inr ⟨hf,r,gs,ofP,ofB,eY,eT,hC,rfl⟩⟩
end
section
variable {N:Nat}
theorem MQ{w:Nat}{g:Nat->Nat}{a:Nat}:∀{ks:Z Nat},ks.Nodup->a∈ks->(ks.map<|λk=>(if a=k then w else 0)+g k).sum=w+(ks.map g).sum
 | [],_,h=>by cases h
 |k::ks,hn,h=>by
  have hn':=List.nodup_cons.1 hn;simp only[eW,List.sum_cons]
  by_cases e:a=k
  ·subst e;rw[aF rfl];have:ks.map (λk=>(if a=k then w else 0)+g k)=ks.map g:=List.map_congr_left λx hx=>by
    rw[aH<|λe=>hn'.1 (by grind),jT]
   rw[this];omega
  ·rw[aH e,MQ hn'.2 (by grind)];omega
theorem KC{α:Type}{ks:Z Nat}(hn:ks.Nodup)(f w:α->Nat):∀{l:Z α},(∀x∈l,f x∈ks)->(ks.map<|λk=>((l.filter<|λx=>decide<|f x=k).map w).sum).sum=(l.map w).sum
 | [],_=>by
  have:∀ks:Z Nat,(ks.map<|λ_=>0).sum=0:=λks=>by
   induction ks with
   |nil=>rfl
   |cons k ks ih=>simp only[eW,List.sum_cons,ih]
  simpa using this ks
 |x::l,h=>by
  have ih:=KC hn f w (l:=l) λy hy=>h y<|ja _ hy
  have:ks.map (λk=>(((x::l).filter<|λx=>decide<|f x=k).map w).sum)=ks.map (λk=>(if f x=k then w x else 0)+((l.filter<|λx=>decide<|f x=k).map w).sum):=List.map_congr_left λk _=>by
   rw[List.filter_cons]
   by_cases e:f x=k
   ·rw[aF (by simpa using e),aF e,eW,List.sum_cons]
   ·rw[aH (by simpa using e),aH e,jT]
  rw[this,MQ hn<|h x (by simp),ih,eW,List.sum_cons]
def MR(s:Z aA):dW:=match s with|b::_=>⟨b.Xs.headD 0,b.Y0⟩| []=>⟨0,0⟩
theorem yi.ne{a:gM}{kb:Z (Z aA)}{cI:Z (Z<|Z aA)}{p:aD}{i:Nat}{r:Z aG}{s:Z aA}{ps:Z (Z aA)}{u:Nat->Nat}{j k:Nat}(h:yi a kb cI p i r s ps u j k):p.Set≠[]:=by
 intro e;have hh:=iN.1<|gh h.head
 have hx:(bA s)[k]? =some (bA s)[k]:=aM hh.1;have hm:(bA s)[k]∈pj (bA s) (bA s).length u k:=m6.2 ⟨k,hh.1,hh.2,hx⟩;obtain⟨b,hb,q,hq,hr⟩:=sR<|gh hx
 have hbm:cR b∈s.map cR:=dN.2 ⟨b,hb,rfl⟩;have hq1:=IC (h.dr.can.each _ hbm).2.2.1 q hq;have hb1:=(h.dr.can.each _ hbm).1;have hc:=h.set.cover q.1 b.Y0;rw[e]at hc;have:vW (pj (bA s) (bA s).length u k) q.1 b.Y0=true:=kV.2 ⟨_,hm,by rw[hr];exact⟨⟨Int.le_refl _,hq1⟩,Int.le_refl _,hb1⟩⟩;rw[this]at hc
 cases hc
structure iB (a:gM) (kb:Z (Z aA)) (cI:Z (Z (Z aA))) (r:Nat->Nat) (gs:Z bZ) (ofP ofB eY:Z Int) (eT:Z dZ):Prop where
 zQ:tf a
 WH:¬t9 a
 dr:zN a.aL a.aN a.aL.length kb cI
 yU:SQ kb cI
 AQ:yh a.aN a.bO (bP 0 cI) r gs ofP ofB eY eT
inductive Sw (N:Nat) (a:gM):Prop
 |err (e:Int) (he:e≠0) (h:jt N a=some (none,e))
 |ok {kb:Z (Z aA)} {cI:Z (Z (Z aA))} {r:Nat->Nat} {gs:Z bZ} {ofP ofB eY:Z Int} {eT:Z dZ} (b:iB a kb cI r gs ofP ofB eY eT)
  (h:jt N a=some (some (a.aL,a.cQ,a.aN,a.bO,kb,bP 0 cI,cU a.aN<|bP 0 cI,gs,ofP,ofB,eY,eT),0))
end
section
variable {S R:Type}
theorem Xv{body:S->aT (Fl S R)}{N n:Nat}{s:S}(ι:S->Int)(Inv:Nat->S->Prop){Go:S->Prop}{Rt:R->Prop}
  (h1:∀k s,k<n->ι s=((k:Nat):Int)->Inv k s->Ok (body s) (PL (λs'=>ι s'=((k+1:Nat):Int)/\Inv (k+1) s') Go Rt))
  (h2:∀s,ι s=(n:Int)->Inv n s->Ok (body s) (PL (λ_=>False) Go Rt))
  {k0:Nat} (hk:k0<=n) (hi:ι s=(k0:Int)) (h0:Inv k0 s) (hn:n<N):Ok (Gk.iD body N s) (UI Go Rt):=by
 refine X2 (λs=>∃k:Nat,k<=n/\ι s=((k:Nat):Int)/\Inv k s) (λs=>n -(ι s).toNat) ?_ ⟨k0,hk,hi,h0⟩ (by omega);rintro s⟨k,hk,e,hI⟩
 by_cases hlt:k<n
 ·refine(h1 k s hlt e hI).mono ?_;rintro(s'|s'|r)hp
  ·have hp1:ι s'=((k+1:Nat):Int):=hp.1;exact⟨⟨k+1,hlt,hp.1,hp.2⟩,by omega⟩
  ·exact hp
  ·exact hp
 grind
theorem iO{k n:Nat}(h:k<n):decide ((k:Int)<(n:Int))=true:=bS (by omega)
theorem l4(n:Nat):decide ((n:Int)<(n:Int))=false:=cA (by omega)
theorem CT{k n:Nat}(h:n<=k):decide ((k:Int)<(n:Int))=false:=cA (by omega)
end
theorem uB{α:Type}{p:α->Bool}:∀{l:Z α}{k:Nat},(∀(j:Nat)x,j<k->l[j]? =some x->p x=true)->(∀x,l[k]? =some x->p x=false)->l.takeWhile p=l.take k/\l.dropWhile p=l.drop k
 | [],k,_,_=>by simp
 |y::l,0,_,h2=>by
  have:=h2 y rfl;rw[List.takeWhile_cons,List.dropWhile_cons,this];simp
 |y::l,k+1,h1,h2=>by
  have h:=h1 0 y (by omega) rfl;obtain⟨e1,e2⟩:=uB (l:=l) (k:=k) (λj x hj hx=>h1 (j+1) x (by omega) hx)<|λx hx=>h2 x hx
  rw[List.takeWhile_cons,List.dropWhile_cons,h,aF rfl,aF rfl,e1,e2];simp
section
variable {N:Nat}
def uC(l:Z Int)(c:Int):Z Int:=if c∈l then l else l.takeWhile (λx=>decide<|x<c)++c::l.dropWhile (λx=>decide<|x<c)
theorem CU(l:Z Int)(c:Int):(uC l c).length<=l.length+1:=by
 grind [uC,decide,eC,List.takeWhile_append_dropWhile,eN]
theorem Gc{l:Z Int}{c x:Int}:x∈uC l c↔x∈l\/x=c:=by
 grind [uC,decide,List.takeWhile_append_dropWhile]
theorem Qw{l:Z Int}(h:kC l)(c:Int):∀x∈l.dropWhile (λx=>decide<|x<c),c<=x:=by
 induction l with
 |nil=>simp
 |cons a l ih=>
  rw[List.dropWhile_cons]
  by_cases ha:a<c
  ·rw[aF (by grind)];exact ih h.tail
  ·rw[aH (by grind)];intro x hx
   rcases fp.1 hx with rfl|hx
   ·omega
   ·have:=h.head x hx;omega
theorem Qx(l:Z Int)(c:Int):∀x∈l.takeWhile (λx=>decide<|x<c),x<c:=by
 induction l with
 |nil=>simp
 |cons a l ih=>
  rw[List.takeWhile_cons]
  grind
theorem xo{l:Z Int}{c:Int}(h:kC l):kC (uC l c):=by
 unfold uC;split
 ·exact h
 ·rename_i hc;have hs:=h;rw[<-List.takeWhile_append_dropWhile (p:=λx=>decide<|x<c) (l:=l)]at hs;unfold kC at hs ⊢;rw[List.pairwise_append]at hs ⊢;refine⟨hs.1,qD.2 ⟨λx hx=>?_,hs.2.1⟩,λx hx y hy=>?_⟩
  ·have h1:=Qw h c x hx
   grind [List.takeWhile_append_dropWhile,decide,List.mem_append_right]
  ·have h1:=Qx l c x hx
   grind
def l5(l:Z Int):Z Int:=l.foldl uC []
theorem yj:∀(cs l:Z Int),kC l->kC (cs.foldl uC l)/\(∀x,x∈cs.foldl uC l↔x∈l\/x∈cs)/\(cs.foldl uC l).length<=l.length+cs.length
 | [],l,h=>⟨h,λx=>by simp,by simp⟩
 |c::cs,l,h=>by
  obtain⟨h1,h2,h3⟩:=yj cs (uC l c)<|xo h
  refine⟨h1,λx=>?_,?_⟩
  ·rw[List.foldl_cons,h2,Gc,fp,or_assoc]
  ·rw[List.foldl_cons,eN];have:=CU l c;omega
theorem pP(l:Z Int):kC (l5 l):=(yj l [] ky).1
theorem HN{l:Z Int}{x:Int}:x∈l5 l↔x∈l:=by
 have:=(yj l [] ky).2.1 x
 grind [l5]
theorem xp(l:Z Int):(l5 l).length<=l.length:=by
 have:=(yj l [] ky).2.2
 grind [l5]
theorem zR(l:Z Int)(c d:Int):l5 (l++[c,d])=uC (uC (l5 l) c) d:=by simp[l5,List.foldl_append]
theorem LP{a b:Nat}(h:a+b<=4611686018427387904):wrap .i64 (Int.tdiv (wrap .i64<|(a:Int)+(b:Int)) 2)=(((a+b) / 2:Nat):Int):=by
 grind [wrap_add,Int.tdiv_eq_ediv_of_nonneg,gC]
theorem Ao{l:Z Int}{c:Int}(h:kC l)(hl:l.length<=1099511627776)(hN:ns N):gv N l c=some (uC l c):=by
 refine XL ?_;unfold gv
 refine WO (X2 (Go:=λst:Int×Int=>∃a:Nat,st.1=(a:Int)/\a<=l.length/\(∀(j:Nat)x,j<a->l[j]? =some x->x<c)/\(∀(j:Nat)x,a<=j->l[j]? =some x->c<=x)) (Rt:=λ_=>True)
  (λst=>∃a b:Nat,st=((a:Int),(b:Int))/\a<=b/\b<=l.length/\(∀(j:Nat)x,j<a->l[j]? =some x->x<c)/\(∀(j:Nat)x,b<=j->l[j]? =some x->c<=x))
  (λst=>(st.2 - st.1).toNat) ?_ ⟨0,l.length,rfl,by omega,cJ _,λj x hj=>by omega,λj x hj hx=>by grind⟩ (by omega)) ?_
 ·rintro st⟨a,b,rfl,hab,hb,h1,h2⟩;dsimp only
  by_cases hlt:a<b
  ·have hm:(a+b) / 2<l.length:=by omega
   have hx:l[(a+b) / 2]? =some l[(a+b) / 2]:=aM hm;rw[iO hlt,aP,LP (by omega)];refine WV hx ?_
   by_cases hc:l[(a+b) / 2]<c
   ·rw[bS hc,aP,aB];refine W8 ⟨⟨(a+b) / 2+1,b,?_,by omega,hb,λj x hj hx'=>?_,h2⟩,?_⟩
    ·rw[bF (by omega)]
    ·by_cases e:j=(a+b) / 2
     ·grind
     ·have:=h.lt (i:=j) (j:=(a+b) / 2) (by omega) hx' hx;omega
    ·rw[bF (by omega)];omega
   ·rw[cA hc,aR,aB];refine W8 ⟨⟨a,(a+b) / 2,rfl,by omega,by omega,h1,λj x hj hx'=>?_⟩,by simp only;omega⟩
    by_cases e:j=(a+b) / 2
    ·subst e;rw[hx]at hx';injection hx' with hx';omega
    ·have:=h.lt (i:=(a+b) / 2) (j:=j) (by omega) hx hx';omega
  ·rw[CT (by omega),aR];exact Xd ⟨a,rfl,by omega,h1,λj x hj hx=>h2 j x (by omega) hx⟩
 intro o ho;refine Xf ho ?_<|λr hr=>r.elim
 rintro⟨st1,st2⟩⟨a,ha,hle,h1,h2⟩;dsimp only at ha ⊢;subst ha;have hin:l[a]? =some c->uC l c=l:=λhx=>by unfold uC;rw[aF<|gh hx]
 have hout:l[a]? ≠some c->uC l c=l.take a++c::l.drop a:=λhx=>by
  have hc:c∉l:=λhc=>by
   obtain⟨j,hj⟩:=eE hc
   by_cases h3:j<a
   ·have:=h1 j c h3 hj;omega
   ·by_cases e:j=a
    ·subst e;exact hx hj
    ·have h5:a<l.length:=by have:=(bR.1 hj).1;omega
     have h6:l[a]? =some l[a]:=aM h5;have h7:=h.lt (i:=a) (j:=j) (by omega) h6 hj;have h8:=h2 a _ (cJ _) h6;omega
  unfold uC;rw[aH hc];obtain⟨e1,e2⟩:=uB (p:=λx=>decide<|x<c) (l:=l) (k:=a) (λj x hj hx'=>bS<|h1 j x hj hx')<|λx hx'=>cA (by have:=h2 a x (cJ _) hx';omega)
  rw[e1,e2]
 have hrest:l[a]? ≠some c->Ok ((vB l 0 (a:Int)).bind λx49=>(app 8 ([]:Z Int) x49).bind λx51=>(app 8 x51 ([c]:Z Int)).bind λx54=>(vB l (a:Int) (l.length:Int)).bind λx56=>(app 8 x54 x56).bind λx58=>some x58) (λr=>r=uC l c):=λhx=>by
  have htk:(l.take a).length=a:=by rw[dE];omega
  refine IT (tv l a hle)<|XC (by simp only[List.length_nil];omega)<|XC (by rw[List.nil_append];simp only[eN,List.length_nil];omega)<|IT (r5 l a hle)<|XC ?_<|IS ?_
  ·rw[List.nil_append,eC,mJ];simp only[eN,List.length_nil];omega
  ·rw[hout hx];simp
 by_cases hlt:a<l.length
 ·have hx:l[a]? =some l[a]:=aM hlt;rw[iO hlt,aP,cB hx,aB,aB];refine Xn (λhb=>IS ?_)<|λhb=>hrest ?_
  ·rw[beq_iff_eq]at hb;rw[hin (by rw[hx,hb])]
  ·rw[beq_eq_false_iff_ne]at hb;rw[hx];intro e;injection e with e;exact hb e
 ·rw[CT (by omega),aR,aB,aR];exact hrest (by rw[List.getElem?_eq_none (by omega)];intro e;cases e)
theorem KD(l m:Z aG):kB (l++m)=kB l++kB m:=List.flatMap_append
theorem Gd{l:Z aG}(hl:l.length<=268435456)(hN:ns N):iV N l=some (l5<|kB l):=by
 refine XL ?_;unfold iV;refine WO (Xv (n:=l.length) (λs=>s.2) (λk s=>s.1=l5 (kB<|l.take k)) (Go:=λs=>s.1=l5 (kB l)) (Rt:=λ_=>False) ?_ ?_ (cP _) rfl rfl (by omega)) ?_
 ·rintro k⟨out,i⟩hk e hI;dsimp only at e hI ⊢;subst e;subst hI;rw[iO hk,aP];have hx:l[k]? =some l[k]:=aM hk;have h1:=xp<|kB<|l.take k
  rw[nQ,dE]at h1;have h2:=CU (l5<|kB<|l.take k) l[k].Y0;refine WV hx<|WV hx<|IT (Ao (pP _) (by omega) hN)<|IT (Ao (xo<|pP _) (by omega) hN)<|W8 ⟨bF (by omega),?_⟩
  rw[dM hk,KD];exact(zR _ _ _).symm
 ·rintro⟨out,i⟩e hI;dsimp only at e hI ⊢;subst e;rw[l4,aR];exact Xd (by rw[eD]at hI;exact hI)
 intro o ho;exact Xf ho (λs hs=>IS hs)<|λr hr=>hr.elim
def sp(s:aI):Int×Int:=(s.from_,s.to)
theorem O4:∀{l m:Z aI},l.map sp=m.map sp->l=m
 | [],[],_=>rfl
 | [],_::_,h=>by cases h
 |_::_,[],h=>by cases h
 |⟨a,b⟩::l,⟨c,d⟩::m,h=>by
  rw[eW,eW]at h;injection h with h1 h2
  unfold sp at h1;injection h1 with h3 h4
  simp only at h3 h4;rw[h3,h4,O4 h2]
theorem Ap(a b:Int):(if b<a then b else a)=min a b:=by omega
theorem tg(a b:Int):(if a<b then b else a)=max a b:=by omega
theorem HO{l:Z aI}{s:aI}(hl:l.length<=268435456)(hN:ns N):Ok (jw N l s) (λr=>r.map sp=nB (l.map sp) (sp s)):=by
 unfold jw;have hget:∀(j:Nat)(x:Int×Int),(l.map sp)[j]? =some x->∃y,l[j]? =some y/\x=sp y:=λj x h=>by
  grind
 refine WO (X2 (Go:=λst:Z aI×Int=>∃k:Nat,st=(l.take k,(k:Int))/\k<=l.length/\(∀(j:Nat)x,j<k->l[j]? =some x->x.to<s.from_)/\(∀x,l[k]? =some x->¬x.to<s.from_)) (Rt:=λ_=>False)
  (λst=>∃k:Nat,st=(l.take k,(k:Int))/\k<=l.length/\∀(j:Nat)x,j<k->l[j]? =some x->x.to<s.from_) (λst=>l.length - st.2.toNat) ?_ ⟨0,by simp,by omega,λj x hj=>by omega⟩ (by simp;omega)) ?_
 ·rintro st⟨k,rfl,hk,hI⟩;dsimp only
  by_cases hlt:k<l.length
  ·have hx:l[k]? =some l[k]:=aM hlt;rw[iO hlt,aP,cB hx,aB,aB];refine Xn (λhb=>?_)<|λhb=>?_
   ·have hb:=of_decide_eq_true hb;refine IT rfl<|XC ?_<|W8 ⟨⟨k+1,?_,hlt,?_⟩,?_⟩
    ·grind
    all_goals grind [bF,dM,cK]
   grind [of_decide_eq_false,Xd]
  grind [CT,aB,Xd,bR]
 intro o ho;refine Xf ho ?_<|λr hr=>hr.elim
 rintro st⟨k,rfl,hk,hI,hE⟩;dsimp only
 obtain⟨e1,e2⟩:=uB (p:=λa:Int×Int=>decide (a.2<(sp s).1)) (l:=l.map sp) (k:=k) (λj x hj hx=>by
  obtain⟨y,hy,rfl⟩:=hget j x hx
  exact bS (hI j y hj hy)) (λx hx=>by
  obtain⟨y,hy,rfl⟩:=hget k x hx
  exact cA (hE y hy))
 refine WO (X2 (Go:=λst:aI×Int=>∃i:Nat,st.2=(i:Int)/\i<=l.length/\l7 (sp s) ((l.drop k).map sp)=(sp st.1,(l.drop i).map sp)) (Rt:=λ_=>False)
  (λst=>∃i:Nat,st.2=(i:Int)/\i<=l.length/\l7 (sp s) ((l.drop k).map sp)=l7 (sp st.1) ((l.drop i).map sp)) (λst=>l.length - st.2.toNat) ?_ ⟨k,rfl,hk,rfl⟩ (by omega)) ?_
 ·rintro⟨s',i'⟩⟨i,e,hi,hm⟩;dsimp only at e hm ⊢;subst e
  by_cases hlt:i<l.length
  ·have hx:l[i]? =some l[i]:=aM hlt;have hd:(l.drop i).map sp=sp l[i]::(l.drop<|i+1).map sp:=by rw[xD hlt,eW]
   rw[iO hlt,aP,cB hx,aB,aB];refine Xn (λhb=>?_)<|λhb=>?_
   ·have hb:=of_decide_eq_true hb;refine IT rfl<|IT rfl<|W8 ⟨⟨i+1,bF (by omega),hlt,?_⟩,?_⟩
    ·rw[hm,hd]
     conv=>lhs;unfold l7
     rw[aF (show(sp l[i]).1<=(sp s').2 from hb),Ap,tg];rfl
    ·dsimp only;rw[bF (by omega)];simp only[cK];omega
   ·have hb:=of_decide_eq_false hb;refine Xd ⟨i,rfl,hi,?_⟩;rw[hm,hd]
    conv=>lhs;unfold l7
    rw[aH (show ¬(sp l[i]).1<=(sp s').2 from hb)]
  ·rw[CT (by omega),aR,aB,aR];refine Xd ⟨i,rfl,hi,?_⟩;rw[hm,List.drop_eq_nil_of_le (by omega)];rfl
 intro o ho;refine Xf ho ?_<|λr hr=>hr.elim
 rintro⟨s',i'⟩⟨i,e,hi,hm⟩;dsimp only at e hm ⊢;subst e;refine XC ?_<|IT (r5 l i hi)<|XC ?_<|IS ?_
 ·rw[dE];simp only[eN,List.length_nil];omega
 ·rw[eC,dE,mJ];simp only[eN,List.length_nil];omega
 ·unfold nB;rw[e1,e2,<-List.map_take,<-List.map_drop,hm];simp
theorem Ge:∀(l:Z (Int×Int))(s:Int×Int),(l7 s l).2.length<=l.length
 | [],s=>cJ _
 |a::l,s=>by
  unfold l7;split
  ·have:=Ge l (min s.1 a.1,max s.2 a.2);rw[eN];omega
  ·exact cJ _
theorem D9(l:Z (Int×Int))(s:Int×Int):(nB l s).length<=l.length+1:=by
 grind [nB,Ge,decide,eC,List.takeWhile_append_dropWhile,eN]
def kW(y:Int)(out:Z (Int×Int))(r:aG):Z (Int×Int):=if r.Y0<=y/\y<r.Y1 then nB out (r.X0,r.X1)else out
def nF(l:Z aG)(y:Int):Z (Int×Int):=l.foldl (kW y) []
theorem NF(l:Z aG)(r:aG)(y:Int):nF (l++[r]) y=kW y (nF l y) r:=by simp[nF,List.foldl_append]
theorem Ea(y:Int):∀(l:Z aG)(out:Z (Int×Int)),(l.foldl (kW y) out).length<=out.length+l.length
 | [],out=>by simp
 |r::l,out=>by
  rw[List.foldl_cons,eN];have h1:=Ea y l<|kW y out r
  have h2:(kW y out r).length<=out.length+1:=by
   unfold kW;split
   ·exact D9 _ _
   ·omega
  omega
theorem xq(l:Z aG)(y:Int):(nF l y).length<=l.length:=by
 grind [Ea,nF]
theorem CV(y:Int):∀(l:Z aG)(out:Z (Int×Int)),(∀r∈l,r.X0<r.X1)->kC (dU out)->kC (dU<|l.foldl (kW y) out)/\∀x,kA (l.foldl (kW y) out) x=(kA out x||vW l x y)
 | [],out,_,h=>⟨h,λx=>by simp[vW]⟩
 |r::l,out,hr,h=>by
  have h0:=hr r (by simp);rw[List.foldl_cons];have hst:kC (dU<|kW y out r)/\∀x,kA (kW y out r) x=(kA out x||((decide (r.X0<=x)&&decide (x<r.X1))&&(decide (r.Y0<=y)&&decide (y<r.Y1)))):=by
   unfold kW
   by_cases hy:r.Y0<=y/\y<r.Y1
   ·rw[aF hy];obtain⟨j1,j2⟩:=CJ (l:=out) (s:=(r.X0,r.X1)) h h0;refine⟨j1,λx=>?_⟩;rw[j2,bS hy.1,bS hy.2,Bool.or_comm];simp
   ·rw[aH hy];refine⟨h,λx=>?_⟩;have:(decide (r.Y0<=y)&&decide (y<r.Y1))=false:=by rw[Bool.and_eq_false_iff,decide_eq_false_iff_not,decide_eq_false_iff_not];omega
    rw[this];simp
  obtain⟨m1,m2⟩:=CV y l (kW y out r) (λr' hr'=>hr r'<|ja _ hr') hst.1;refine⟨m1,λx=>?_⟩;rw[m2,hst.2,Bool.or_assoc];rfl
theorem Aq{l:Z aG}(h:∀r∈l,r.X0<r.X1)(y:Int):kC (dU<|nF l y)/\∀x,kA (nF l y) x=vW l x y:=by
 obtain⟨h1,h2⟩:=CV y l [] h ky
 grind [kA,nF]
theorem A8{y y':Int}:∀(l:Z aG)(out:Z (Int×Int)),(∀r∈l,(r.Y0<=y/\y<r.Y1)↔(r.Y0<=y'/\y'<r.Y1))->l.foldl (kW y) out=l.foldl (kW y') out
 | [],out,_=>rfl
 |r::l,out,h=>by
  rw[List.foldl_cons,List.foldl_cons,A8 l _<|λr' hr'=>h r'<|ja _ hr'];congr 1;unfold kW;have:=h r (by simp)
  by_cases h1:r.Y0<=y/\y<r.Y1
  ·rw[aF h1,aF<|this.1 h1]
  ·rw[aH h1,aH<|λh2=>h1<|this.2 h2]
theorem LQ{l:Z aG}{y y':Int}(h:∀r∈l,(r.Y0<=y/\y<r.Y1)↔(r.Y0<=y'/\y'<r.Y1)):nF l y=nF l y':=A8 l [] h
theorem O5{l:Z aG}{y:Int}(h:∀r∈l,¬(r.Y0<=y/\y<r.Y1)):nF l y= []:=by
 have:∀(l:Z aG)(out:Z (Int×Int)),(∀r∈l,¬(r.Y0<=y/\y<r.Y1))->l.foldl (kW y) out=out:=by
  intro l
  induction l with
  |nil=>simp
  |cons r l ih=>
   grind [ja,kW]
 exact this l [] h
theorem IM{l:Z aG}{y:Int}(hl:l.length<=134217728)(hN:ns N):Ok (iT N l y) (λr=>r.map sp=nF l y):=by
 unfold iT;refine WO (Xv (n:=l.length) (λs=>s.2) (λk s=>s.1.map sp=nF (l.take k) y) (Go:=λs=>s.1.map sp=nF l y) (Rt:=λ_=>False) ?_ ?_ (cP _) rfl rfl (by omega)) ?_
 ·rintro k⟨out,i⟩hk e hI;dsimp only at e hI ⊢;subst e;rw[iO hk,aP];have hx:l[k]? =some l[k]:=aM hk;have hlen:out.length<=l.length:=by
   grind [xq,dQ,dE]
  rw[cB hx,aB];have hst:nF (l.take<|k+1) y=kW y (nF (l.take k) y) l[k]:=by rw[dM hk,NF]
  have hno:¬(l[k].Y0<=y/\y<l[k].Y1)->Ok ((some out).bind λs141=>some (Fl.nx (s141,wrap .i64<|((k:Nat):Int)+1):Fl (Z aI×Int) Empty)) (PL (λs'=>s'.2=((k+1:Nat):Int)/\s'.1.map sp=nF (l.take<|k+1) y) (λs=>s.1.map sp=nF l y)<|λ_=>False):=λhy=>by
   grind [aB,W8,bF,kW]
  by_cases h1:l[k].Y0<=y
  ·rw[bS h1,aP,aB,aB]
   by_cases h2:y<l[k].Y1
   ·rw[bS h2,aP];refine WO (P:=λr:Z aI=>r.map sp=nF (l.take<|k+1) y) (IT rfl<|IT rfl<|WO (HO (by omega) hN)<|λr hr=>IS ?_)<|λr hr=>W8 ⟨bF (by omega),hr⟩
    rw[hr,hI,hst];unfold kW;rw[aF ⟨h1,h2⟩];rfl
   ·rw[cA h2,aR];exact hno<|λh=>h2 h.2
  ·rw[cA h1,aR,aB,aR];exact hno<|λh=>h1 h.1
 ·rintro⟨out,i⟩e hI;dsimp only at e hI ⊢;subst e;rw[l4,aR];exact Xd (by rw[eD]at hI;exact hI)
 intro o ho;exact Xf ho (λs hs=>IS hs)<|λr hr=>hr.elim
theorem DI{l:Z aI}{x:Int}(hl:l.length<=1099511627776)(hN:ns N):ir N l x=some (kA (l.map sp) x):=by
 refine XL ?_;unfold ir;have hm:∀b:Bool,(kA (l.map sp) x=b↔(l.any λs=>decide (s.from_<=x)&&decide (x<s.to))=b):=λb=>by unfold kA;rw[List.any_map];rfl
 refine WO (Xv (n:=l.length) (λs=>s) (λk s=>∀(j:Nat)y,j<k->l[j]? =some y->¬(y.from_<=x/\x<y.to)) (Go:=λs=>kA (l.map sp) x=false) (Rt:=λr=>r=kA (l.map sp) x) ?_ ?_ (cP _) rfl (λj y hj=>by omega) (by omega)) ?_
 ·rintro k i hk e hI;subst e;rw[iO hk,aP];have hx:l[k]? =some l[k]:=aM hk;rw[cB hx,aB]
  have hno:¬(l[k].from_<=x/\x<l[k].to)->Ok (some (Fl.nx (wrap .i64 (((k:Nat):Int)+1)):Fl Int Bool)) (PL (λs'=>s'=((k+1:Nat):Int)/\∀(j:Nat)y,j<k+1->l[j]? =some y->¬(y.from_<=x/\x<y.to)) (λs=>kA (l.map sp) x=false) (λr=>r=kA (l.map sp) x)):=λhy=>W8 ⟨bF (by omega),λj y hj hjy=>by
   grind⟩
  by_cases h1:l[k].from_<=x
  ·rw[bS h1,aP,aB,aB]
   by_cases h2:x<l[k].to
   ·rw[bS h2,aP];refine XR ?_;symm;rw[hm,lV]
    grind
   grind
  grind
 ·rintro i e hI;subst e;rw[l4,aR];refine Xd ?_;rw[hm,List.any_eq_false]
  grind [eE,bR,Bool.and_eq_false_iff,decide_eq_false_iff_not]
 intro o ho;exact Xf ho (λs hs=>IS hs.symm)<|λr hr=>IS hr
end
section
variable {α:Type}[DecidableEq α]{N:Nat}
def RH(N:Nat)(p0 p1:Z α):aT Bool:=
 bif(p0.length:Int) != (p1.length:Int)then some false else((iD (λ(s32:Int)=>(bif decide (s32<(p0.length:Int))then((idx p0 s32).bind λx45=>(idx p1 s32).bind λx48=>bif(!(decide<|x45=x48))then some (.rt false)else some (.nx<|wrap .i64<|s32+1))else(some<|.br s32):aT (Fl Int Bool))) N 0).bind λo51=>o51.cs (λ(s32:Int)=>some true)<|λr=>some r)
theorem KE{l m:Z α}(hl:l.length<=1099511627776)(hN:ns N):RH N l m=some (decide<|l=m):=by
 refine XL ?_;unfold RH
 by_cases he:l.length=m.length
 ·rw[show((l.length:Int) != (m.length:Int))=false by rw[he];simp,aR];refine WO (Xv (n:=l.length) (λs=>s) (λk s=>∀j,j<k->l[j]? =m[j]?) (Go:=λs=>l=m) (Rt:=λr=>r=false/\l≠m) ?_ ?_ (cP _) rfl (λj hj=>by omega) (by omega)) ?_
  ·rintro k i hk e hI;subst e;have hx:l[k]? =some l[k]:=aM hk
   grind [aM,iO,WV,XR,W8,bF]
  ·rintro i e hI;subst e;rw[l4,aR];refine Xd<|List.ext_getElem? λj=>?_
   grind
  intro o ho;exact Xf ho (λs hs=>IS (bS hs).symm)<|λr hr=>IS (by grind)
 grind [IS,cA]
end
section
variable {N:Nat}
theorem IP{l m:Z aG}(hl:l.length<=1099511627776)(hN:ns N):kR N l m=some (decide<|l=m):=KE hl hN
theorem IQ{l m:Z aI}(hl:l.length<=1099511627776)(hN:ns N):kQ N l m=some (decide<|l=m):=KE hl hN
def zS(b:aQ):Bd:=⟨b.from_,b.to,dU<|b.kq.map sp⟩
theorem NG{l:Z (Int×Int)}:dU l= []↔l= []:=by
 cases l with
 |nil=>exact⟨λ_=>rfl,λ_=>rfl⟩
 |cons s l=>exact⟨λh=>(by cases h),λh=>(by cases h)⟩
theorem NH{l m:Z aI}:dU (l.map sp)=dU (m.map sp)↔l=m:=by grind [O4,HE]
theorem LR{l:Z aQ}{b:aQ}(hlt:b.from_<b.to)(hl:l.length<=1073741824)(hs:∀c∈l,c.kq.length<=1099511627776)(hN:ns N):
  Ok (gR N l b) (λr=>r.map zS=kU (l.map zS) (zS b)):=by
 unfold gR kU
 by_cases h0:b.kq= []
 ·rw[show((b.kq.length:Int)==0)=true by rw[h0];rfl,aP,aF<|.inl (by unfold zS;rw[h0];rfl)];exact IS rfl
 ·rw[show((b.kq.length:Int)==0)=false by simp_all,aR];have hne:¬((zS b).xs= []\/(zS b).y1<=(zS b).y0):=by
   rintro(h|h)
   ·have h:=NG.1 h
    simp_all
   ·have h:b.to<=b.from_:=h;omega
  rw[aH hne]
  rcases List.eq_nil_or_concat l with rfl|⟨A,c,hA⟩
  ·grind [decide,aB,XC,IS]
  ·rw[List.concat_eq_append]at hA;subst hA;have hlen:(A++[c]).length=A.length+1:=by simp
   have hwp:wrap .i64 ((((A++[c]).length:Nat):Int) - 1)=(A.length:Int):=by grind [FO]
   have hlast:(A++[c])[A.length]? =some c:=by simp
   rw[hwp,bS (by omega),aP,cB hlast,aB,aB,IQ (by grind) hN,aB,aB,cK];have hl2:((A++[c]).map zS).getLast? =some (zS c):=by simp
   have hd2:((A++[c]).map zS).dropLast=A.map zS:=by simp
   rw[hl2,hd2];dsimp only
   by_cases h1:c.to=b.from_/\c.kq=b.kq
   ·grind [zS,bS,aB,IS,List.set_append_right]
   ·rw[aH (show ¬((zS c).y1=(zS b).y0/\(zS c).xs=(zS b).xs)from λh=>h1 ⟨h.1,NH.1 h.2⟩)];have e2:(bif c.to==b.from_ then some (decide<|c.kq=b.kq)else some false)=some false:=by
     by_cases h2:c.to=b.from_
     ·rw[show(c.to==b.from_)=true by rw[h2];simp,aP,cA<|λh=>h1 ⟨h2,h⟩]
     ·rw[show(c.to==b.from_)=false by simpa using h2,aR]
    rw[e2,aB,aR];exact XC (by rw[hlen];simp;omega)<|IS (by simp)
theorem O6{s:Z Bd}{b c:Bd}(h:c∈kU s b):c.xs=b.xs\/∃d∈s,c.xs=d.xs:=by
 grind [kU,List.dropLast_subset,List.mem_of_getLast?]
theorem uD{f:Int->Z Int}{B:Nat}(hf:∀y,(f y).length<=B):∀(ss:Z (Int×Int))(out:Z Bd),(∀c∈out,c.xs.length<=B)->(∀c∈oj f ss out,c.xs.length<=B)/\(oj f ss out).length<=out.length+ss.length
 | [],out,h=>⟨h,by simp[oj]⟩
 |s::ss,out,h=>by
  obtain⟨h1,h2⟩:=uD hf ss (kU out ⟨s.1,s.2,f s.1⟩) (λc hc=>by
   rcases O6 hc with h3|⟨d,hd,h3⟩
   ·grind
   grind)
  refine⟨h1,?_⟩;have:=Nr out ⟨s.1,s.2,f s.1⟩;show(oj f ss<|kU out ⟨s.1,s.2,f s.1⟩).length<=_;rw[eN];omega
theorem qA:∀(ys:Z Int),(l8 ys).length=ys.length - 1
 | []=>rfl
 | [_]=>rfl
 |a::b::l=>by
  show(l8<|b::l).length+1=_;rw[qA<|b::l];simp
theorem Gf:∀(ys:Z Int)(k:Nat)(h:k+1<ys.length),(l8 ys)[k]? =some (ys[k],ys[k+1])
 | [],k,h=>by simp at h
 | [_],k,h=>by simp at h
 |a::b::l,0,h=>rfl
 |a::b::l,k+1,h=>by
  have:=Gf (b::l) k (by grind);show(l8<|b::l)[k]? =_;rw[this];rfl
theorem KF(f:Int->Z Int)(ss:Z (Int×Int))(s:Int×Int)(out:Z Bd):oj f (ss++[s]) out=kU (oj f ss out) ⟨s.1,s.2,f s.1⟩:=by simp[oj,List.foldl_append]
theorem Gg{ys:Z Int}(hy:kC ys){f:Int->Z Int}{B:Nat}(hf:∀y,(f y).length<=B)(hB:B<=1099511627776)(hys:ys.length<=1073741824){out:Z aQ}{k:Nat}(h1:1<=k)(hk:k<ys.length)
  (hI:out.map zS=oj f ((l8 ys).take<|k - 1) []) {r:Z aI} (hr:dU (r.map sp)=f (ys[k - 1]'(by omega))) (hN:ns N):
  Ok (gR N out ⟨ys[k - 1]'(by omega),ys[k],r⟩) (λo=>o.map zS=oj f ((l8 ys).take k) []):=by
 have hlt:ys[k - 1]'(by omega)<ys[k]:=ou.1 hy (k - 1) k (by omega) hk (by omega);obtain⟨s1,s2⟩:=uD hf ((l8 ys).take<|k - 1) [] (λc hc=>by cases hc);have hol:out.length<=ys.length:=by
  grind
 refine(LR hlt (by omega) (λc hc=>?_) hN).mono λo ho=>?_
 ·have h3:(zS c).xs.length<=B:=s1 _ (by grind)
  grind [zS,lE,dQ]
 ·have hg:=Gf ys (k - 1) (by omega)
  grind [l8,qA,dM,aM,KF,zS]
def vv(b:aQ):Z aG:=b.kq.map λs=>⟨s.from_,b.from_,s.to,b.to⟩
def qd(l:Z aQ):Z aG:=l.flatMap vv
theorem KG:∀(l:Z (Int×Int)),FR (dU l)=l
 | []=>rfl
 |s::l=>by rw[k6];show(s.1,s.2)::FR (dU l)=_;rw[KG l]
theorem DJ:∀{l:Z aQ}{s:Z aA},l.map zS=s.map cR->qd l=bA s
 | [],[],_=>rfl
 | [],_::_,h=>by cases h
 |_::_,[],h=>by cases h
 |b::l,c::s,h=>by
  rw[eW,eW]at h;injection h with h1 h2
  have e:=DJ h2;show vv b++qd l=pg c++bA s;rw[e];congr 1;unfold zS cR at h1;injection h1 with g1 g2 g3
  unfold vv pg;rw[<-g3,KG,g1,g2,List.map_map];rfl
theorem KH(l:Z aQ)(b:aQ):qd (l++[b])=qd l++vv b:=by simp[qd,List.flatMap_append]
theorem MS{l:Z aQ}(hl:l.length<=1099511627776)(hs:∀b∈l,b.kq.length<=1099511627776)(hr:(qd l).length<=1099511627776)(hN:ns N):kj N l=some (qd l):=by
 refine XL ?_;unfold kj;refine WO (Xv (n:=l.length) (λs=>s.2) (λk s=>s.1=qd (l.take k)) (Go:=λs=>s.1=qd l) (Rt:=λ_=>False) ?_ ?_ (cP _) rfl rfl (by omega)) ?_
 ·rintro k⟨out,i⟩hk e hI;dsimp only at e hI ⊢;subst e;subst hI;rw[iO hk,aP];have hx:l[k]? =some l[k]:=aM hk;have hsl:=hs _<|cH hk
  have hts:qd (l.take<|k+1)=qd (l.take k)++vv l[k]:=by rw[dM hk,KH]
  have hlen:(qd<|l.take k).length+l[k].kq.length<=(qd l).length:=by
   grind [qd,eC,List.take_append_drop,vv,dQ]
  refine WO (Xv (n:=l[k].kq.length) (λs=>s.2) (λj s=>s.1=qd (l.take k)++(vv l[k]).take j) (Go:=λs=>s.1=qd (l.take<|k+1)) (Rt:=λ_=>False) ?_ ?_ (cP _) rfl (by simp) (by omega)) ?_
  ·rintro j⟨o2,i2⟩hj e hI;dsimp only at e hI ⊢;subst e;subst hI;have hy:l[k].kq[j]? =some l[k].kq[j]:=aM hj;have hjr:j<(vv l[k]).length:=by grind [vv,dQ]
   refine WV hx ?_;rw[iO hj,aP];refine WV hx<|WV hy<|WV hx<|WV hx<|WV hy<|WV hx<|XC ?_<|W8 ⟨bF (by omega),?_⟩
   ·grind
   grind [kN,dM,vv]
  ·grind [WV,Xd,nc,vv,dQ]
  intro o ho;exact Xf ho (λs hs=>W8 ⟨bF (by omega),hs⟩)<|λr hr=>hr.elim
 ·rintro⟨out,i⟩e hI;dsimp only at e hI ⊢;subst e;rw[l4,aR];exact Xd (by rw[eD]at hI;exact hI)
 intro o ho;exact Xf ho (λs hs=>IS hs)<|λr hr=>hr.elim
theorem HQ{l:Z aG}{ys:Z Int}(hm:∀r∈l,r.Y0∈ys/\r.Y1∈ys){s:Int×Int}{y:Int}(hs:s∈l8 ys)(hy:kC ys)(h1:s.1<=y)(h2:y<s.2):nF l y=nF l s.1:=LQ λr hr=>by
 obtain⟨m1,m2⟩:=hm r hr;obtain⟨_,_,_,h⟩:=uL hy s hs
 rcases h _ m1 with h3|h3 <;> rcases h _ m2 with h4|h4 <;> constructor <;> intro h5 <;> omega
theorem IU{l:Z aG}{ys:Z Int}(hm:∀r∈l,r.Y0∈ys/\r.Y1∈ys){y:Int}(h:(∀c∈ys,y<c)\/(∀c∈ys,c<=y)):nF l y= []:=by grind [O5]
theorem IV{l:Z aG}:∀r∈l,r.Y0∈l5 (kB l)/\r.Y1∈l5 (kB l):=by grind [HN,pf]
theorem O7(l:Z aG):(l5<|kB l).length<=2*l.length:=by
 grind [xp,kB,nQ]
theorem yk{l:Z aG}{s:Z aA}(hc:fY (s.map cR))(hcov:∀x y,yW (s.map cR) x y=vW l x y)(hl:l.length<=10000000)(hok:∀r∈l,r.X0<r.X1)(hr:(bA s).length<=1099511627776)(hN:ns N):
  gu N l=some (bA s):=by
 refine XL ?_;unfold gu;refine IT (Gd (by omega) hN) ?_;have hyl:=O7 l;have hyi:=pP<|kB l
 have hf:∀y,kC (dU<|nF l y)/\(dU<|nF l y).length % 2=0:=λy=>⟨(Aq hok y).1,by simp[lE]⟩;have hfl:∀y,(dU<|nF l y).length<=20000000:=λy=>by grind [lE,xq]
 obtain⟨b1,b2⟩:=D5 (f:=λy=>dU<|nF l y) hf hyi (λt ht y h1 h2=>by(try dsimp only);rw[HQ IV ht hyi h1 h2]) (λy h=>by(try dsimp only);rw[IU IV h];rfl);have hsame:oj (λy=>dU<|nF l y) (l8<|l5<|kB l) []=s.map cR:=yb b1 hc λx y=>by
  grind [yW,xg,Aq]
 have hmy:= @IV l;generalize l5 (kB l)=ys at *;refine WO (Xv (n:=max 1 ys.length) (λs=>s.2) (λk st=>1<=k/\st.1.map zS=oj (λy=>dU<|nF l y) ((l8 ys).take<|k - 1) []) (Go:=λst=>st.1.map zS=s.map cR) (Rt:=λ_=>False) ?_ ?_ (k0:=1) (by omega) rfl ⟨cJ _,rfl⟩ (by omega)) ?_
 ·rintro k⟨out,i⟩hk e⟨hk1,hI⟩;dsimp only at e hI ⊢;subst e;have hk2:k<ys.length:=by omega
  rw[iO hk2,aP,iL hk1 (by omega)];refine XN (by omega)<|XN hk2<|XN (by omega)<|WO (IM (by omega) hN) λr hr=>WO (Gg hyi (f:=λy=>dU<|nF l y) hfl (by omega) (by omega) hk1 hk2 hI (by grind) hN) λo ho=>W8 ⟨bF (by omega),by omega,?_⟩
  grind
 ·grind [CT,Xd,nc,qA]
 intro o ho;refine Xf ho (λst hs=>?_)<|λr hr=>hr.elim
 have e:=DJ hs;obtain⟨s1,s2⟩:=uD (f:=λy=>dU<|nF l y) hfl (l8 ys) [] (λc hc=>by cases hc);refine IT (MS (l:=st.1) ?_ ?_ (by rw[e];exact hr) hN)<|IS e
 ·have:(st.1.map zS).length<=ys.length:=by rw[hs,<-hsame];have:=qA ys;simp only[List.length_nil]at s2;omega
  rw[dQ]at this;omega
 ·intro b hb;have h3:=s1 (zS b) (by rw[hsame,<-hs];exact dN.2 ⟨b,hb,rfl⟩);have h4:(zS b).xs.length=2*b.kq.length:=by unfold zS;rw[lE,dQ]
  omega
def v8(w:Int)(p q:Bool):Bool:=((((w==1)&&(p||q))||(((w==2)&&p)&&q))||(((w==3)&&p)&&(!q)))
theorem O8(w:Int):v8 w false false=false:=by simp[v8]
theorem Eb(iU:Bool->Bool->Bool)(a b ss:Z (Int×Int))(s:Int×Int)(out:Z (Int×Int)):oh iU a b (ss++[s]) out=if iU (kA a s.1) (kA b s.1)=true then nB (oh iU a b ss out) s else oh iU a b ss out:=by simp[oh,List.foldl_append]
theorem BR(iU:Bool->Bool->Bool)(a b:Z (Int×Int)):∀(ss out:Z (Int×Int)),(oh iU a b ss out).length<=out.length+ss.length
 | [],out=>by simp[oh]
 |s::ss,out=>by
  have h1:=BR iU a b ss (if iU (kA a s.1) (kA b s.1)=true then nB out s else out);have h2:(if iU (kA a s.1) (kA b s.1)=true then nB out s else out).length<=out.length+1:=by
   split
   ·exact D9 _ _
   ·omega
  show(oh iU a b ss (if iU (kA a s.1) (kA b s.1)=true then nB out s else out)).length<=_;rw[eN];omega
def Ec(a b:Z (Int×Int)):Z Int:=l5<|dU a++dU b
theorem HR(a b:Z (Int×Int)):(Ec a b).length<=2*a.length+2*b.length:=by
 have:=xp<|dU a++dU b
 rw[eC,lE,lE]at this;exact this
theorem O9{a b:Z aI}{w:Int}(ha:a.length<=10000000)(hb:b.length<=10000000)(hN:ns N):
  Ok (k8 N a b w) (λr=>r.map sp=oh (v8 w) (a.map sp) (b.map sp) (l8<|Ec (a.map sp)<|b.map sp) []):=by
 unfold k8;have hfl:∀(l:Z aI),(l5<|dU<|l.map sp).length<=2*l.length:=λl=>by
  grind [xp,dU,lE,dQ]
 refine WO (Xv (n:=a.length) (λs=>s.2) (λk s=>s.1=l5 (dU<|(a.take k).map sp)) (Go:=λs=>s.1=l5 (dU<|a.map sp)) (Rt:=λ_=>False) ?_ ?_ (cP _) rfl rfl (by omega)) ?_
 ·rintro k⟨out,i⟩hk e hI;dsimp only at e hI ⊢;subst e;subst hI;rw[iO hk,aP];have hx:a[k]? =some a[k]:=aM hk;have h1:=hfl<|a.take k
  rw[dE]at h1;have h2:=CU (l5<|dU<|(a.take k).map sp) a[k].from_;refine WV hx<|WV hx<|IT (Ao (pP _) (by omega) hN)<|IT (Ao (xo<|pP _) (by omega) hN)<|W8 ⟨bF (by omega),?_⟩
  rw[dM hk,fH,yc];exact(zR _ _ _).symm
 ·simp[l4,aR,Xd,eD]
 intro o ho;refine Xf ho ?_<|λr hr=>hr.elim
 rintro⟨xa,ia⟩hxa;dsimp only at hxa ⊢;subst hxa;refine WO (Xv (n:=b.length) (λs=>s.2) (λk s=>s.1=l5 (dU (a.map sp)++dU ((b.take k).map sp))) (Go:=λs=>s.1=Ec (a.map sp) (b.map sp)) (Rt:=λ_=>False) ?_ ?_ (cP _) rfl (by simp[dU]) (by omega)) ?_
 ·rintro k⟨out,i⟩hk e hI;dsimp only at e hI ⊢;subst e;subst hI;rw[iO hk,aP];have hx:b[k]? =some b[k]:=aM hk;have h1:=xp<|dU (a.map sp)++dU ((b.take k).map sp)
  rw[eC,lE,lE,dQ,dQ,dE]at h1;have h2:=CU (l5<|dU (a.map sp)++dU ((b.take k).map sp)) b[k].from_;refine WV hx<|WV hx<|IT (Ao (pP _) (by omega) hN)<|IT (Ao (xo<|pP _) (by omega) hN)<|W8 ⟨bF (by omega),?_⟩
  rw[dM hk,fH,yc,<-kN];exact(zR _ _ _).symm
 ·rintro⟨out,i⟩e hI;dsimp only at e hI ⊢;subst e;rw[l4,aR];exact Xd (by rw[eD]at hI;exact hI)
 intro o ho;refine Xf ho ?_<|λr hr=>hr.elim
 rintro⟨xs,ix⟩hxs;dsimp only at hxs ⊢;have hxl:=HR (a.map sp)<|b.map sp
 rw[<-hxs,dQ,dQ]at hxl;rw[<-hxs];clear hxs;refine WO (Xv (n:=max 1 xs.length) (λs=>s.2) (λk st=>1<=k/\st.1.map sp=oh (v8 w) (a.map sp) (b.map sp) ((l8 xs).take<|k - 1) []) (Go:=λst=>st.1.map sp=oh (v8 w) (a.map sp) (b.map sp) (l8 xs) []) (Rt:=λ_=>False) ?_ ?_ (k0:=1) (by omega) rfl ⟨cJ _,rfl⟩ (by omega)) ?_
 ·rintro k⟨out,i⟩hk e⟨hk1,hI⟩;dsimp only at e hI ⊢;subst e;have hk2:k<xs.length:=by omega
  rw[iO hk2,aP,iL hk1 (by omega)];have hx:xs[k - 1]? =some (xs[k - 1]'(by omega)):=aM _;have hy:xs[k]? =some xs[k]:=aM hk2;have hg:=Gf xs (k - 1) (by omega);have hts:(l8 xs).take k=(l8 xs).take (k - 1)++[(xs[k - 1]'(by omega),xs[k])]:=by
   grind [l8,qA,dM,aM]
  have hol:out.length<=xs.length:=by
   have h1:=BR (v8 w) (a.map sp) (b.map sp) ((l8 xs).take<|k - 1) [];rw[<-hI,dQ,dE,qA]at h1;simp only[List.length_nil]at h1;omega
  refine WV hx<|WV hx<|IT (DI (by omega) hN)<|IT (DI (by omega) hN) ?_
  refine WO (P:=λr:Z aI=>r.map sp=oh (v8 w) (a.map sp) (b.map sp) ((l8 xs).take k) []) (Xn (λhb=>?_)<|λhb=>?_)<|λr hr=>W8 ⟨bF (by omega),by omega,by rw[Nat.add_sub_cancel];exact hr⟩
  ·refine WV hx<|WV hy<|WO (HO (by omega) hN)<|λr hr=>IS ?_
   rw[hr,hI,hts,Eb,aF (show v8 w _ _=true from hb)];rfl
  ·refine IS ?_;rw[hI,hts,Eb,aH (show ¬v8 w _ _=true by rw[ot];exact hb)]
 ·rintro⟨out,i⟩e⟨hk1,hI⟩;dsimp only at e hI ⊢;subst e;rw[CT (by omega),aR];refine Xd ?_;rw[nc (by rw[qA];omega)]at hI;exact hI
 intro o ho;exact Xf ho (λs hs=>IS hs)<|λr hr=>hr.elim
def qS(w:Int)(a b:Z aG)(y:Int):Z (Int×Int):=oh (v8 w) (nF a y) (nF b y) (l8<|Ec (nF a y)<|nF b y) []
theorem KI(a b:Z (Int×Int)):Ends a (Ec a b)/\Ends b (Ec a b):=by
 constructor <;> intro s hs <;> constructor <;> refine HN.2<|dJ.2 ?_
 ·exact .inl<|List.mem_flatMap.2 ⟨s,hs,by simp⟩
 ·exact .inl<|List.mem_flatMap.2 ⟨s,hs,by simp⟩
 ·exact .inr<|List.mem_flatMap.2 ⟨s,hs,by simp⟩
 ·exact .inr<|List.mem_flatMap.2 ⟨s,hs,by simp⟩
theorem Ed{a b:Z aG}(ha:∀r∈a,r.X0<r.X1)(hb:∀r∈b,r.X0<r.X1)(w y:Int):kC (dU<|qS w a b y)/\∀x,kA (qS w a b y) x=v8 w (vW a x y) (vW b x y):=by
 obtain⟨h1,h2⟩:=Kf (iU:=v8 w) (O8 w) (a:=nF a y) (b:=nF b y) (xs:=Ec (nF a y)<|nF b y) (pP _) (KI _ _).1 (KI _ _).2
 grind [kA,qS,Aq]
theorem LS(w:Int)(a b:Z aG)(y:Int):(qS w a b y).length<=2*a.length+2*b.length:=by
 grind [BR,v8,nF,l8,Ec,HR,xq,qA,qS,List.length_nil]
theorem KJ{a b:Z aG}{w:Int}{s:Z aA}(hc:fY (s.map cR))(hcov:∀x y,yW (s.map cR) x y=v8 w (vW a x y) (vW b x y))(hla:a.length<=10000000)(hlb:b.length<=10000000)
  (ha:∀r∈a,r.X0<r.X1) (hb:∀r∈b,r.X0<r.X1) (hr:(bA s).length<=1099511627776) (hN:ns N):iH N a b w=some (bA s):=by
 refine XL ?_;unfold iH;refine XC (by grind)<|XC (by grind) ?_
 rw[List.nil_append];refine IT (Gd (by grind) hN) ?_;have hyl:=O7<|a++b
 rw[eC]at hyl;have hyi:=pP<|kB<|a++b
 have hmy:= @IV<|a++b
 have hma:∀r∈a,r.Y0∈l5 (kB<|a++b)/\r.Y1∈l5 (kB<|a++b):=λr hr=>hmy r<|List.mem_append_left _ hr
 have hmb:∀r∈b,r.Y0∈l5 (kB<|a++b)/\r.Y1∈l5 (kB<|a++b):=λr hr=>hmy r<|List.mem_append_right _ hr
 have hf:∀y,kC (dU<|qS w a b y)/\(dU<|qS w a b y).length % 2=0:=λy=>⟨(Ed ha hb w y).1,by simp[lE]⟩;have hfl:∀y,(dU<|qS w a b y).length<=80000000:=λy=>by grind [lE,LS]
 obtain⟨b1,b2⟩:=D5 (f:=λy=>dU (qS w a b y)) hf hyi (λt ht y h1 h2=>by grind [qS,HQ]) (λy h=>by
  (try dsimp only);unfold qS;rw[IU hma h,IU hmb h];rfl)
 have hsame:oj (λy=>dU<|qS w a b y) (l8<|l5<|kB<|a++b) []=s.map cR:=yb b1 hc λx y=>by
  grind [yW,xg,Ed]
 clear hmy hma hmb;generalize l5 (kB<|a++b)=ys at *;refine WO (Xv (n:=max 1 ys.length) (λs=>s.2) (λk st=>1<=k/\st.1.map zS=oj (λy=>dU<|qS w a b y) ((l8 ys).take<|k - 1) []) (Go:=λst=>st.1.map zS=s.map cR) (Rt:=λ_=>False) ?_ ?_ (k0:=1) (by omega) rfl ⟨cJ _,rfl⟩ (by omega)) ?_
 ·rintro k⟨out,i⟩hk e⟨hk1,hI⟩;dsimp only at e hI ⊢;subst e;have hk2:k<ys.length:=by omega
  rw[iO hk2,aP,iL hk1 (by omega)];refine XN (by omega)<|XN hk2<|XN (by omega)<|XN (by omega)<|WO (IM (by omega) hN) λr1 hr1=>WO (IM (by omega) hN) λr2 hr2=>?_
  have l1:r1.length<=10000000:=by grind [xq,dQ]
  have l2:r2.length<=10000000:=by grind [xq,dQ]
  refine WO (O9 l1 l2 hN) λr hr=>WO (Gg hyi (f:=λy=>dU<|qS w a b y) hfl (by omega) (by omega) hk1 hk2 hI (by(try dsimp only);rw[hr,hr1,hr2];rfl) hN) λo ho=>W8 ⟨bF (by omega),by omega,?_⟩;rw[Nat.add_sub_cancel];exact ho
 ·rintro⟨out,i⟩e⟨hk1,hI⟩;dsimp only at e hI ⊢;subst e;rw[CT (by omega),aR];refine Xd ?_;rw[nc (by rw[qA];omega),hsame]at hI;exact hI
 intro o ho;refine Xf ho (λst hs=>?_)<|λr hr=>hr.elim
 have e:=DJ hs;obtain⟨s1,s2⟩:=uD (f:=λy=>dU<|qS w a b y) hfl (l8 ys) [] (λc hc=>by cases hc);refine IT (MS (l:=st.1) ?_ ?_ (by rw[e];exact hr) hN)<|IS e
 ·have:(st.1.map zS).length<=ys.length:=by rw[hs,<-hsame];have:=qA ys;simp only[List.length_nil]at s2;omega
  rw[dQ]at this;omega
 ·intro b hb;have h3:=s1 (zS b) (by rw[hsame,<-hs];exact dN.2 ⟨b,hb,rfl⟩);have h4:(zS b).xs.length=2*b.kq.length:=by unfold zS;rw[lE,dQ]
  omega
theorem IW(n:Int):dH N n=some (sI n):=rfl
theorem Gh{l:Z aG}(hl:l.length<=1099511627776)(hN:ns N):iZ N l=some (nR l):=by
 refine XL ?_;unfold iZ nR
 by_cases h:2000<l.length
 ·grind [bS,IS]
 ·rw[cA (by omega),aR,aH h];refine WO (Xv (n:=l.length) (λs=>s) (λk s=>∀(j:Nat)x,j<k->l[j]? =some x->nC x=none) (Go:=λs=>l.findSome? nC=none) (Rt:=λr=>l.findSome? nC=some r) ?_ ?_ (cP _) rfl (λj x hj=>by omega) (by omega)) ?_
  ·rintro k i hk e hI;subst e;rw[iO hk,aP];have hx:l[k]? =some l[k]:=aM hk;have hrt:∀c,nC l[k]=some c->l.findSome? nC=some c:=λc hc=>by
    rw[List.findSome?_eq_some_iff];refine⟨l.take k,l[k],l.drop<|k+1,?_,hc,λx hx'=>?_⟩
    ·rw[List.getElem_cons_drop,List.take_append_drop]
    grind [eE,bR,dE,List.getElem?_take_of_lt]
   refine WV hx ?_;have hb:((dH N l[k].X0).bind λx110=>bif(!x110)then some true else((dH N l[k].Y0).bind λx112=>bif(!x112)then some true else((dH N l[k].X1).bind λx114=>bif(!x114)then some true else((dH N l[k].Y1).bind λx116=>some<|!x116))))=some (!dO l[k]):=by
    rw[IW,IW,IW,IW];unfold dO
    grind
   refine IT hb<|Xn (λh1=>XR<|hrt 1 ?_)<|λh1=>Xn (λh2=>XR<|hrt 13 ?_)<|λh2=>W8 ⟨bF (by omega),λj x hj hjx=>?_⟩
   all_goals grind [nC]
  ·grind [Xd,List.findSome?_eq_none_iff,eE,bR]
  intro o ho;exact Xf ho (λs hs=>IS (by rw[hs];rfl))<|λr hr=>IS (by rw[hr];rfl)
theorem LU{l:Z aG}{s:Z aA}(hs:vm l s):IH l↔bA s=l:=⟨λ⟨t,h1,h2⟩=>by rw[hs.unique h1];exact h2,λh=>⟨s,hs,h⟩⟩
theorem yz{l:Z aG}(hl:l.length<=1073741824)(hN:ns N):gw N l=some (kp l):=by
 refine XL ?_;unfold gw;refine IT (Gh (by omega) hN) ?_;unfold kp;refine Xn (λh=>IS ?_)<|λh=>?_
 ·grind
 ·have h0:nR l=0:=by simpa using h
  rw[aH (by omega)];obtain⟨hlen,hok⟩:=F5 h0;have hbf:∀a b:aG,((decide (a.Y0<b.Y0)||((a.Y0==b.Y0)&&decide (a.X0<b.X0)))=true)↔¬(b.Y0<a.Y0\/(b.Y0=a.Y0/\b.X0<=a.X0)):=λa b=>by
   grind
  refine WO (X2 (Go:=λ_=>SP l) (Rt:=λr=>r=8/\¬SP l) (λs=>∃k:Nat,s=(k:Int)/\1<=k/\∀(j:Nat)a b,j+1<k->l[j]? =some a->l[j+1]? =some b->¬(b.Y0<a.Y0\/(b.Y0=a.Y0/\b.X0<=a.X0))) (λs=>l.length - s.toNat) ?_ ⟨1,rfl,cJ _,λj a b hj=>by omega⟩ (by simp;omega)) ?_
  ·rintro s⟨k,rfl,hk,hI⟩;refine Xn (λh=>?_)<|λh=>Xd λj a b ha hb=>hI j a b ?_ ha hb
   ·have hk2:k<l.length:=by grind
    rw[iL hk (by omega)];have hx:l[k - 1]? =some (l[k - 1]'(by omega)):=aM _;have hy:l[k]? =some l[k]:=aM hk2;refine WV hx<|WV hy ?_
    unfold jv;rw[aB];refine Xn (λhb=>XR ⟨rfl,λhu=>?_⟩)<|λhb=>W8 ⟨⟨k+1,by grind [bF],by omega,λj a b hj ha hb'=>?_⟩,by grind [bF,cK]⟩
    ·have:=(hbf _ _).2<|hu (k - 1) _ _ hx (by rw[show k - 1+1=k by omega];exact hy)
     grind
    grind
   grind
  ·rintro o ho;refine Xf ho (λs hu=>?_)<|λr hr=>IS (by grind)
   rw[aF hu];obtain⟨s,_,hs⟩:=sP (N:=N) (l:=l) (by omega) hok (by omega);obtain⟨z1,z2,z3⟩:=hs.Kr;have z4:2*l.length*(2*l.length)<=4000*4000:=Nat.mul_le_mul (by omega) (by omega);refine IT (yk hs.can hs.cover (by omega) (λr hr=>(hok r hr).x) (by omega) hN)<|IT (IP (by omega) hN) ?_
   grind [LU,IS,bA]
end
theorem Gi(n:Nat)(g:Nat->Nat):((List.range<|n+1).map g).sum=((List.range n).map g).sum+g n:=by
 simp[List.range_succ,fH,List.sum_append]
def UZ(r:aG)(x y:Int):Bool:=(decide (r.X0<=x)&&decide (x<r.X1))&&(decide (r.Y0<=y)&&decide (y<r.Y1))
def UP(a b:aG):Prop:=∀x y,¬(UZ a x y=true/\UZ b x y=true)
theorem Qy{r:aG}{x y:Int}:UZ r x y=true↔(r.X0<=x/\x<r.X1)/\r.Y0<=y/\y<r.Y1:=by simp[UZ]
theorem CW:∀{xs:Z Int},kC xs->(FR xs).Pairwise (λp q=>p.2<q.1)
 | [],_=>ky
 | [a],_=>ky
 |a::b::l,h=>by
  unfold FR;rw[qD];exact⟨λq hq=>h.tail.head q.1 (IB q hq).1,CW h.tail.tail⟩
def wC(a b:aG):Prop:=a.Y1<=b.Y0\/(a.Y0=b.Y0/\a.Y1=b.Y1/\a.X1<b.X0)
theorem wC.apart{a b:aG}(h:wC a b):UP a b:=λx y⟨h1,h2⟩=>by
 rw[Qy]at h1 h2
 rcases h with h|h <;> omega
theorem uE:∀{s:Z aA},fY (s.map cR)->(bA s).Pairwise wC
 | [],_=>ky
 |b::s,h=>by
  rw[ph,List.pairwise_append];refine⟨?_,uE h.tail,λx hx y hy=>?_⟩
  ·unfold pg;rw[List.pairwise_map];exact List.Pairwise.imp (λhpq=> .inr ⟨rfl,rfl,hpq⟩)<|CW (h.each (cR b) (by simp)).2.2.1
  ·unfold pg at hx;obtain⟨p,_,rfl⟩:=dN.1 hx;obtain⟨c,hc,q,_,rfl⟩:=sR hy;exact .inl<|h.FK (cR c)<|dN.2 ⟨c,hc,rfl⟩
theorem xt{s:Z aA}(h:fY (s.map cR)):∀r∈bA s,r.X0<r.X1/\r.Y0<r.Y1:=λr hr=>by
 obtain⟨b,hb,p,hp,rfl⟩:=sR hr;have hc:=h.each (cR b)<|dN.2 ⟨b,hb,rfl⟩
 exact⟨IC hc.2.2.1 p hp,hc.1⟩
theorem KK{s:Z aA}(h:fY (s.map cR)):(bA s).Nodup:=by
 have h1:=uE h;have h2:=xt h;refine List.Pairwise.imp_of_mem (λ{a b}ha hb hab e=>?_) h1;subst e;have:=h2 a ha
 rcases hab with h|h <;> omega
def xu(s:Z Bd):Nat:=(s.map<|λb=>b.xs.length / 2).sum
theorem KL(s t:Z Bd):xu (s++t)=xu s+xu t:=by simp[xu,fH,List.sum_append]
theorem NI(s:Z Bd)(b:Bd):xu (kU s b)<=xu s+b.xs.length / 2:=by
 unfold kU
 grind [vk,xu,KL]
structure Wo (t:Z Bd):Prop where
 each:∀b∈t,b.y0<b.y1/\kC b.xs/\b.xs.length % 2=0
 ord:t.Pairwise (λb c=>b.y1<=c.y0)
theorem fold_push:∀(t out:Z Bd),Wo t->fY out->(∀c∈out,∀b∈t,c.y1<=b.y0)->fY (t.foldl kU out)/\xu (t.foldl kU out)<=xu out+xu t/\
  ∀y,rowAt (t.foldl kU out) y=if(∃b∈t,b.y0<=y/\y<b.y1)then rowAt t y else rowAt out y
 | [],out,_,hc,_=>⟨hc,by simp[xu],λy=>by simp⟩
 |b::t,out,hl,hc,ho=>by
  have hb:=hl.each b (by simp);have hord:=qD.1 hl.ord;have ho1:∀c∈out,c.y1<=b.y0:=λc h=>ho c h b (by simp);have h1:=Af hc ho1 hb.2.1 hb.2.2;have htop:=Ag ho1 (show b.y0<=b.y1 by omega);obtain⟨f1,f2,f3⟩:=fold_push t (kU out b) ⟨λc hcm=>hl.each c<|ja _ hcm,hord.2⟩ h1 (λc hcm d hd=>by grind);refine⟨f1,?_,λy=>?_⟩
  ·have:=NI out b;have e:xu (b::t)=b.xs.length / 2+xu t:=by simp[xu]
   rw[List.foldl_cons,e];omega
  ·rw[List.foldl_cons,f3 y,Ae ho1 (λc hcm=>(hc.each c hcm).1)<|λh=>absurd h (by omega),o9]
   by_cases hy:b.y0<=y/\y<b.y1
   ·have hn:¬∃c∈t,c.y0<=y/\y<c.y1:=λ⟨c,hcm,h⟩=>by have:=hord.1 c hcm;omega
    rw[aH hn,aF hy,aF ⟨b,by simp,hy⟩,aF hy]
   ·rw[aH hy]
    by_cases h:∃c∈t,c.y0<=y/\y<c.y1
    ·obtain⟨c,hcm,h⟩:=h;rw[aF ⟨c,hcm,h⟩,aF ⟨c,ja _ hcm,h⟩,aH hy]
    ·rw[aH h,aH hy,aH (show ¬∃c∈b::t,c.y0<=y/\y<c.y1 from λ⟨c,hcm,h2⟩=>by
      grind)]
noncomputable def uc(C:Z aG)(b:aA):Bd:=⟨b.Y0,b.Y1,dU<|(FR b.Xs).filter<|λp=>decide<|(⟨p.1,b.Y0,p.2,b.Y1⟩:aG)∈C⟩
theorem NJ{l m:Z (Int×Int)}(h:l.Sublist m):(dU l).Sublist (dU m):=by
 induction h with
 |slnil=>exact List.Sublist.refl _
 |cons a _ ih=>grind [k6]
 |cons_cons a _ ih=>grind [k6]
theorem Gj(l:Z (Int×Int)):(dU l).length % 2=0/\(dU l).length / 2=l.length:=by simp[lE]
theorem HS{s p:Z aA}{C:Z aG}(hs:fY (s.map cR))(hp:fY (p.map cR))(hC:∀r∈C,r∈bA s)(hcov:∀x y,yW (p.map cR) x y=vW C x y):(bA p).length<=C.length:=by
 have hinc:∀b∈s,kC (uc C b).xs:=λb hb=>by
  have h1:=MN hs b hb;have h2:=NJ<|List.filter_sublist (l:=FR b.Xs) (p:=λp=>decide<|(⟨p.1,b.Y0,p.2,b.Y1⟩:aG)∈C)
  rw[FT<|xm hs b hb]at h2;exact List.Pairwise.sublist h2 h1
 have hlow:Wo (s.map<|uc C):=by
  refine⟨λb hb=>?_,?_⟩
  ·obtain⟨c,hc,rfl⟩:=dN.1 hb;exact⟨(hs.each (cR c)<|dN.2 ⟨c,hc,rfl⟩).1,hinc c hc,(Gj _).1⟩
  ·have:=hs.ord;rw[List.pairwise_map]at this ⊢;exact List.Pairwise.imp (λh=>h.1) this
 obtain⟨f1,f2,f3⟩:=fold_push (s.map<|uc C) [] hlow fY.nil (λc hc=>by cases hc);have hrow:∀{t:Z aA},(∀b∈t,b∈s)->∀x y,sq (rowAt (t.map<|uc C) y) x=true->vW C x y=true:=by
  intro t ht x y h
  induction t with
  |nil=>cases h
  |cons b t ih=>
   rw[eW,o9]at h;split at h
   ·rename_i hy;have hbm:=ht b (by simp);have h1:=hinc b hbm;have h:sq (dU<|(FR b.Xs).filter<|λp=>decide<|(⟨p.1,b.Y0,p.2,b.Y1⟩:aG)∈C) x=true:=h;rw[xg h1,xf]at h;obtain⟨q,hq,h2⟩:=h;have hq:=ll.1 hq;exact kV.2 ⟨_,of_decide_eq_true hq.2,h2,hy⟩
   grind
 have hrow2:∀x y,vW C x y=true->sq (rowAt (s.map<|uc C) y) x=true:=by
  intro x y h;obtain⟨r,hr,h1,h2⟩:=kV.1 h;obtain⟨b,hb,q,hq,rfl⟩:=sR<|hC r hr
  dsimp only at h1 h2;have key:∀{t:Z aA},(∀c∈t,c∈s)->fY (t.map cR)->b∈t->rowAt (t.map<|uc C) y=(uc C b).xs:=by
   intro t ht hc hbt
   induction t with
   |nil=>cases hbt
   |cons c t ih=>
    rw[eW,o9]
    by_cases hy:c.Y0<=y/\y<c.Y1
    ·rw[aF (show(uc C c).y0<=y/\y<(uc C c).y1 from hy)]
     rcases fp.1 hbt with rfl|hbt
     ·rfl
     ·have:=hc.FK (cR b)<|dN.2 ⟨b,hbt,rfl⟩
      grind [cR]
    ·rw[aH (show ¬((uc C c).y0<=y/\y<(uc C c).y1)from hy)]
     rcases fp.1 hbt with rfl|hbt
     ·exact absurd h2 hy
     ·exact ih (λd hd=>ht d<|ja _ hd) hc.tail hbt
  rw[key (λc hc=>hc) hs hb];have h1':=hinc b hb;show sq (dU<|(FR b.Xs).filter<|λp=>decide<|(⟨p.1,b.Y0,p.2,b.Y1⟩:aG)∈C) x=true;rw[xg h1',xf];exact⟨q,ll.2 ⟨hq,bS hr⟩,h1⟩
 have hsame:p.map cR=(s.map<|uc C).foldl kU []:=yb hp f1 λx y=>by
  rw[hcov,jd];have e:rowAt ((s.map<|uc C).foldl kU []) y=rowAt (s.map<|uc C) y:=by
   rw[f3]
   by_cases h:∃b∈s.map (uc C),b.y0<=y/\y<b.y1
   ·rw[aF h]
   ·rw[aH h]
    exact(nA λb hb=>by
     have:¬(b.y0<=y/\y<b.y1):=λh2=>h ⟨b,hb,h2⟩
     omega).symm
  unfold yW;rw[e];exact⟨hrow2 x y,hrow (λb hb=>hb) x y⟩
 have hc1:(bA p).length=xu (p.map cR):=by
  have:∀p:Z aA,(bA p).length=xu (p.map cR):=λp=>by
   induction p with
   |nil=>rfl
   |cons b p ih=>rw[ph,eC,sQ,ih];unfold xu;rw[eW,eW,List.sum_cons];rfl
  exact this p
 have hc2:∀s:Z aA,xu (s.map<|uc C)=((bA s).filter<|λr=>decide<|r∈C).length:=λs=>by
  induction s with
  |nil=>rfl
  |cons b s ih=>
   rw[ph,sX,eC,<-ih];unfold xu;rw[eW,eW,List.sum_cons];congr 1;show(dU _).length / 2=_;rw[(Gj _).2];unfold pg;rw[List.filter_map,dQ];rfl
 have hc3:((bA s).filter<|λr=>decide<|r∈C).length<=C.length:=fL (List.Nodup.sublist List.filter_sublist<|KK hs) λr hr=>of_decide_eq_true (ll.1 hr).2;rw[hc1,hsame];have e0:xu ([]:Z Bd)=0:=rfl;have:=hc2 s;omega
section
variable {N:Nat}
theorem A9{all:Z aG}(w:aG->Nat):∀(c:Z Nat),((c.filterMap<|λi=>all[i]?).map w).sum=(c.map<|λi=>(all[i]?).elim 0 w).sum
 | []=>rfl
 |i::c=>by
  rw[eW,List.sum_cons,<-A9 w c]
  cases h:all[i]? with
  |none=>rw[List.filterMap_cons_none (f:=λi=>all[i]?) h];simp
  |some x=>rw[List.filterMap_cons_some (f:=λi=>all[i]?) h,eW,List.sum_cons];rfl
theorem Qz{all:Z aG}{u:Nat->Nat}(h:∀i,i<all.length->u i∈bV all.length u)(w:aG->Nat):((bV all.length u).map<|λk=>((pj all all.length u k).map w).sum).sum=(all.map w).sum:=by
 have e:(λk=>((pj all all.length u k).map w).sum)=λk=>(((List.range all.length).filter<|λx=>decide<|u x=k).map<|λi=>(all[i]?).elim 0 w).sum:=by
  funext k;unfold pj;rw[A9];rfl
 rw[e,KC (nb _ _) u _<|λx hx=>h x<|kx.1 hx];have:∀m,m<=all.length->((List.range m).map<|λi=>(all[i]?).elim 0 w).sum=((all.take m).map w).sum:=by
  intro m
  induction m with
  |zero=>intro _;rfl
  |succ m ih=>
   grind [Gi,dM,aM]
 grind
theorem Gl:∀{l m:Z Nat},l.length=m.length->(∀(j x y:Nat),l[j]? =some x->m[j]? =some y->x<=y)->l.sum<=m.sum
 | [],[],_,_=>cJ _
 | [],_::_,h,_=>by simp at h
 |_::_,[],h,_=>by simp at h
 |a::l,b::m,h,hle=>by
  have h1:=hle 0 a b rfl rfl;have h2:=Gl (l:=l) (m:=m) (by simpa using h) λj x y hx hy=>hle (j+1) x y (by grind) (by grind);rw[List.sum_cons,List.sum_cons];omega
theorem MT{r hs:Z aG}{s:Z aA}(h1:∀x∈r,dO x=true)(h2:∀x∈hs,dO x=true)(hc:fY (s.map cR))(hl:BX (xh r++xh hs) (kB r++kB hs) (s.map cR)):∀q∈bA s,dO q=true/\q.X0<q.X1/\q.Y0<q.Y1:=by
 intro q hq;have hp:=xt hc q hq;obtain⟨b,hb,p,hpm,rfl⟩:=sR hq;have hll:=hl (cR b)<|dN.2 ⟨b,hb,rfl⟩
 have hm:=IB p hpm;have bx:∀c∈xh r++xh hs,-1000000<=c/\c<=1000000:=λc hcm=>by
  rcases dJ.1 hcm with h|h
  ·obtain⟨x,hx,h⟩:=xk.1 h;have:=jI<|h1 x hx
   omega
  ·obtain⟨x,hx,h⟩:=xk.1 h;have:=jI<|h2 x hx
   omega
 have by':∀c∈kB r++kB hs,-1000000<=c/\c<=1000000:=λc hcm=>by
  rcases dJ.1 hcm with h|h
  ·obtain⟨x,hx,h⟩:=pf.1 h;have:=jI<|h1 x hx
   omega
  ·obtain⟨x,hx,h⟩:=pf.1 h;have:=jI<|h2 x hx
   omega
 have g1:=bx _<|hll.2.2 p.1 hm.1
 have g2:=bx _<|hll.2.2 p.2 hm.2
 have g3:=by' _ hll.1
 have g4:=by' _ hll.2.1
 exact⟨F4 ⟨g1,g3,g2,g4⟩,hp⟩
structure tU (r hs:Z aG) (s:Z aA) (u:Nat->Nat) (ps:Z (Z aA)):Prop where
 r1:∀x∈r,dO x=true
 r2:∀x∈hs,dO x=true
 k1:∀x∈r,GK x
 k2:∀x∈hs,GK x
 dr:ye r hs s
 pt:vX s u ps
 yU:(bA s).length<=2000
theorem tU.part{r hs:Z aG}{s:Z aA}{u:Nat->Nat}{ps:Z (Z aA)}(h:tU r hs s u ps){p:Z aA}(hp:p∈ps):fY (p.map cR)/\(bA p).length<=2000/\∀q∈bA p,dO q=true/\q.X0<q.X1/\q.Y0<q.Y1:=by
 obtain⟨sx,sy⟩:=h.dr.small h.k1 h.k2;obtain⟨j,k,g1,g2,g3,g4⟩:=F8 h.pt h.dr.can h.dr.FQ sx sy hp
 have:=HS h.dr.can g3.can (λx hx=>by
  grind [m6,gh]) g3.cover
 have h2:=F1 (bA s) (bA s).length u k;have:=h.yU;exact⟨g3.can,by omega,MT h.r1 h.r2 g3.can g4⟩
theorem tU.bV{r hs:Z aG}{s:Z aA}{u:Nat->Nat}{ps:Z (Z aA)}(h:tU r hs s u ps):∀i,i<(bA s).length->u i∈Gk.bV (bA s).length u:=λi hi=>iN.2 ⟨by have:=h.pt.join.le i hi;omega,h.pt.join.rr i hi⟩
theorem tU.total{r hs:Z aG}{s:Z aA}{u:Nat->Nat}{ps:Z (Z aA)}(h:tU r hs s u ps):(ps.map<|λp=>(bA p).length).sum<=(bA s).length:=by
 have h1:=Qz h.bV<|λ_=>1
 have one:∀l:Z aG,(l.map<|λ_=>1).sum=l.length:=λl=>by
  induction l with
  |nil=>rfl
  |cons x l ih=>grind
 simp only[one]at h1;rw[<-h1];refine Gl (by simp[h.pt.len]) λj x y hx hy=>?_;rw[iE,sW]at hx hy;obtain⟨p,hp,rfl⟩:=hx;obtain⟨k,hk,rfl⟩:=hy;have hs:=h.pt.each j k p hk hp
 exact HS h.dr.can hs.can (λx hx=>by
  grind [m6,gh]) hs.cover
theorem Ee{ps:Z (Z aA)}{x y:Int}:vW (ps.flatMap bA) x y=true↔∃p∈ps,vW (bA p) x y=true:=by
 grind [kV]
theorem tU.cover{r hs:Z aG}{s:Z aA}{u:Nat->Nat}{ps:Z (Z aA)}(h:tU r hs s u ps)(x y:Int):vW (ps.flatMap bA) x y=yW (s.map cR) x y:=by
 rw[<-ru h.dr.can,jd,Ee];constructor
 ·rintro⟨p,hp,hc⟩;obtain⟨j,hj⟩:=eE hp;have hjl:=(bR.1 hj).1;have hk:(Gk.bV (bA s).length u)[j]? =some ((Gk.bV (bA s).length u)[j]'(by rw[<-h.pt.len];exact hjl)):=aM _;have hs:=h.pt.each j _ _ hk hj;rw[ru hs.can,hs.cover]at hc
  grind [kV,m6,gh]
 ·intro hc;obtain⟨q,hq,h2⟩:=kV.1 hc;obtain⟨i,hi⟩:=eE hq;have hil:=(bR.1 hi).1;obtain⟨j,hj⟩:=eE<|h.bV i hil
  have hjl:j<ps.length:=by rw[h.pt.len];grind
  have hs:=h.pt.each j _ _ hj<|aM hjl
  refine⟨_,cH hjl,?_⟩;rw[ru hs.can,hs.cover]
  grind [kV,m6]
section
variable {a:gM}{kb:Z (Z aA)}{cI:Z (Z (Z aA))}{r:Nat->Nat}{gs:Z bZ}{ofP ofB eY:Z Int}{eT:Z dZ}
theorem Ef(b:iB a kb cI r gs ofP ofB eY eT){i:Nat}(hi:i<a.aL.length):∃s ps u,kb[i]? =some s/\cI[i]? =some ps/\tU a.aL[i] (lS a.aN (i:Int)) s u ps:=by
 have hd:kb[i]? =some (kb[i]'(by rw[b.dr.len];exact hi)):=aM _;have hp:cI[i]? =some (cI[i]'(by rw[b.dr.DD];exact hi)):=aM _;have hdr:=b.dr.dr i _ _ hi (aM hi) hd;obtain⟨u,hu⟩:=b.dr.pt i _ _ hi hd hp;have hreg:=tG.1<|b.zQ.We _<|cH hi
 exact⟨_,_,u,hd,hp,λx hx=>((wB.1 hreg.1).2 x hx).1,λx hx=>(vq b.zQ.gb _ x hx).2,(F5 hreg.1).2,λx hx=>(vq b.zQ.gb _ x hx).1,hdr,hu,b.yU.1 _<|gh hd⟩
end
end
def Gm(a b:aG):Prop:=(0<min a.X1 b.X1 - max a.X0 b.X0/\0<=min a.Y1 b.Y1 - max a.Y0 b.Y0)\/(0<=min a.X1 b.X1 - max a.X0 b.X0/\0<min a.Y1 b.Y1 - max a.Y0 b.Y0)
theorem NK{all:Z aG}(hB:all.Pairwise wC)(hp:∀r∈all,r.X0<r.X1/\r.Y0<r.Y1){i j:Nat}{a c:aG}(ha:all[i]? =some a)(hc:all[j]? =some c):Gm a c↔i=j\/C9 all i j\/C9 all j i:=by
 have h1:C9 all i j↔IF a c:=⟨λ⟨a',c',e1,e2,h⟩=>by grind,λh=>⟨a,c,ha,hc,h⟩⟩;have h2:C9 all j i↔IF c a:=⟨λ⟨a',c',e1,e2,h⟩=>by grind,λh=>⟨c,a,hc,ha,h⟩⟩
 grind [gh,bR,Gm,IF,Nat.lt_trichotomy,ou,wC]
theorem DK{α:Type}{q q':Z α}(h:q <+:q'){t:Nat}{x:α}(hx:q[t]? =some x):q'[t]? =some x:=by
 obtain⟨r,rfl⟩:=h
 grind
def yl(f:Int->Int->Bool)(x y:Int):Prop:=f x y=true/\∀x' y',f x' y'=true->y<y'\/(y=y'/\x<=x')
theorem yl.unique{f:Int->Int->Bool}{x y x' y':Int}(h:yl f x y)(h':yl f x' y'):x=x'/\y=y':=by
 have h1:=h.2 _ _ h'.1;have h2:=h'.2 _ _ h.1;omega
theorem LV{a:aG}{l:Z aG}(hp:∀r∈a::l,r.X0<r.X1/\r.Y0<r.Y1)(hB:∀r∈l,wC a r):yl (vW<|a::l) a.X0 a.Y0:=by
 have pa:=hp a (by simp);refine⟨kV.2 ⟨a,by simp,by omega,by omega⟩,λx' y' h=>?_⟩
 grind [kV,wC]
theorem LW{s:Z aA}(hc:fY (s.map cR))(hne:s≠[]):∃r t,bA s=r::t/\yl (λx y=>yW (s.map cR) x y) r.X0 r.Y0/\MR s= ⟨r.X0,r.Y0⟩:=by
 cases s with
 |nil=>grind
 |cons b s=>
  have hx:=hc.each (cR b) (by simp);have hxs:b.Xs≠[]:=hx.2.1;have he:b.Xs.length % 2=0:=hx.2.2.2;obtain⟨x0,x1,xs,e⟩:∃x0 x1 xs,b.Xs=x0::x1::xs:=by
   match hb:b.Xs with
   | []=>grind
   | [x0]=>grind
   |x0::x1::xs=>simp
  have hr:bA (b::s)= ⟨x0,b.Y0,x1,b.Y1⟩::((FR xs).map (λp=>(⟨p.1,b.Y0,p.2,b.Y1⟩:aG))++bA s):=by
   rw[ph];unfold pg;rw[e];rfl
  have hB:=uE hc;have hpos:=xt hc;rw[hr]at hB hpos;refine⟨_,_,hr,?_,by grind [MR]⟩;have:=LV hpos (qD.1 hB).1;rw[<-hr]at this;refine⟨?_,λx' y' h=>this.2 x' y' ?_⟩
  ·show yW _ _ _=true;rw[<-ru hc];exact this.1
  grind [ru]
theorem HT{all:Z aG}{u:Nat->Nat}(hB:all.Pairwise wC)(hp:∀r∈all,r.X0<r.X1/\r.Y0<r.Y1)(hJ:Joined all u){h:Nat}{a:aG}(ha:all[h]? =some a)(hu:u h=h):yl (vW<|pj all all.length u h) a.X0 a.Y0:=by
 obtain⟨hl,e⟩:=bR.1 ha;have pa:=hp a<|gh ha
 refine⟨kV.2 ⟨a,m6.2 ⟨h,hl,hu,ha⟩,by omega,by omega⟩,λx' y' hc=>?_⟩;obtain⟨r,hr,hx,hy⟩:=kV.1 hc;obtain⟨k,hk,huk,hrk⟩:=m6.1 hr;have hle:=hJ.le k hk
 grind [bR,ou,wC]
theorem ym{u:Nat->Nat}:∀(d i:Nat),∃t,bV (i+d) u=bV i u++t
 | 0,i=>⟨[],by simp⟩
 |d+1,i=>by
  obtain⟨t,ht⟩:=ym (u:=u) d i;rw[<-Nat.add_assoc,iA,ht];split
  ·exact⟨t++[i+d],by simp⟩
  ·exact⟨t,rfl⟩
theorem Pa{u:Nat->Nat}{i n:Nat}(hi:i<n)(hu:u i=i):(bV n u)[(bV i u).length]? =some i:=by
 obtain⟨t,ht⟩:=ym (u:=u) (n -(i+1))<|i+1
 rw[show i+1+(n -(i+1))=n by omega]at ht
 grind [iA]
section
variable {N:Nat}
theorem NL{a b:aG}(ha:GK a)(hb:GK b):j7 N a b=some (decide<|Gm a b):=by
 have a1:=ha.s1;have a2:=ha.s2;have a3:=ha.s3;have a4:=ha.s4;have b1:=hb.s1;have b2:=hb.s2;have b3:=hb.s3;have b4:=hb.s4;unfold small at a1 a2 a3 a4 b1 b2 b3 b4;unfold j7;rw[Ap,Ap,tg,tg,gC (x:=min a.X1 b.X1 - max a.X0 b.X0) (by omega) (by omega),gC (x:=min a.Y1 b.Y1 - max a.Y0 b.Y0) (by omega) (by omega)]
 grind [Gm,gt_iff_lt,ge_iff_le]
theorem insert_eq{l:Z (Z aG)}{r0:aG}{t:Z aG}(hl:l.length<=1000000)(hN:ns N)(h:∀x,l[l.length - 1]? =some x->∃x0 t',x=x0::t'/\¬(r0.Y0<x0.Y0\/(r0.Y0=x0.Y0/\r0.X0<x0.X0))):kH N l (r0::t)=some (l++[r0::t]):=by
 refine XL ?_;unfold kH;refine WO (X2 (Go:=λs=>s=(l.length:Int)) (Rt:=λ_=>False) (λs=>s=(l.length:Int)) (λs=>0) ?_ rfl (by omega)) ?_
 ·rintro s rfl
  by_cases h0:l.length=0
  ·grind [cA,aB,Xd]
  ·rw[bS (by omega),aP,iL (by omega) (by omega)];have hx:l[l.length - 1]? =some (l[l.length - 1]'(by omega)):=aM _;obtain⟨x0,t',e,hn⟩:=h _ hx;have i1:idx (r0::t) 0=some r0:=rfl;have i2:idx (l[l.length - 1]'(by omega)) 0=some x0:=by rw[e];rfl
   rw[i1,aB,cB hx,aB,i2,aB]
   grind [jv,aB,decide,Xd]
 intro o ho;refine Xf ho ?_<|λr hr=>hr.elim
 rintro s rfl;refine IT (tv l l.length<|cJ _)<|XC ?_<|XC ?_<|IT (r5 l l.length<|cJ _)<|XC ?_<|IS ?_
 all_goals grind
structure BI (all:Z aG) (u:Nat->Nat) (i:Nat) (q:Z Nat) (done:Z Bool) (own:Z aG):Prop where
 len:done.length=all.length
 nd:q.Nodup
 lt:∀k∈q,k<all.length/\u k=i
 hd:i∈q
 dn:∀k,k<all.length->done[k]? =some (decide<|u k<i\/k∈q)
 ow:own.map some=q.map (λk=>all[k]?)
theorem BI.UQ{all:Z aG}{u:Nat->Nat}{i:Nat}{q:Z Nat}{done:Z Bool}{own:Z aG}(h:BI all u i q done own):own.length=q.length:=by
 have:=congrArg List.length h.ow
 grind
theorem BI.yU{all:Z aG}{u:Nat->Nat}{i:Nat}{q:Z Nat}{done:Z Bool}{own:Z aG}(h:BI all u i q done own):q.length<=all.length:=by
 have:=fL h.nd (m:=List.range all.length) (λk hk=>by rw[kx];exact(h.lt k hk).1)
 grind
theorem BI.at_{all:Z aG}{u:Nat->Nat}{i:Nat}{q:Z Nat}{done:Z Bool}{own:Z aG}(h:BI all u i q done own){p k:Nat}(hk:q[p]? =some k):own[p]? =all[k]? :=by
 have e:=congrArg (λl=>l[p]?) h.ow
 grind
theorem BI.mem{all:Z aG}{u:Nat->Nat}{i:Nat}{q:Z Nat}{done:Z Bool}{own:Z aG}(h:BI all u i q done own){r:aG}:r∈own↔∃k∈q,all[k]? =some r:=by
 have:r∈own↔some r∈own.map some:=by simp
 rw[this,h.ow,dN]
theorem KM{s:Z aA}{u:Nat->Nat}{ps:Z (Z aA)}(hc:fY (s.map cR))(hP:vX s u ps)(hn:(bA s).length<=2000)(hok:∀r∈bA s,GK r)(hps:∀p∈ps,(bA p).length<=2000)(hN:ns N):
  gE N (bA s)=some (ps.map bA):=by
 refine XL ?_;have hB:=uE hc;have hpos:=xt hc;have hJ:=hP.join;have hlen:=hP.len;have heach:=hP.each;clear hP hc;generalize bA s=all at *;unfold gE;refine IT (oC false (by omega)) ?_;have hadj:∀a b,(C9 all a b\/C9 all b a)->u a=u b:=λa b h=>h.elim (λh=>hJ.co a b h)<|λh=>(hJ.co b a h).symm
 refine WO (Xv (n:=all.length) (λst=>st.2.2) (λi st=>st.1.length=all.length/\(∀k,k<all.length->st.1[k]? =some (decide (u k<i)))/\st.2.1=(ps.take (bV i u).length).map bA) (Go:=λst=>st.2.1=ps.map bA) (Rt:=λ_=>False) ?_ ?_ (cP _) rfl
  ⟨by simp,λk hk=>by simp[hk],by simp[bV]⟩ (by omega)) ?_
 ·rintro i⟨done,out,ii⟩hi e⟨hdl,hdn,hout⟩;dsimp only at e hdl hdn hout ⊢;subst e;rw[iO hi,aP];refine WV (hdn i hi)<|Xn (λhb=>?_)<|λhb=>?_
  ·have hlt:u i<i:=of_decide_eq_true hb;refine W8 ⟨bF (by omega),hdl,λk hk=>?_,?_⟩
   ·rw[hdn k hk];congr 1;rw[decide_eq_decide];have hne:u k≠i:=λe=>by have:=hJ.rr k hk;grind
    omega
   grind [iA]
  ·have hge:¬u i<i:=of_decide_eq_false hb;have hui:u i=i:=by have:=hJ.le i hi;omega
   have hx:all[i]? =some all[i]:=aM hi;refine WV (hdn i hi)<|WV hx ?_
   refine WO (X2 (Go:=λst=>st.1.length=all.length/\(∀k,k<all.length->st.1[k]? =some (decide (u k<i+1)))/\(∀r,r∈st.2.1↔r∈pj all all.length u i)/\st.2.1.length<=all.length) (Rt:=λ_=>False)
    (λst=>∃(q:Z Nat)(t:Nat),st.2.2=((t:Nat):Int)/\t<=q.length/\BI all u i q st.1 st.2.1/\∀(p k j:Nat),p<t->q[p]? =some k->j<all.length->(C9 all k j\/C9 all j k)->j∈q)
    (λst=>all.length+1 - st.2.2.toNat) ?_ ⟨[i],0,rfl,by simp,?_,λp k j hp=>by omega⟩ (by simp;omega)) ?_
   ·rintro⟨d1,o1,t'⟩⟨q,t,e,ht,hI,hcl⟩;dsimp only at e hI ⊢;subst e;have hql:=hI.yU;have hol:=hI.UQ
    by_cases hlt:t<q.length
    ·rw[iO (by omega:t<o1.length),aP];have hqt:q[t]? =some q[t]:=aM hlt;have hkt:=hI.lt _<|cH hlt
     have hya:all[q[t]]? =some all[q[t]]:=aM hkt.1
     refine WO (Xv (n:=all.length) (λst=>st.2.2) (λj st=>∃q',q <+:q'/\BI all u i q' st.1 st.2.1/\∀j',j'<j->(C9 all q[t] j'\/C9 all j' q[t])->j'∈q')
      (Go:=λst=>∃q',q <+:q'/\BI all u i q' st.1 st.2.1/\∀j',j'<all.length->(C9 all q[t] j'\/C9 all j' q[t])->j'∈q') (Rt:=λ_=>False) ?_ ?_ (cP _) rfl ⟨q,List.prefix_refl _,hI,λj' hj=>by omega⟩ (by omega)) ?_
     ·rintro j⟨d2,o2,jj⟩hj e⟨q',hpre,hI',hc'⟩;dsimp only at e hI' ⊢;subst e;rw[iO hj,aP];have hq't:q'[t]? =some q[t]:=by rw[DK hpre hqt]
      have hy2:o2[t]? =some all[q[t]]:=by rw[hI'.at_ hq't];exact hya
      have hz:all[j]? =some all[j]:=aM hj;have htc:=NK hB hpos hya hz;have hcond:((idx d2 ((j:Nat):Int)).bind λx1054=>bif(!x1054)then((idx o2 ((t:Nat):Int)).bind λx1056=>(idx all ((j:Nat):Int)).bind λx1058=>(j7 N x1056 x1058).bind λx1061=>some x1061)else some false)=some (!decide (u j<i\/j∈q')&&decide (Gm all[q[t]] all[j])):=by
       rw[cB<|hI'.dn j hj,aB]
       cases decide (u j<i\/j∈q')with
       |true=>rfl
       |false=>rw[ka,aP,cB hy2,aB,cB hz,aB,NL (hok _ (cH hkt.1)) (hok _ (cH hj)),aB,Bool.true_and]
      refine IT hcond ?_;refine WO (P:=λst:Z Bool×Z aG=>∃q',q <+:q'/\BI all u i q' st.1 st.2/\∀j',j'<j+1->(C9 all q[t] j'\/C9 all j' q[t])->j'∈q') (Xn (λhb=>?_)<|λhb=>?_)<|λst hst=>W8 ⟨bF (by omega),hst⟩
      ·rw[dB,Bool.not_eq_true',decide_eq_false_iff_not,dF]at hb;have hju:u j=i:=by
        rcases htc.1 hb.2 with h|h
        ·rw[<-h];exact hkt.2
        ·rw[<-hadj _ _ h];exact hkt.2
       have hjq:j∉q':=λh=>hb.1<|.inr h
       have hol2:=hI'.UQ;have hql2:=hI'.yU;refine WV (hI'.dn j hj)<|WV hz<|XC (by simp only[eN,List.length_nil];omega)<|IS ⟨q'++[j],hpre.trans<|List.prefix_append _ _,⟨?_,?_,?_,?_,?_,?_⟩,?_⟩
       ·rw[ig];exact hI'.len
       ·rw[List.nodup_append];exact⟨hI'.nd,by simp,λa ha b hb=>by simp at hb;subst hb;exact λe=>hjq<|e▸ha⟩
       ·intro k hk
        rcases dJ.1 hk with hk|hk
        ·exact hI'.lt k hk
        ·simp at hk;subst hk;exact⟨hj,hju⟩
       ·exact List.mem_append_left _ hI'.hd
       ·intro k hk;rw[cK,lU]
        by_cases e:j=k
        ·subst e;rw[aF rfl,aF (by rw[hI'.len];exact hj)];congr 1;exact(bS<|.inr (by simp)).symm
        ·rw[aH e,hI'.dn k hk];congr 1;rw[decide_eq_decide,dJ];simp only[mg];constructor
         ·exact λh=>h.elim .inl<|λh=> .inr<|.inl h
         ·exact λh=>h.elim .inl<|λh=>h.elim .inr<|λh=>absurd h.symm e
       ·rw[fH,fH,hI'.ow];simp[hz]
       ·intro j' hj' ha
        by_cases e:j'=j
        ·subst e;simp
        ·exact List.mem_append_left _<|hc' j' (by omega) ha
      ·refine IS ⟨q',hpre,hI',λj' hj' ha=>?_⟩
       by_cases e:j'=j
       ·subst e;have hj2:u j'=i:=by rw[<-hadj _ _ ha];exact hkt.2
        rw[bS<|htc.2<|.inr ha,Bool.and_true,Bool.not_eq_false',dF]at hb
        rcases hb with hb|hb
        ·omega
        ·exact hb
       ·exact hc' j' (by omega) ha
     ·rintro⟨d2,o2,jj⟩e hI2;dsimp only at e hI2 ⊢;subst e;rw[l4,aR];exact Xd hI2
     intro o ho;refine Xf ho ?_<|λr hr=>hr.elim
     rintro⟨d2,o2,jj⟩⟨q',hpre,hI',hc'⟩;dsimp only at hI' ⊢;refine W8 ⟨⟨q',t+1,bF (by omega),?_,hI',λp k j hp hk hj ha=>?_⟩,?_⟩
     ·have:=hpre.length_le;omega
     ·by_cases e:p=t
      ·subst e;rw[DK hpre hqt]at hk;injection hk with hk;subst hk
       exact hc' j hj ha
      ·have hpq:q[p]? =some (q[p]'(by omega)):=aM _;rw[DK hpre hpq]at hk;injection hk with hk;subst hk
       exact hpre.subset<|hcl p _ j (by omega) hpq hj ha
     ·rw[bF (by omega)];simp only[cK];omega
    ·rw[CT (by omega:o1.length<=t),aR];have htq:t=q.length:=by omega
     have hcls:∀k,k<all.length->(k∈q↔u k=i):=λk hk=>⟨λh=>(hI.lt k h).2,λh=>by
      have hstep:∀a b,C9 all a b->(a∈q↔b∈q):=λa b hab=>by
       have hab':=hab;obtain⟨ra,rb,e1,e2,_⟩:=hab';have hla:=(bR.1 e1).1;have hlb:=(bR.1 e2).1;constructor
       ·intro h';obtain⟨p,hp⟩:=eE h';exact hcl p a b (by rw[htq];exact(bR.1 hp).1) hp hlb<|.inl hab
       ·intro h';obtain⟨p,hp⟩:=eE h';exact hcl p b a (by rw[htq];exact(bR.1 hp).1) hp hla<|.inr hab
      exact hJ.fi (λk=>k∈q) hstep i k hi hk (by rw[hui,h]) hI.hd⟩
     refine Xd ⟨hI.len,λk hk=>?_,λr=>?_,by rw[hol];exact hql⟩
     ·rw[hI.dn k hk];congr 1;rw[decide_eq_decide,hcls k hk];omega
     ·rw[hI.mem,m6];constructor
      ·rintro⟨k,hk,h⟩;exact⟨k,(hI.lt k hk).1,(hI.lt k hk).2,h⟩
      ·rintro⟨k,hk,h1,h2⟩;exact⟨k,(hcls k hk).2 h1,h2⟩
   ·refine⟨by rw[ig];exact hdl,by simp,λk hk=>by simp at hk;subst hk;exact⟨hi,hui⟩,by simp,λk hk=>?_,by simp[hx]⟩;rw[cK,lU]
    by_cases e:i=k
    ·subst e;rw[aF rfl,aF (by rw[hdl];exact hi)];congr 1;exact(bS<|.inr (by simp)).symm
    ·rw[aH e,hdn k hk];congr 1;rw[decide_eq_decide];simp only[mg];omega
   intro o ho;refine Xf ho ?_<|λr hr=>hr.elim
   rintro⟨d1,o1,t'⟩⟨g1,g2,g3,g4⟩;dsimp only at g1 g2 g3 g4 ⊢;have hh:=Pa hi hui;have hml:(bV i u).length<ps.length:=by rw[hlen];exact(bR.1 hh).1
   have hpp:ps[(bV i u).length]? =some ps[(bV i u).length]:=aM hml;have py:=heach _ _ _ hh hpp;have hcov:∀x y,yW (ps[(bV i u).length].map cR) x y=vW o1 x y:=λx y=>by rw[py.cover];exact(Qr g3 x y).symm
   have hpl:=hps _<|cH hml
   refine IT (yk py.can hcov (by omega) (λr hr=>?_) (by omega) hN) ?_
   ·obtain⟨k,_,_,hk⟩:=m6.1<|(g3 r).1 hr
    exact(hpos r<|gh hk).1
   have hfirst:∀(j h:Nat)p,(bV all.length u)[j]? =some h->ps[j]? =some p->∃r t a,bA p=r::t/\all[h]? =some a/\r.X0=a.X0/\r.Y0=a.Y0:=λj h p hj hp=>by
    have hs:=heach j h p hj hp;obtain⟨hhl,hhu⟩:=iN.1<|gh hj
    have ha:all[h]? =some all[h]:=aM hhl;have hne:p≠[]:=λe=>by
     have hL:=(HT hB hpos hJ ha hhu).1;rw[<-hs.cover,e]at hL
     cases hL
    obtain⟨r,t,e1,e2,_⟩:=LW hs.can hne;have e2':yl (vW<|pj all all.length u h) r.X0 r.Y0:=⟨by rw[<-hs.cover];exact e2.1,λx' y' hxy=>e2.2 x' y' (by simp only;rw[hs.cover];exact hxy)⟩;obtain⟨e3,e4⟩:=e2'.unique<|HT hB hpos hJ ha hhu
    exact⟨r,t,all[h],e1,ha,e3,e4⟩
   obtain⟨r,t,a,e1,e2,e3,e4⟩:=hfirst _ _ _ hh hpp;have hheads:(bV i u).length<=i:=me i u;rw[e1];refine IT (insert_eq (by rw[hout,dQ,dE];omega) hN<|λx hxl=>?_)<|W8 ⟨bF (by omega),g1,g2,?_⟩
   ·have hol:out.length=(bV i u).length:=by rw[hout,dQ,dE];omega
    have hpos2:0<(bV i u).length:=by
     have:=(bR.1 hxl).1;omega
    rw[hout,iE,dQ,dE,show min (bV i u).length ps.length=(bV i u).length by omega,List.getElem?_take_of_lt (by omega)]at hxl;have hp2:ps[(bV i u).length - 1]? =some (ps[(bV i u).length - 1]'(by omega)):=aM _;rw[hp2]at hxl;injection hxl with hxl
    have hh2:(bV i u)[(bV i u).length - 1]? =some ((bV i u)[(bV i u).length - 1]'(by omega)):=aM _;have hm2:=iN.1<|gh hh2
    obtain⟨tl,htl⟩:=ym (u:=u) (all.length - i) i;rw[show i+(all.length - i)=all.length by omega]at htl;have hh3:(bV all.length u)[(bV i u).length - 1]? =some ((bV i u)[(bV i u).length - 1]'(by omega)):=by rw[htl,kM (by omega)];exact hh2
    obtain⟨r',t',a',f1,f2,f3,f4⟩:=hfirst _ _ _ hh3 hp2;refine⟨r',t',by rw[<-hxl];exact f1,?_⟩;obtain⟨l1,q1⟩:=bR.1 f2;obtain⟨l2,q2⟩:=bR.1 e2;have hbh:=ou.1 hB _ _ l1 l2 hm2.1;rw[q1,q2]at hbh;have p1:=hpos a'<|gh f2
    unfold wC at hbh;rw[e3,e4,f3,f4];omega
   ·dsimp only;rw[iA,aF hui,eC,hout];simp only[eN,List.length_nil];rw[dM hml,fH,eW,List.map_nil,e1]
 ·rintro⟨done,out,ii⟩e⟨_,_,hout⟩;dsimp only at e hout ⊢;subst e;rw[l4,aR];refine Xd ?_;dsimp only;rw[hout,nc (by rw[hlen];omega)]
 intro o ho;exact Xf ho (λs hs=>IS hs)<|λr hr=>hr.elim
end
section
variable {α β:Type}
theorem Pb{N:Nat}{l:Z α}{s:β}{φ:α->β->aT Int}(c:α->Int)(hφ:∀x,φ x s=some (c x))(hs:∀(i j:Nat)(x y:α),i<j->l[i]? =some x->l[j]? =some y->0<=c x->0<c y)
  (hl:l.length<=1048576) (hN:4194304<=N):∃r,OK N l s φ=some r/\r.2=l.any (λx=>c x==0)/\(r.2=true->r.1=Nj l (λx=>c x==0)):=by
 show Ok (OK N l s φ) (λr=>r.2=l.any (λx=>c x==0)/\(r.2=true->r.1=Nj l (λx=>c x==0)));unfold OK
 refine WO (X2 (Go:=λst:Int×Int=>∃a:Nat,st.1=(a:Int)/\a<=l.length/\(∀j x,j<a->l[j]? =some x->c x<0)/\(∀j x,a<=j->l[j]? =some x->0<=c x)) (Rt:=λ_=>True)
  (λst=>∃a b:Nat,st=((a:Int),(b:Int))/\a<=b/\b<=l.length/\(∀j x,j<a->l[j]? =some x->c x<0)/\(∀j x,b<=j->l[j]? =some x->0<=c x))
  (λst=>(st.2 - st.1).toNat) ?_ ⟨0,l.length,rfl,by omega,cJ _,λj x hj=>by omega,λj x hj hx=>by grind⟩ (by omega)) ?_
 ·rintro st⟨a,b,rfl,hab,hb,h1,h2⟩;dsimp only
  by_cases hlt:a<b
  ·have hm:(a+b) / 2<l.length:=by omega
   have hx:l[(a+b) / 2]? =some l[(a+b) / 2]:=aM hm;rw[show decide ((a:Int)<(b:Int))=true by grind,aP,Nk hlt (by omega)];refine WV hx<|IT (hφ _) ?_
   by_cases hc:c l[(a+b) / 2]<0
   ·rw[bS hc,aP,aB];refine W8 ⟨⟨(a+b) / 2+1,b,?_,by omega,hb,λj x hj hx'=>?_,h2⟩,?_⟩
    ·rw[bF (by omega)]
    ·by_cases e:j=(a+b) / 2
     ·subst e;rw[hx]at hx';injection hx' with hx';rw[<-hx'];exact hc
     ·by_cases h0:c x<0
      ·exact h0
      ·have:=hs j _ x _ (by omega) hx' hx (by omega);omega
    ·rw[bF (by omega)];simp only;omega
   ·rw[cA hc,aR,aB];refine W8 ⟨⟨a,(a+b) / 2,rfl,by omega,by omega,h1,λj x hj hx'=>?_⟩,by simp only;omega⟩
    by_cases e:j=(a+b) / 2
    ·subst e;rw[hx]at hx';injection hx' with hx';rw[<-hx'];omega
    ·have:=hs _ j _ x (by omega) hx hx' (by omega);omega
  ·rw[show decide ((a:Int)<(b:Int))=false by rw[decide_eq_false_iff_not];omega,aR];exact Xd ⟨a,rfl,by omega,h1,λj x hj hx=>h2 j x (by omega) hx⟩
 intro o ho;refine Xf ho ?_<|λr hr=>r.elim
 rintro⟨st1,st2⟩⟨a,ha,hle,h1,h2⟩;dsimp only at ha ⊢;subst ha
 by_cases hlt:a<l.length
 ·have hx:l[a]? =some l[a]:=aM hlt;rw[show decide ((a:Int)<(l.length:Int))=true by rw[dF];omega,aP,cB hx,aB,hφ,aB,aB];refine IS ?_
  by_cases he:c l[a]=0
  ·have hb:(c l[a]==0)=true:=by rw[beq_iff_eq];exact he
   rw[hb];refine⟨(lV.2 ⟨_,cH hlt,hb⟩).symm,λ_=>?_⟩;rw[Kb hx hb (λj y hj hy=>by have:=h1 j y hj hy;rw[beq_eq_false_iff_ne];omega)]
  ·have hb:(c l[a]==0)=false:=by rw[beq_eq_false_iff_ne];exact he
   rw[hb];refine⟨?_,λh=>by cases h⟩;symm;rw[List.any_eq_false];intro x hx';obtain⟨j,hj⟩:=eE hx';rw[ot,beq_eq_false_iff_ne]
   by_cases hja:j<a
   ·have:=h1 j x hja hj;omega
   ·by_cases e:j=a
    ·subst e;rw[hx]at hj;injection hj with hj;rw[<-hj];exact he
    ·have h3:=h2 a _ (cJ _) hx;have:=hs a j _ x (by omega) hx hj h3;omega
 ·rw[show decide ((a:Int)<(l.length:Int))=false by rw[decide_eq_false_iff_not];omega,aR,aB];refine IS ⟨?_,λh=>by cases h⟩;symm;rw[List.any_eq_false];intro x hx';obtain⟨j,hj⟩:=eE hx';have:=(bR.1 hj).1;have:=h1 j x (by omega) hj;rw[ot,beq_eq_false_iff_ne];omega
end
def zT(p q:eG):Prop:=eU.lt p.Part q.Part\/(p.Part=q.Part/\eU.lt p.eG q.eG)
theorem MU{p q:eG}(h1:p.Part=q.Part)(h2:p.eG=q.eG):p=q:=by cases p;simp_all
theorem zT.irrefl(p:eG):¬zT p p:=λh=>by
 rcases h with h|⟨_,h⟩
 ·exact eU.lt_irrefl _ h
 ·exact eU.lt_irrefl _ h
theorem zT.trans{p q r:eG}(h1:zT p q)(h2:zT q r):zT p r:=by
 rcases h1 with h1|⟨e1,h1⟩ <;> rcases h2 with h2|⟨e2,h2⟩
 ·exact .inl<|eU.lt_trans h1 h2
 ·exact .inl (by grind)
 ·exact .inl (by grind)
 ·exact .inr ⟨e1.trans e2,eU.lt_trans h1 h2⟩
theorem zT.total(p q:eG):zT p q\/p=q\/zT q p:=by
 rcases eU.J9 p.Part q.Part with h|h|h
 ·exact .inl<|.inl h
 ·rcases eU.J9 p.eG q.eG with h'|h'|h'
  ·exact .inl<|.inr ⟨h,h'⟩
  ·grind [MU]
  ·exact .inr<|.inr<|.inr ⟨h.symm,h'⟩
 ·exact .inr<|.inr<|.inl h
theorem zT.asymm{p q:eG}(h:zT p q):¬zT q p:=λh'=>zT.irrefl p<|h.trans h'
theorem zT.ne{p q:eG}(h:zT p q):p≠q:=by grind [zT.irrefl]
theorem DL{a b:eU}:Lib.compareBytes a.dV b.dV=0↔a=b:=by grind [eU.ext',Fy]
theorem nG{p q:eG}:ik p q=0↔p=q:=by
 grind [ik,Lib.compareBytes,DL,MU]
theorem BS{p q:eG}:ik p q<0↔zT p q:=by
 unfold ik zT
 by_cases h:Lib.compareBytes p.Part.dV q.Part.dV=0
 ·rw[aH (by simpa using h),BB];have e:=DL.1 h;constructor
  ·exact λh'=> .inr ⟨e,h'⟩
  ·rintro(h'|⟨_,h'⟩)
   ·grind [eU.lt_irrefl]
   ·exact h'
 ·rw[aF h,BB];constructor
  ·exact λh'=> .inl h'
  ·rintro(h'|⟨e,_⟩)
   ·exact h'
   grind [DL]
theorem qT{p q:eG}:0<ik p q↔zT q p:=by
 constructor
 ·intro h
  rcases zT.total p q with h'|h'|h'
  ·have:=BS.2 h';omega
  all_goals grind [nG]
 ·intro h
  by_cases h1:ik p q<0
  ·exact absurd (BS.1 h1) h.asymm
  ·by_cases h2:ik p q=0
   ·exact absurd (nG.1 h2).symm h.ne
   ·omega
section
variable {N:Nat}
structure LX (a:gM) (x:cX):Prop where
 name:qc x.Part=true/\isWord x.eG=true
 UO:0<=x.cM/\x.cM<(a.aL.length:Int)
 at_:vo x.At=true
structure xv (a:gM):Prop where
 yU:a.bO.length<=1000
 each:∀x∈a.bO,LX a x
 up:a.bO.Pairwise (λx y=>zT (lj x)<|lj y)
theorem IX{a:gM}{k:Nat}{x:cX}(hx:a.bO[k]? =some x)(h:lZ a k=none):LX a x/\∀y,0<k->a.bO[k - 1]? =some y->zT (lj y) (lj x):=by
 unfold lZ at h;rw[hx,Option.bind_some]at h;split at h
 ·rename_i h1;split at h
  ·rename_i h2;split at h
   ·cases h
   ·rename_i h3;rw[dB]at h1 h2;unfold ij at h2;rw[dB,dF,dF]at h2;refine⟨⟨h1,⟨by omega,by omega⟩,h2.2⟩,λy hk hy=>?_⟩
    grind [ik,qT]
  ·cases h
 ·cases h
theorem Gn{a:gM}{k:Nat}{e:Int}(h:lZ a k=some e):e≠0:=by
 unfold lZ at h
 cases hx:a.bO[k]? with
 |none=>grind
 |some x=>
  rw[hx,Option.bind_some]at h
  repeat' split at h
  all_goals grind
theorem NM{a:gM}(h:nS a=0):xv a:=by
 unfold nS at h;split at h
 ·omega
 rename_i hl;have hn:rY a.bO.length (lZ a)=none:=by
  cases hf:rY a.bO.length (lZ a)with
  |none=>rfl
  |some e=>
   grind [kn,Gn]
 rw[km]at hn;have hg:∀(k:Nat)x,a.bO[k]? =some x->LX a x/\∀y,0<k->a.bO[k - 1]? =some y->zT (lj y) (lj x):=λk x hx=>IX hx<|hn k (bR.1 hx).1
 refine⟨by omega,λx hx=>?_,?_⟩
 ·grind [eE]
 ·have hstep:∀(n i:Nat)x y,a.bO[i]? =some x->a.bO[i+n+1]? =some y->zT (lj x) (lj y):=by
   intro n
   induction n with
   |zero=>grind
   |succ n ih=>
    intro i x y hx hy;have hz:i+n+1<a.bO.length:=by grind
    have h1:=ih i x _ hx<|aM hz
    exact h1.trans<|(hg (i+(n+1)+1) y hy).2 _ (by omega) (by grind)
  rw[ou];intro i j hi hj hij;exact hstep (j - i - 1) i _ _ (aM hi) (by rw[show i+(j - i - 1)+1=j by omega];exact aM hj)
theorem xv.inj{a:gM}(h:xv a){i j:Nat}{x y:cX}(hx:a.bO[i]? =some x)(hy:a.bO[j]? =some y)(e:lj x=lj y):i=j:=by
 obtain⟨h1,rfl⟩:=bR.1 hx;obtain⟨h2,rfl⟩:=bR.1 hy;have hp:=ou.1 h.up
 rcases Nat.lt_trichotomy i j with h3|h3|h3
 ·exact absurd e (hp i j h1 h2 h3).ne
 ·exact h3
 ·exact absurd e.symm (hp j i h2 h1 h3).ne
theorem KN{l:Z cX}{p:eG}(hu:l.Pairwise (λx y=>zT (lj x)<|lj y))(hl:l.length<=1048576)(hN:4194304<=N){φ:cX->eG->aT Int}(hφ:∀x,φ x p=some (ik (lj x) p)):
  ∃r,OK N l p φ=some r/\(bif(!r.2)then some (-1)else some r.1)=some (Nj l<|λx=>decide<|lj x=p):=by
 obtain⟨r,h1,h2,h3⟩:=Pb (N:=N) (l:=l) (s:=p) (φ:=φ) (λx=>ik (lj x) p) hφ (λi j x y hij hx hy hc=>by
  obtain⟨g1,rfl⟩:=bR.1 hx;obtain⟨g2,rfl⟩:=bR.1 hy;have hlt:=ou.1 hu i j g1 g2 hij;refine qT.2 ?_
  by_cases h0:ik (lj l[i]) p=0
  ·rw[<-nG.1 h0];exact hlt
  ·exact(qT.1 (by omega)).trans hlt) hl hN
 have e:(λx=>ik (lj x) p==0)=(λx=>decide<|lj x=p):=by
  funext x;rw[jd,beq_iff_eq,dF,nG]
 rw[e]at h2 h3;refine⟨r,h1,?_⟩
 cases hr:r.2 with
 |true=>simp only[lq,aR];rw[h3 hr]
 |false=>
  simp only[ka,aP];rw[hr]at h2;rw[Ka h2.symm]
def jf(a:gM)(p:eG):Int:=Nj a.bO<|λx=>decide<|lj x=p
theorem KO(a:gM)(p:eG):(jf a p = -1/\∀x∈a.bO,lj x≠p)\/∃(k:Nat)(x:cX),jf a p=(k:Int)/\a.bO[k]? =some x/\lj x=p:=by
 rcases Ab a.bO (λx=>decide<|lj x=p)with⟨h1,h2⟩|⟨k,x,h1,h2,h3,_⟩
 ·exact .inl ⟨h1,λx hx=>of_decide_eq_false<|h2 x hx⟩
 ·exact .inr ⟨k,x,h1,h2,of_decide_eq_true h3⟩
end
theorem zU{α β:Type}{l:Z α}{f:α->aT β}{k:Nat}{x:α}{c:β}(hx:l[k]? =some x)(hn:∀(j:Nat)y,j<k->l[j]? =some y->f y=none)(hc:f x=some c):l.findSome? f=some c:=by
 obtain⟨hk,rfl⟩:=bR.1 hx;rw[List.findSome?_eq_some_iff];refine⟨l.take k,l[k],l.drop<|k+1,?_,hc,λy hy=>?_⟩
 ·rw[List.getElem_cons_drop,List.take_append_drop]
 grind [eE,bR,dE,List.getElem?_take_of_lt]
theorem Eg{α β:Type}{l:Z α}{f:α->aT β}(h:∀(j:Nat)y,j<l.length->l[j]? =some y->f y=none):l.findSome? f=none:=by
 grind [List.findSome?_eq_none_iff,eE,bR]
section
variable {N:Nat}
theorem UR(c:UInt8):(bif(!(((decide ((c.toNat:Int)>=97)&&decide ((c.toNat:Int)<=122))||(decide ((c.toNat:Int)>=65)&&decide ((c.toNat:Int)<=90)))||(decide ((c.toNat:Int)>=48)&&decide ((c.toNat:Int)<=57))))then((iS N (⟨[95,43,45,35]⟩) (c.toNat:Int)).bind λx50=>some<|decide<|x50<0)else some false)=some (Kn c):=by
 rw[yd,aB];unfold Kn;generalize decide (Lib.indexByte (⟨[95,43,45,35]⟩:eU).dV c<0)=p;have e:(!(((decide ((c.toNat:Int)>=97)&&decide ((c.toNat:Int)<=122))||(decide ((c.toNat:Int)>=65)&&decide ((c.toNat:Int)<=90)))||(decide ((c.toNat:Int)>=48)&&decide ((c.toNat:Int)<=57))))=(((decide ((c.toNat:Int)<65)||decide ((c.toNat:Int)>90))&&(decide ((c.toNat:Int)<97)||decide ((c.toNat:Int)>122)))&&(decide ((c.toNat:Int)<48)||decide ((c.toNat:Int)>57))):=by
  grind
 grind
theorem Eh{s:eU}(h:s.dV.length<=2097152)(hN:4194304<=N):iq N s=some (isWord s):=by
 refine XL ?_;unfold iq isWord;refine WO (Xv (n:=s.dV.length) (λs=>s) (λk _=>∀(j:Nat)x,j<k->s.dV[j]? =some x->Kn x=false) (Go:=λ_=>s.dV.any Kn=false) (Rt:=λr=>r=false/\s.dV.any Kn=true) ?_ ?_ (cP _) rfl (λj x hj=>by omega) (by omega)) ?_
 ·rintro k i hk e hI;subst e;rw[iO hk,aP];refine IT (J8 s k hk)<|IT (UR _)<|Xn (λhb=>XR ⟨rfl,lV.2 ⟨_,cH hk,hb⟩⟩)<|λhb=>W8 ⟨bF (by omega),λj x hj hx=>?_⟩
  grind
 ·grind [Xd,List.any_eq_false,eE,bR]
 intro o ho;refine Xf ho (λs' hs'=>?_)<|λr hr=>IS (by grind)
 rw[hs'];show Ok ((some _).bind _) _
 grind [IS,ka]
theorem KP{s:eU}(h:s.dV.length<=2097152)(hN:4194304<=N):kG N s=some (qc s):=by
 refine XL ?_;unfold kG qc;refine IT (Kp 47 h hN) ?_;have hsn:=HJ s 47;refine WO (Xv (n:=(qR s 47).length) (λs=>s) (λk _=>∀(j:Nat)x,j<k->(qR s 47)[j]? =some x->isWord x=true) (Go:=λ_=>(qR s 47).all isWord=true) (Rt:=λr=>r=false/\(qR s 47).all isWord=false) ?_ ?_ (cP _) rfl (λj x hj=>by omega) (by omega)) ?_
 ·rintro k i hk e hI;subst e;rw[iO hk,aP];have hx:(qR s 47)[k]? =some (qR s 47)[k]:=aM hk;have hl:=HI<|cH hk
  refine WV hx<|IT (Eh (by omega) hN)<|Xn (λhb=>XR ⟨rfl,?_⟩)<|λhb=>W8 ⟨bF (by omega),λj x hj hx'=>?_⟩
  ·grind
  grind
 ·grind [Xd,mh,eE,bR]
 intro o ho;refine Xf ho (λs' hs'=>IS ?_)<|λr hr=>IS (by grind)
 grind
theorem v9(n lo hi:Int):eQ N n lo hi=some (ij n lo hi):=rfl
theorem qB{b:bU}(h:t8 b=true):cV N b=some (zK b):=po (N:=N) h
theorem DM{b:bU}:iP N b=some (oG b).2:=by
 have e1:(bif(!(ij b.eJ 1 10000))then some true else some (!(vo b.At)))=some (!t8 b):=by unfold t8;cases ij b.eJ 1 10000 <;> rfl
 have e2:∀n,dH N n=some (sI n):=λ_=>rfl;unfold iP oG;rw[v9,aB,D7,aB,e1,aB]
 cases hf:t8 b with
 |false=>rfl
 |true=>
  rw[lq,aR,qB hf,aB];simp only[e2,aB];unfold dO
  cases sI (zK b).X0 <;> cases sI (zK b).Y0 <;> cases sI (zK b).X1 <;> cases sI (zK b).Y1 <;> rfl
theorem Sx{x y:cX}:(x.Part.wc y.Part||(x.Part.wF y.Part&&(x.eG.wc y.eG||x.eG.wF y.eG)))=decide (ik (lj x) (lj y)<=0):=by
 have hle:ik (lj x) (lj y)<=0↔zT (lj x) (lj y)\/lj x=lj y:=by
  rw[<-BS,<-nG];omega
 rw[jd,dF,hle,jc,dB,jc,Cu,Cu];unfold zT lj;simp only[eG.mk.injEq];constructor
 ·rintro(h|⟨h1,h2|h2⟩)
  ·exact .inl<|.inl h
  ·exact .inl<|.inr ⟨h1,h2⟩
  grind
 ·rintro((h|⟨h1,h2⟩)|⟨h1,h2⟩)
  ·exact .inl h
  ·exact .inr ⟨h1, .inl h2⟩
  grind
theorem Gp{a:gM}(hc:a.aL.length<=1073741824)(hl:a.bO.length<=1073741824){k:Nat}{x:cX}(hx:a.bO[k]? =some x)(hn:x.Part.dV.length<=2097152/\x.eG.dV.length<=2097152)(hN:4194304<=N):jy N a (k:Int)=some ((lZ a k).getD 0):=by
 have hk:=(bR.1 hx).1;have hw:wrap .i64 ((a.aL.length:Int) - 1)=(a.aL.length:Int) - 1:=gC (by omega) (by omega);unfold jy lZ;rw[cB hx,aB,KP hn.1 hN,aB,hx,Option.bind_some];have e1:(bif(!(qc x.Part))then some true else((iq N x.eG).bind λx44=>some<|!x44))=some (!(qc x.Part&&isWord x.eG)):=by
  grind [Eh,aB,qc]
 rw[e1,aB]
 cases h1:(qc x.Part&&isWord x.eG)with
 |false=>rfl
 |true=>
  rw[lq,aR,aF rfl,hw,v9,aB];have e2:(bif(!(ij x.cM 0<|(a.aL.length:Int) - 1))then some true else((gS N x.At).bind λx57=>some<|!x57))=some (!(ij x.cM 0 ((a.aL.length:Int) - 1)&&vo x.At)):=by
   grind [D7,aB]
  rw[e2,aB]
  cases h2:(ij x.cM 0 ((a.aL.length:Int) - 1)&&vo x.At)with
  |false=>rfl
  |true=>
   rw[lq,aR,aF rfl]
   by_cases h0:0<k
   ·have hy:a.bO[k - 1]? =some (a.bO[k - 1]'(by omega)):=aM _;rw[bS (by omega),aP,iL h0 (by omega),cB hy,aB,Sx]
    by_cases h3:ik (lj x) (lj<|a.bO[k - 1]'(by omega))<=0
    ·rw[bS h3,aP,aF ⟨h0,_,hy,h3⟩];rfl
    grind
   grind
noncomputable def nT(a:gM):Int:=if a.aL.length=0 then 9 else if 16<a.aL.length then 2 else match a.aL.findSome? zP with
 |some e=>e
 |none=>if kp a.cQ≠0 then kp a.cQ else if 2000<a.cQ.length+(a.aL.map List.length).sum then 2 else if j6 a≠0 then j6 a else nS a
theorem KQ(a:gM):lk a=if nT a≠0 then nT a else if t9 a then 12 else 0:=by
 unfold lk nT ND IL
 by_cases h0:a.aL.length=0
 ·rw[aF h0,aF h0,aF (by decide)]
 rw[aH h0,aH h0]
 by_cases h1:16<a.aL.length
 ·rw[aF h1,aF h1,aF (by decide)]
 rw[aH h1,aH h1]
 cases hf:a.aL.findSome? zP with
 |some e=>
  have he:e≠0:=by
   obtain⟨_,x,_,_,hx,_⟩:=List.findSome?_eq_some_iff.1 hf;unfold zP at hx;split at hx
   ·rename_i h;injection hx with hx;rw[<-hx];exact h
   ·cases hx
  dsimp only;rw[aF he]
 |none=>
  dsimp only
  by_cases h2:kp a.cQ≠0
  ·rw[aF h2,aF h2,aF h2]
  rw[aH h2,aH h2]
  by_cases h3:2000<a.cQ.length+(a.aL.map List.length).sum
  ·rw[aF h3,aF h3,aF (by decide)]
  rw[aH h3,aH h3]
  by_cases h4:j6 a≠0
  ·rw[aF h4,aF h4,aF h4]
  rw[aH h4,aH h4]
theorem Gq{a:gM}(h:nT a=0):j6 a=0:=by
 unfold nT at h
 grind [zP,List.findSome?_eq_some_iff,kp,List.length,j6]
theorem EG{a:gM}(hs:xn a)(hN:ns N):i5 N a=some (nT a):=by
 refine XL ?_;have c1:=hs.cs;have c2:=hs.out;have c3:=hs.bs;have c4:=hs.ls;unfold i5 nT;refine Xn (λh=>IS ?_)<|λh=>?_
 ·grind
 have h0:¬a.aL.length=0:=by grind
 rw[aH h0];refine Xn (λh=>IS ?_)<|λh=>?_
 ·grind
 have h1:¬16<a.aL.length:=by grind
 rw[aH h1];have sumle:∀k,k<=a.aL.length->((a.aL.take k).map List.length).sum<=k*1048576:=by
  intro k
  induction k with
  |zero=>intro _;simp
  |succ k ih=>
   intro hk;have:=ih (by omega);have h2:=hs.each _<|cH (show k<a.aL.length by omega)
   rw[dM (by omega),fH,List.sum_append]
   grind
 refine WO (Xv (n:=a.aL.length) (λs=>s.2) (λk s=>s.1=((a.cQ.length+((a.aL.take k).map List.length).sum:Nat):Int)/\∀(j:Nat)r,j<k->a.aL[j]? =some r->zP r=none)
  (Go:=λs=>s.1=((a.cQ.length+(a.aL.map List.length).sum:Nat):Int)/\a.aL.findSome? zP=none) (Rt:=λr=>a.aL.findSome? zP=some r) ?_ ?_ (cP _) rfl ⟨by simp,λj r hj=>by omega⟩ (by omega)) ?_
 ·rintro k⟨m,i⟩hk e⟨hm,hI⟩;dsimp only at e hm ⊢;subst e;subst hm;have hx:a.aL[k]? =some a.aL[k]:=aM hk;have he:=hs.each _<|cH hk
  have hsl:=sumle k (by omega);rw[iO hk,aP];refine WV hx<|IT (yz (by omega) hN)<|Xn (λhb=>XR ?_)<|λhb=>WV hx<|W8 ⟨bF (by omega),?_,λj r hj hr=>?_⟩
  ·grind [zU,zP]
  ·dsimp only;rw[wrap_add (by omega),dM hk,fH,List.sum_append]
   grind
  grind [zP]
 ·rintro⟨m,i⟩e⟨hm,hI⟩;dsimp only at e hm ⊢;subst e;rw[l4,aR];rw[eD]at hm;exact Xd ⟨hm,Eg hI⟩
 intro o ho;refine Xf ho ?_<|λr hr=>IS (by rw[hr])
 rintro⟨m,i⟩⟨hm,hf⟩;dsimp only at hm ⊢;subst hm;rw[hf];dsimp only;refine IT (yz (by omega) hN)<|Xn (λh=>IS ?_)<|λh=>?_
 ·rw[aF (by simpa using h)]
 rw[aH (by simpa using h)];have hmr:Ok (bif decide (((a.cQ.length+(a.aL.map List.length).sum:Nat):Int)>2000)then some true else some (decide<|(a.aN.length:Int)>500)) (λb=>b=decide (2000<a.cQ.length+(a.aL.map List.length).sum\/500<a.aN.length)):=by
  by_cases h2:2000<a.cQ.length+(a.aL.map List.length).sum
  ·rw[bS (by omega),aP];exact IS (bS<|.inl h2).symm
  ·rw[cA (by omega),aR];refine IS ?_;rw[decide_eq_decide];omega
 refine WO hmr λb hb=>?_;subst hb;refine Xn (λh=>IS ?_)<|λh=>?_
 ·have h:=of_decide_eq_true h
  by_cases h2:2000<a.cQ.length+(a.aL.map List.length).sum
  ·rw[aF h2]
  ·rw[aH h2];have hb:j6 a=2:=by unfold j6;rw[aF (by omega)]
   rw[hb,aF (by decide)]
 have h:=of_decide_eq_false h;rw[aH (by omega)];have hbe:j6 a=(a.aN.findSome?<|nD a.aL.length).getD 0:=by unfold j6;rw[aH (by omega)]
 have hw:wrap .i64 ((a.aL.length:Int) - 1)=(a.aL.length:Int) - 1:=gC (by omega) (by omega);refine WO (Xv (n:=a.aN.length) (λs=>s) (λk _=>∀(j:Nat)b,j<k->a.aN[j]? =some b->nD a.aL.length b=none) (Go:=λ_=>a.aN.findSome? (nD a.aL.length)=none) (Rt:=λr=>a.aN.findSome? (nD a.aL.length)=some r/\r≠0) ?_ ?_ (cP _) rfl (λj b hj=>by omega) (by omega)) ?_
 ·rintro k i hk e hI;subst e;rw[iO hk,aP];have hx:a.aN[k]? =some a.aN[k]:=aM hk;refine WV hx<|IT DM<|Xn (λhb=>XR ?_)<|λhb=>?_
  ·have hb:(oG a.aN[k]).2≠0:=by simpa using hb
   exact⟨zU hx hI (by unfold nD;rw[aF hb]),hb⟩
  ·have hb:¬(oG a.aN[k]).2≠0:=by simpa using hb
   rw[hw];have e2:((eQ N a.aN[k].cO 0<|(a.aL.length:Int) - 1).bind λx135=>bif(!x135)then some true else((eQ N a.aN[k].To a.aN[k].cO<|(a.aL.length:Int) - 1).bind λx138=>some<|!x138))=some (!(ij a.aN[k].cO 0 ((a.aL.length:Int) - 1)&&ij a.aN[k].To a.aN[k].cO ((a.aL.length:Int) - 1))):=by
    rw[v9,aB,v9,aB]
    cases ij a.aN[k].cO 0 ((a.aL.length:Int) - 1) <;> rfl
   refine IT e2<|Xn (λh3=>XR ⟨zU hx hI ?_,by decide⟩)<|λh3=>W8 ⟨bF (by omega),λj b hj hb'=>?_⟩
   ·unfold nD;rw[aH hb,aH (by rintro⟨g1,g2⟩;rw[g1,g2]at h3;cases h3)]
   ·by_cases e:j=k
    ·subst e;rw[hx]at hb';injection hb' with hb';rw[<-hb']
     rw[Bool.not_eq_false',dB]at h3;unfold nD;rw[aH hb,aF h3]
    ·exact hI j b (by omega) hb'
 ·rintro i e hI;subst e;rw[l4,aR];exact Xd<|Eg hI
 intro o ho;refine Xf ho ?_<|λr hr=>IS ?_
 rotate_left
 ·rw[hbe,hr.1,Option.getD_some,aF hr.2]
 intro _ hbn;rw[hbe,hbn,Option.getD_none,aH (by decide)];unfold nS;refine Xn (λh=>IS ?_)<|λh=>?_
 ·rw[aF (by have:=of_decide_eq_true h;omega)]
 have h5:¬1000<a.bO.length:=by have:=of_decide_eq_false h;omega
 rw[aH h5];refine WO (Xv (n:=a.bO.length) (λs=>s) (λk _=>∀j,j<k->lZ a j=none) (Go:=λ_=>rY a.bO.length (lZ a)=none) (Rt:=λr=>rY a.bO.length (lZ a)=some r) ?_ ?_ (cP _) rfl (λj hj=>by omega) (by omega)) ?_
 ·rintro k i hk e hI;subst e;rw[iO hk,aP];have hx:a.bO[k]? =some a.bO[k]:=aM hk;refine IT (Gp (by omega) (by omega) hx (hs.nm _<|cH hk) (by omega))<|Xn (λhb=>XR ?_)<|λhb=>W8 ⟨bF (by omega),λj hj=>?_⟩
  ·cases hl:lZ a k with
   |none=>rw[hl]at hb;cases hb
   |some e=>exact kn.2 ⟨k,hk,hl,hI⟩
  ·by_cases e:j=k
   ·subst e
    cases hl:lZ a j with
    |none=>rfl
    |some e=>rw[hl]at hb;exact absurd (by simpa using hb) (Gn hl)
   ·exact hI j (by omega)
 ·rintro i e hI;subst e;rw[l4,aR];exact Xd<|km.2 hI
 intro o ho;exact Xf ho (λ_ h=>IS (by rw[h];rfl))<|λr hr=>IS (by rw[hr];rfl)
theorem yn(b:bU)(k:Int):gk N b k=some (m7 b k):=rfl
theorem zV{a:gM}{i:Nat}{r:Z aG}{s:Z aA}(hb:lF a.aN)(hr:a.aL[i]? =some r)(hrl:r.length<=2000)(hro:∀x∈r,GK x)(hd:ye r (lS a.aN (i:Int)) s)(hN:ns N):hU N a (i:Int)=some (bA s):=by
 refine XL ?_;have hbl:=hb.len;have hhl:=DC hb (i:Int);have hho:=vq hb (i:Int);unfold hU;refine WO (Xv (n:=a.aN.length) (λs=>s.2) (λk st=>st.1=lS (a.aN.take k) (i:Int)) (Go:=λst=>st.1=lS a.aN (i:Int)) (Rt:=λ_=>False) ?_ ?_ (cP _) rfl rfl (by omega)) ?_
 ·rintro k⟨out,ii⟩hk e hI;dsimp only at e hI ⊢;subst e;subst hI;have hx:a.aN[k]? =some a.aN[k]:=aM hk;have hts:lS (a.aN.take<|k+1) (i:Int)=if m7 a.aN[k] (i:Int)=true then lS (a.aN.take k) (i:Int)++[zK a.aN[k]]else lS (a.aN.take k) (i:Int):=by
   grind [lS,dM]
  have hlen:(lS (a.aN.take k) (i:Int)).length<=k:=by
   unfold lS
   grind
  rw[iO hk,aP];refine WV hx<|IT (yn _ _)<|WO (P:=λst:Z aG=>st=lS (a.aN.take<|k+1) (i:Int)) (Xn (λh=>?_)<|λh=>IS ?_)<|λst hst=>W8 ⟨bF (by omega),hst⟩
  ·refine WV hx<|IT (qB (hb.ok _<|cH hk).1)<|XC (by grind)<|IS ?_
   rw[hts,aF h]
  grind
 ·simp[l4,aR,Xd,eD]
 intro o ho;refine Xf ho ?_<|λr hr=>hr.elim
 rintro⟨hs,ii⟩hI;dsimp only at hI ⊢;subst hI;obtain⟨t,_,ht⟩:=sP (N:=N) (l:=lS a.aN (i:Int)) (by omega) (λx hx=>(hho x hx).1) (by omega);obtain⟨z1,z2,z3⟩:=ht.Kr;have z4:2*(lS a.aN (i:Int)).length*(2*(lS a.aN (i:Int)).length)<=1000*1000:=Nat.mul_le_mul (by omega) (by omega);refine WV hr<|IT (yk ht.can ht.cover (by omega) (λx hx=>(hho x hx).1.x) (by omega) hN) ?_
 unfold lX;have hsz:=(Am (A:=5000) hd.can hd.FQ (by grind [eC,vl]) (by grind [eC,nQ])).2.2
 have hc:iH N r (bA t) 3=some (bA s):=KJ hd.can (λx y=>by
  rw[hd.cover,ru ht.can,ht.cover];rfl) (by omega) (by omega) (λx hx=>(hro x hx).x) (λx hx=>(xt ht.can x hx).1) (by omega) hN
 grind [aB,IS]
theorem DN:∀(cI:Z (Z<|Z aA))(k:Nat),(bP k cI).length=(cI.map List.length).sum
 | [],k=>rfl
 |ps::cI,k=>by
  show(ps.map _++bP (k+1) cI).length=_;rw[eC,dQ,DN cI<|k+1,eW,List.sum_cons]
theorem NN{a:gM}{kb:Z (Z aA)}{cI:Z (Z<|Z aA)}(hg:tf a)(hD:zN a.aL a.aN a.aL.length kb cI){i:Nat}{s:Z aA}(hi:i<a.aL.length)(hd:kb[i]? =some s)(hf:(bA s).length<=2000):∃ps u,cI[i]? =some ps/\tU a.aL[i] (lS a.aN (i:Int)) s u ps:=by
 have hp:cI[i]? =some (cI[i]'(by rw[hD.DD];exact hi)):=aM _;have hdr:=hD.dr i _ _ hi (aM hi) hd;obtain⟨u,hu⟩:=hD.pt i _ _ hi hd hp;have hreg:=tG.1<|hg.We _<|cH hi
 exact⟨_,u,hp,λx hx=>((wB.1 hreg.1).2 x hx).1,λx hx=>(vq hg.gb _ x hx).2,(F5 hreg.1).2,λx hx=>(vq hg.gb _ x hx).1,hdr,hu,hf⟩
theorem tU.pieces{r hs:Z aG}{s:Z aA}{u:Nat->Nat}{ps:Z (Z aA)}(h:tU r hs s u ps)(hN:ns N):gE N (bA s)=some (ps.map bA):=by
 refine KM h.dr.can h.pt h.yU (λq hq=>?_) (λp hp=>(h.part hp).2.1) hN;obtain⟨h1,h2,h3⟩:=MT h.r1 h.r2 h.dr.can h.dr.FQ q hq
 grind [IG]
theorem LY{a b:aG}(ha:a.X0<a.X1/\a.Y0<a.Y1)(hb:b.X0<b.X1/\b.Y0<b.Y1):gT N a b=some (KA a b):=by
 unfold gT
 grind [Ap,tg,decide,Min.min,Max.max,Kz,KA]
theorem sq_pos{b:bU}(h:t8 b=true):(zK b).X0<(zK b).X1/\(zK b).Y0<(zK b).Y1:=by
 obtain⟨h1,_,_⟩:=vY h;simp only[zK];omega
inductive Checked (N:Nat) (a:gM):Prop
 |err (e:Int) (he:e≠0) (h1:jt N a=some (none,e)) (h2:eH N a=some e)
 |ok {kb:Z (Z aA)} {cI:Z (Z (Z aA))} {r:Nat->Nat} {gs:Z bZ} {ofP ofB eY:Z Int} {eT:Z dZ} (b:iB a kb cI r gs ofP ofB eY eT)
  (h1:jt N a=some (some (a.aL,a.cQ,a.aN,a.bO,kb,bP 0 cI,cU a.aN<|bP 0 cI,gs,ofP,ofB,eY,eT),0)) (h2:eH N a=some 0)
theorem MV{a:gM}(hb:lF a.aN)(hN:ns N){f:Int->aT Int}{Q:Int->Prop}(hc:t9 a->Q 12)(hn:¬t9 a->∀s,Ok (f s) Q):
  Ok ((iD (λ(s35:Int)=>(bif decide (s35<(a.aN.length:Int))then((iD (λ(s622:Int)=>(bif s622<s35 then(((idx a.aN s35).bind λx869=>(idx a.aN s622).bind λx873=>(jz N x869 x873).bind λx876=>bif x876 then((idx a.aN s35).bind λx879=>(cV N x879).bind λx882=>(idx a.aN s622).bind λx885=>(cV N x885).bind λx888=>(gT N x882 x888).bind λx890=>some x890)else some false).bind λs867=>bif s867 then some (.rt 12)else some (.nx<|wrap .i64<|s622+1))else(some<|.br s622):aT (Fl Int Int))) N 0).bind λo911=>o911.cs (λ(s622:Int)=>some<|.nx<|wrap .i64<|s35+1)<|λr=>some<|.rt r)else(some<|.br s35):aT (Fl Int Int))) N 0).bind λo933=>o933.cs f<|λr=>some r) Q:=by
 have hbl:=hb.len;refine WO (Xv (n:=a.aN.length) (λs=>s) (λk _=>∀(i j:Nat)(x y:bU),i<k->j<i->a.aN[i]? =some x->a.aN[j]? =some y->¬vu x y=true) (Go:=λ_=>¬t9 a) (Rt:=λr=>r=12/\t9 a) ?_ ?_ (cP _) rfl (λi j x y hi=>by omega) (by omega)) ?_
 ·rintro k s hk e hI;subst e;rw[iO hk,aP];have hx:a.aN[k]? =some a.aN[k]:=aM hk;have fx:=(hb.ok _<|cH hk).1;refine WO (Xv (n:=k) (λs=>s) (λt _=>∀(j:Nat)(y:bU),j<t->a.aN[j]? =some y->¬vu a.aN[k] y=true) (Go:=λ_=>∀(j:Nat)(y:bU),j<k->a.aN[j]? =some y->¬vu a.aN[k] y=true) (Rt:=λr=>r=12/\t9 a) ?_ ?_ (cP _) rfl (λj y hj=>by omega) (by omega)) ?_
  ·rintro t s ht e hI2;subst e;rw[iO ht,aP];have hy:a.aN[t]? =some (a.aN[t]'(by omega)):=aM _;have fy:=(hb.ok _<|cH (show t<a.aN.length by omega)).1;have hcond:((idx a.aN ((k:Nat):Int)).bind λx869=>(idx a.aN ((t:Nat):Int)).bind λx873=>(jz N x869 x873).bind λx876=>bif x876 then((idx a.aN ((k:Nat):Int)).bind λx879=>(cV N x879).bind λx882=>(idx a.aN ((t:Nat):Int)).bind λx885=>(cV N x885).bind λx888=>(gT N x882 x888).bind λx890=>some x890)else some false)=some (vu a.aN[k]<|a.aN[t]'(by omega)):=by
    rw[cB hx,aB,cB hy,aB];unfold jz vu;rw[aB]
    cases(decide (a.aN[k].cO<=(a.aN[t]'(by omega)).To)&&decide ((a.aN[t]'(by omega)).cO<=a.aN[k].To))with
    |false=>rfl
    |true=>grind [aB,qB,LY,sq_pos]
   refine IT hcond<|Xn (λh=>XR ⟨rfl,k,t,_,_,ht,hx,hy,h⟩)<|λh=>W8 ⟨bF (by omega),λj y hj hjy=>?_⟩
   grind
  ·grind [Xd]
  intro o ho;refine Xf ho (λs hs=>W8 ⟨bF (by omega),λi j x y hi hj hix hjy=>?_⟩)<|λr hr=>XR hr
  grind
 ·rintro s e hI;subst e;rw[l4,aR];refine Xd ?_;rintro⟨i,j,x,y,hij,hx,hy,hc⟩;exact hI i j x y (bR.1 hx).1 hij hx hy hc
 intro o ho;exact Xf ho (λs hs=>hn hs s)<|λr hr=>IS (by rw[hr.1];exact hc hr.2)
theorem checked{a:gM}(hs:xn a)(hN:ns N):Checked N a:=by
 obtain⟨x,hx,hI⟩:=DH (N:=N) hs hN;have hbe:=KQ a;have hcp:=EG (N:=N) hs hN
 rcases hI with⟨he,rfl⟩|⟨h0,hg,hcl,kb,cI,D,hI⟩
 ·refine .err _ he hx<|XL ?_
  unfold eH;refine IT hcp ?_
  by_cases h:nT a≠0
  ·rw[aF h]at hbe;rw[show(nT a != 0)=true by simpa using h,aP,hbe];exact IS rfl
  ·rw[aH h]at hbe;have hp0:nT a=0:=by simpa using h
   have hc:t9 a:=by
    by_cases hc:t9 a
    ·exact hc
    ·rw[aH hc]at hbe;exact absurd hbe he
   rw[aF hc]at hbe;rw[hp0,show((0:Int) != 0)=false by rfl,aR];have hbo:=Gq hp0;refine MV ⟨(n7 hbo).1,λb hb=>⟨((n7 hbo).2 b hb).1,((n7 hbo).2 b hb).2.1⟩⟩ hN (λ_=>hbe.symm)<|λh=>absurd hc h
 ·have hp0:nT a=0:=by
   by_cases h:nT a≠0
   ·rw[aF h]at hbe;rw[hbe]at h0;exact h0
   ·simpa using h
  have key:eH N a=some (if SQ kb cI then 0 else 2):=by
   refine XL ?_;unfold eH;refine IT hcp ?_;rw[hp0,show((0:Int) != 0)=false by rfl,aR];refine MV hg.gb hN (λh=>absurd h hcl)<|λ_ _=>?_
   have hc16:=hg.yU.2
   refine WO (Xv (n:=a.aL.length) (λs=>s.2) (λk st=>st.1=((((cI.take k).map List.length).sum:Nat):Int)/\((cI.take k).map List.length).sum<=k*2000/\∀(j:Nat)s,j<k->kb[j]? =some s->(bA s).length<=2000)
    (Go:=λst=>st.1=(((cI.map List.length).sum:Nat):Int)/\∀s∈kb,(bA s).length<=2000) (Rt:=λr=>r=2/\¬SQ kb cI) ?_ ?_ (cP _) rfl ⟨by simp,by simp,λj s hj=>by omega⟩ (by omega)) ?_
   ·rintro k⟨m,i⟩hk e⟨hm,hml,hI2⟩;dsimp only at e hm ⊢;subst e;subst hm;rw[iO hk,aP];have hcx:a.aL[k]? =some a.aL[k]:=aM hk;have hd:kb[k]? =some (kb[k]'(by rw[D.len];exact hk)):=aM _;have hcs:=hg.cs _<|cH hk
    refine IT (zV hg.gb hcx hcs.1 hcs.2 (D.dr k _ _ hk hcx hd) hN)<|Xn (λh=>XR ⟨rfl,λhf=>?_⟩)<|λh=>?_
    ·have:=hf.1 _<|gh hd
     have:=of_decide_eq_true h;omega
    ·have hf:(bA<|kb[k]'(by rw[D.len];exact hk)).length<=2000:=by have:=of_decide_eq_false h;omega
     obtain⟨ps,u,hp,L⟩:=NN hg D hk hd hf;have hpl:=L.pt.yU;have hkp:k<cI.length:=by rw[D.DD];exact hk
     have hpe:cI[k]=ps:=by rw[aM hkp]at hp;injection hp
     refine IT (L.pieces hN)<|W8 ⟨bF (by omega),?_,?_,λj s hj hjs=>?_⟩
     ·dsimp only;rw[dQ,wrap_add (by omega),dM hkp,fH,List.sum_append,hpe];simp
     ·rw[dM hkp,fH,List.sum_append,hpe];simp only[eW,List.map_nil,List.sum_cons,List.sum_nil];rw[Nat.add_mul];omega
     ·by_cases e:j=k
      ·subst e;rw[hd]at hjs;injection hjs with hjs;rw[<-hjs];exact hf
      ·exact hI2 j s (by omega) hjs
   ·rintro⟨m,i⟩e⟨hm,hml,hI2⟩;dsimp only at e hm ⊢;subst e;rw[l4,aR];rw[nc (by rw[D.DD];exact cJ _)]at hm;refine Xd ⟨hm,λs hs'=>?_⟩;obtain⟨j,hj⟩:=eE hs';exact hI2 j s (by have:=(bR.1 hj).1;rw[D.len]at this;exact this) hj
   intro o ho;refine Xf ho ?_<|λr hr=>IS (by rw[hr.1,aH hr.2])
   rintro⟨m,i⟩⟨hm,hf⟩;dsimp only at hm ⊢;subst hm;have hpl:=DN cI 0;refine Xn (λh=>IS ?_)<|λh=>IS ?_
   ·rw[aH];rintro⟨_,h2⟩;have:=of_decide_eq_true h;omega
   ·rw[aF];exact⟨hf,by have:=of_decide_eq_false h;omega⟩
  rcases hI with⟨hf,rfl⟩|⟨hf,r,gs,ofP,ofB,eY,eT,hC,rfl⟩
  ·rw[aH hf]at key;exact .err 2 (by decide) hx key
  ·rw[aF hf]at key;exact .ok ⟨hg,hcl,D,hf,hC⟩ hx key
end
theorem EW:∀{l m:Z Int},kC l->kC m->(∀x,x∈l↔x∈m)->l=m
 | [],[],_,_,_=>rfl
 | [],b::m,_,_,h=>absurd ((h b).2 (by simp)) (by simp)
 |a::l,[],_,_,h=>absurd ((h a).1 (by simp)) (by simp)
 |a::l,b::m,hl,hm,h=>by
  have h1:a=b:=by
   have ha:=(h a).1 (by simp);have hb:=(h b).2 (by simp)
   rcases fp.1 ha with e|ha
   ·exact e
   ·rcases fp.1 hb with e|hb
    ·exact e.symm
    ·have:=hl.head b hb;have:=hm.head a ha;omega
  subst h1;rw[EW hl.tail hm.tail λx=>?_];have hx:=h x;rw[fp,fp]at hx;constructor
  ·intro hxl
   rcases hx.1 (.inr hxl)with e|h'
   ·have:=hl.head x hxl;omega
   ·exact h'
  ·intro hxm
   rcases hx.2 (.inr hxm)with e|h'
   ·have:=hm.head x hxm;omega
   ·exact h'
theorem KR{l:Z Nat}(h:l.Pairwise (· < ·)):kC (ints l):=by
 unfold kC ints
 grind
section
variable {N:Nat}
theorem Gr{l:Z Int}{c:Int}(h:kC l)(hl:l.length<=1000000000)(hN:ns N):jB N l c=some (uC l c):=by
 refine XL ?_;unfold jB
 refine WO (X2 (Go:=λs=>∃a:Nat,s=(a:Int)/\a<=l.length/\(∀(j:Nat)x,a<=j->l[j]? =some x->c<x)/\(∀x,0<a->l[a - 1]? =some x->¬c<x)) (Rt:=λ_=>False)
  (λs=>∃a:Nat,s=(a:Int)/\a<=l.length/\∀(j:Nat)x,a<=j->l[j]? =some x->c<x) (λs=>s.toNat) ?_ ⟨l.length,rfl,cJ _,λj x hj hx=>by grind⟩ (by omega)) ?_
 ·rintro s⟨a,rfl,ha,hI⟩
  by_cases h0:0<a
  ·have hx:l[a - 1]? =some (l[a - 1]'(by omega)):=aM _;rw[bS (by omega),aP,iL h0 (by omega),cB hx,aB,aB]
   grind [W8,cK,of_decide_eq_false,Xd]
  grind [cA,aB,Xd]
 intro o ho;refine Xf ho ?_<|λr hr=>hr.elim
 rintro s⟨a,rfl,ha,hI,hE⟩;have hlow:∀(j:Nat)x,j<a->l[j]? =some x->x<=c:=λj x hj hx=>by
  have hy:l[a - 1]? =some (l[a - 1]'(by omega)):=aM _;have h1:=hE _ (by omega) hy
  by_cases e:j=a - 1
  ·grind
  ·have:=h.lt (i:=j) (j:=a - 1) (by omega) hx hy;omega
 have hout:c∉l->uC l c=l.take a++c::l.drop a:=λhc=>by
  grind [uC,uB,decide,bS,gh,cA]
 have hrest:c∉l->Ok ((vB l 0 (a:Int)).bind λx61=>(app 8 ([]:Z Int) x61).bind λx63=>(app 8 x63 ([c]:Z Int)).bind λx66=>(vB l (a:Int) (l.length:Int)).bind λx68=>(app 8 x66 x68).bind λx70=>some x70) (λr=>r=uC l c):=λhc=>by
  have htk:(l.take a).length=a:=by rw[dE];omega
  refine IT (tv l a ha)<|XC (by simp only[List.length_nil];omega)<|XC (by rw[List.nil_append];simp only[eN,List.length_nil];omega)<|IT (r5 l a ha)<|XC ?_<|IS ?_
  ·rw[List.nil_append,eC,mJ];simp only[eN,List.length_nil];omega
  ·rw[hout hc];simp
 by_cases h0:0<a
 ·have hx:l[a - 1]? =some (l[a - 1]'(by omega)):=aM _;rw[bS (by omega),aP,iL h0 (by omega),cB hx,aB,aB];refine Xn (λhb=>IS ?_)<|λhb=>hrest ?_
  ·rw[beq_iff_eq]at hb;unfold uC;rw[aF (by rw[<-hb];exact gh hx)]
  ·rw[beq_eq_false_iff_ne]at hb;intro hc;obtain⟨j,hj⟩:=eE hc
   by_cases h1:a<=j
   ·have:=hI j c h1 hj;omega
   ·by_cases e:j=a - 1
    ·subst e;rw[hx]at hj;injection hj with hj;exact hb hj
    ·have:=h.lt (i:=j) (j:=a - 1) (by omega) hj hx;have:=hlow (a - 1) _ (by omega) hx;omega
 ·rw[cA (by omega),aR,aB,aR];refine hrest λhc=>?_;obtain⟨j,hj⟩:=eE hc;have:=hI j c (by omega) hj;omega
theorem yo{l:Z Int}{c:Int}(hl:l.length<=1099511627776)(hN:ns N):cS N l c=some (decide<|c∈l):=by
 refine XL ?_;unfold cS;refine WO (Xv (n:=l.length) (λs=>s) (λk _=>∀(j:Nat)x,j<k->l[j]? =some x->x≠c) (Go:=λ_=>c∉l) (Rt:=λr=>r=true/\c∈l) ?_ ?_ (cP _) rfl (λj x hj=>by omega) (by omega)) ?_
 ·rintro k s hk e hI;subst e;rw[iO hk,aP];have hx:l[k]? =some l[k]:=aM hk
  grind [WV,XR,W8,bF,cH]
 ·grind [Xd,eE,bR]
 intro o ho;exact Xf ho (λs hs=>IS (cA hs).symm)<|λr hr=>IS (by grind)
theorem Pc{p q:aG}(hp:p.X0<p.X1/\p.Y0<p.Y1)(hq:q.X0<q.X1/\q.Y0<q.Y1):uA p q=decide ((0<min p.X1 q.X1 - max p.X0 q.X0/\min p.Y1 q.Y1 - max p.Y0 q.Y0=0)\/(min p.X1 q.X1 - max p.X0 q.X0=0/\0<min p.Y1 q.Y1 - max p.Y0 q.Y0)):=by
 unfold uA
 grind
theorem QA{l:Z aG}{q:aG}(hl:l.length<=1000000000)(ho:∀r∈l,GK r)(hq:GK q)(hN:ns N):kl N l q=some (l.any<|λr=>uA r q):=by
 refine XL ?_;unfold kl;refine WO (Xv (n:=l.length) (λs=>s) (λk _=>∀(j:Nat)x,j<k->l[j]? =some x->uA x q=false) (Go:=λ_=>l.any (λr=>uA r q)=false) (Rt:=λr=>r=true/\l.any (λr=>uA r q)=true) ?_ ?_ (cP _) rfl (λj x hj=>by omega) (by omega)) ?_
 ·rintro k s hk e hI;subst e;rw[iO hk,aP];have hx:l[k]? =some l[k]:=aM hk;have hr:=ho _<|cH hk
  have hb:=Pc (p:=l[k]) (q:=q) ⟨hr.x,hr.y⟩ ⟨hq.x,hq.y⟩;have a1:=hr.s1;have a2:=hr.s2;have a3:=hr.s3;have a4:=hr.s4;have b1:=hq.s1;have b2:=hq.s2;have b3:=hq.s3;have b4:=hq.s4;unfold small at a1 a2 a3 a4 b1 b2 b3 b4;refine WV hx<|WV hx<|WV hx<|WV hx ?_
  rw[Ap,Ap,tg,tg,gC (x:=min l[k].X1 q.X1 - max l[k].X0 q.X0) (by omega) (by omega),gC (x:=min l[k].Y1 q.Y1 - max l[k].Y0 q.Y0) (by omega) (by omega)];have e:((decide (min l[k].X1 q.X1 - max l[k].X0 q.X0>0)&&(min l[k].Y1 q.Y1 - max l[k].Y0 q.Y0==0))||((min l[k].X1 q.X1 - max l[k].X0 q.X0==0)&&decide (min l[k].Y1 q.Y1 - max l[k].Y0 q.Y0>0)))=uA l[k] q:=by
   grind
  grind [XR,lV,cH,W8,bF]
 ·grind [Xd,List.any_eq_false,eE,bR]
 intro o ho;exact Xf ho (λs hs=>IS hs.symm)<|λr hr=>IS (by grind)
theorem DO(r:Z aG)(p:dW):D8 r p=vW r p.X p.Y:=by
 grind [D8,vW,ge_iff_le]
theorem Ei{r:Z aG}{p:dW}(hl:r.length<=134217728)(hr:∀x∈r,x.X0<x.X1)(hN:ns N):fP N r p=some (D8 r p):=by
 refine XL ?_;unfold fP
 grind [WO,IM,xq,dQ,IT,DI,IS,Aq,DO]
def Pd(bs:Z bU)(pcs:Z aD)(l:cX):aT dZ:=match pcs.findIdx? (mz l)with
 |some k=>some ⟨false,((k:Nat):Int)⟩
 |none=>(bs.findIdx? (nE l)).map λk=>⟨true,((k:Nat):Int)⟩
theorem MW{bs:Z bU}{pcs:Z aD}{l:cX}(hd:∀b∈bs,∀p∈pcs,nE l b=true->mz l p=true->False):Pd bs pcs l=rF bs pcs l:=by
 unfold Pd rF
 grind
theorem Gs{α:Type}{l:Z α}{p:α->Bool}{k:Nat}{x:α}(hx:l[k]? =some x)(hp:p x=true)(hn:∀(j:Nat)y,j<k->l[j]? =some y->p y=false):l.findIdx? p=some k:=by
 grind [bR,List.findIdx?_eq_some_iff_getElem,aM]
theorem Gt{α:Type}{l:Z α}{p:α->Bool}(hn:∀(j:Nat)y,j<l.length->l[j]? =some y->p y=false):l.findIdx? p=none:=by
 grind [List.findIdx?_eq_none_iff,eE,bR]
theorem HU{bs:Z bU}{pcs:Z aD}(hb:lF bs)(hp:pcs.length<=1000000)(hr:∀p∈pcs,p.dY.length<=1000000/\∀x∈p.dY,x.X0<x.X1)(l:cX)(hN:ns N):
  gz N bs (pcs.map aD.cM) (pcs.map aD.dY) l=some ((Pd bs pcs l).getD ⟨false,0⟩,(Pd bs pcs l).isSome):=by
 refine XL ?_;have hbl:=hb.len;unfold gz Pd;rw[dQ];refine WO (Xv (n:=pcs.length) (λs=>s) (λk _=>∀(j:Nat)x,j<k->pcs[j]? =some x->mz l x=false) (Go:=λ_=>pcs.findIdx? (mz l)=none) (Rt:=λr=>∃k:Nat,pcs.findIdx? (mz l)=some k/\r=(⟨false,((k:Nat):Int)⟩,true)) ?_ ?_ (cP _) rfl (λj x hj=>by omega) (by omega)) ?_
 ·rintro k s hk e hI;subst e;rw[iO hk,aP];have hx:pcs[k]? =some pcs[k]:=aM hk;have hlx:(pcs.map aD.cM)[k]? =some pcs[k].cM:=by grind
  have hrx:(pcs.map aD.dY)[k]? =some pcs[k].dY:=by grind
  have hrl:=hr _<|cH hk
  have hcond:((idx (pcs.map aD.cM) ((k:Nat):Int)).bind λx88=>bif x88==l.cM then((idx (pcs.map aD.dY) ((k:Nat):Int)).bind λx91=>(fP N x91 l.At).bind λx95=>some x95)else some false)=some (mz l pcs[k]):=by
   grind [cB,aB,Ei,mz]
  grind [IT,XR,Gs,W8,bF]
 ·grind [Xd,Gt]
 intro o ho;refine Xf ho ?_ (λr hr=>by grind [IS]);intro _ hno;rw[hno];dsimp only;refine WO (Xv (n:=bs.length) (λs=>s) (λk _=>∀(j:Nat)x,j<k->bs[j]? =some x->nE l x=false) (Go:=λ_=>bs.findIdx? (nE l)=none) (Rt:=λr=>∃k:Nat,bs.findIdx? (nE l)=some k/\r=(⟨true,((k:Nat):Int)⟩,true)) ?_ ?_ (cP _) rfl (λj x hj=>by omega) (by omega)) ?_
 ·rintro k s hk e hI;subst e;rw[iO hk,aP];have hx:bs[k]? =some bs[k]:=aM hk;have hg:=hb.ok _<|cH hk
  have hcond:((idx bs ((k:Nat):Int)).bind λx301=>bif x301.fJ then((idx bs ((k:Nat):Int)).bind λx305=>(gk N x305 l.cM).bind λx308=>bif x308 then((idx bs ((k:Nat):Int)).bind λx310=>(cV N x310).bind λx313=>(fP N ([x313]:Z aG) l.At).bind λx317=>some x317)else some false)else some false)=some (nE l bs[k]):=by
   rw[cB hx,aB,aB,yn,aB,aB,qB hg.1,aB,Ei (by simp) (λx hx=>by simp_all[sq_pos]) hN,aB]
   grind [nE]
  grind [IT,XR,Gs,W8,bF]
 ·grind [Xd,Gt]
 intro o ho;exact Xf ho (λ_ h=>IS (by rw[h];rfl)) (λr hr=>by grind [IS])
end
section
variable {N:Nat}{a:gM}{kb:Z (Z aA)}{cI:Z (Z (Z aA))}{r:Nat->Nat}{gs:Z bZ}{ofP ofB eY:Z Int}{eT:Z dZ}
theorem tI(b:iB a kb cI r gs ofP ofB eY eT){p:aD}(hp:p∈bP 0 cI):p.dY.length<=2000/\(∀q∈p.dY,dO q=true/\q.X0<q.X1/\q.Y0<q.Y1)/\∃i:Nat,p.cM=(i:Int)/\∀x y,vW p.dY x y=true->vW (lS a.aN (i:Int)) x y=false:=by
 obtain⟨i,ps,q,h1,h2,rfl⟩:=DG hp;have hil:i<a.aL.length:=by have:=(bR.1 h1).1;rw[b.dr.DD]at this;exact this
 obtain⟨s,ps',u,g1,g2,L⟩:=Ef b hil;rw[h1]at g2;injection g2 with g2;subst g2
 obtain⟨k1,k2,k3⟩:=L.part h2;refine⟨k2,k3,i,by simp,λx y h=>?_⟩;have h3:vW (ps.flatMap bA) x y=true:=Ee.2 ⟨q,h2,h⟩;rw[L.cover,L.dr.cover,dB,Bool.not_eq_true']at h3;exact h3.2
theorem MX(b:iB a kb cI r gs ofP ofB eY eT)(l:cX):∀x∈a.aN,∀p∈bP 0 cI,nE l x=true->mz l p=true->False:=λx hx p hp h1 h2=>by
 obtain⟨_,_,i,e,hc⟩:=tI b hp;unfold nE at h1;unfold mz at h2;rw[dB,dB,DO]at h1;rw[dB,DO,beq_iff_eq]at h2;have h3:=hc _ _ h2.2;rw[<-e,h2.1]at h3;obtain⟨q,hq,hxy⟩:=kV.1 h1.2.2;simp at hq;subst hq;have h4:vW (lS a.aN l.cM) l.At.X l.At.Y=true:=kV.2 ⟨zK x,dN.2 ⟨x,ll.2 ⟨hx,h1.2.1⟩,rfl⟩,hxy⟩;rw[h3]at h4;cases h4
end
structure PS (n:Nat) (r:Nat->Nat) (h:Nat) (q:Z Nat) (seen:Z Bool) (pieces todo:Z Int):Prop where
 sl:seen.length=n
 sn:∀p,p<n->seen[p]? =some (decide<|r p<h\/p∈q)
 qn:q.Nodup
 qi:∀p∈q,p<n/\r p=h
 q0:h∈q
 td:todo=ints q
 pi:kC pieces
 pm:∀x,x∈pieces↔∃p∈q,x=((p:Nat):Int)
structure QS (n m:Nat) (tch:Z (Z Int)) (r:Nat->Nat) (h:Nat) (q qb:Z Nat) (CS:Z Int) (used:Z Bool):Prop where
 ul:used.length=m
 un:∀k,k<m->used[k]? =some (decide<|k∈qb)
 bi:kC CS
 bm:∀x,x∈CS↔∃k∈qb,x=((k:Nat):Int)
 bk:∀k∈qb,k<m/\r (n+k)=h/\∀l,tch[k]? =some l->∀p:Nat,(p:Int)∈l->p∈q
theorem PS.yU{n:Nat}{r:Nat->Nat}{h:Nat}{q:Z Nat}{seen:Z Bool}{pieces todo:Z Int}(H:PS n r h q seen pieces todo):q.length<=n/\pieces.length<=n:=by
 have h1:=fL H.qn (m:=List.range n) (λk hk=>by rw[kx];exact(H.qi k hk).1);rw[List.length_range]at h1;have h2:=fL H.pi.nodup (m:=ints q)<|λx hx=>qz.2<|(H.pm x).1 hx
 grind [my]
theorem QS.yU{n m:Nat}{tch:Z (Z Int)}{r:Nat->Nat}{h:Nat}{q qb:Z Nat}{CS:Z Int}{used:Z Bool}(H:QS n m tch r h q qb CS used):CS.length<=m:=by
 have h2:=fL H.bi.nodup (m:=ints (List.range m)) (λx hx=>by
  obtain⟨k,hk,e⟩:=(H.bm x).1 hx
  exact qz.2 ⟨k,kx.2 (H.bk k hk).1,e⟩)
 grind [my,List.length_range]
theorem Sy(n t:Nat)(r:Nat->Nat)(h:Nat):kC (ints<|gP n<|cls t r h):=KR<|List.Pairwise.sublist (List.filter_sublist.trans List.filter_sublist)<|List.pairwise_lt_range (n:=t)
theorem Pe(bs:Z bU)(n t:Nat)(r:Nat->Nat)(h:Nat):kC (ints<|gB bs n<|cls t r h):=by
 refine KR ?_;unfold gB;rw[List.pairwise_map];have hp:(List.filter (λi=> !decide (i<n)&&sS bs (i - n))<|cls t r h).Pairwise (· < ·):=List.Pairwise.sublist (List.filter_sublist.trans List.filter_sublist)<|List.pairwise_lt_range (n:=t)
 grind
theorem DQ{n t:Nat}{r:Nat->Nat}{h p:Nat}:p∈gP n (cls t r h)↔p<n/\p<t/\r p=h:=by
 unfold gP
 grind [te]
theorem DR{bs:Z bU}{n t:Nat}{r:Nat->Nat}{h k:Nat}:k∈gB bs n (cls t r h)↔n+k<t/\r (n+k)=h/\sS bs k=true:=by
 unfold gB;rw[dN];constructor
 ·grind [te,Bool.not_eq_true',decide_eq_false_iff_not]
 ·rintro⟨h1,h2,h3⟩;refine⟨n+k,?_,by omega⟩
  grind [te,Bool.not_eq_true',decide_eq_false_iff_not,Nat.add_sub_cancel_left]
section
variable {N:Nat}
theorem KS{bs:Z bU}{n m:Nat}{tch:Z (Z Int)}{r:Nat->Nat}(hC:EF n m tch r)(hm:tch.length=m)(ht:∀l∈tch,l.length<=1073741824/\∀x∈l,∃i:Nat,i<n/\x=((i:Nat):Int))(hn:n<=1000000)(hm2:m<=1000000)
  (hpl:∀(k:Nat)l,tch[k]? =some l->l≠[]->sS bs k=true) {h:Nat} (hh:h<n) (hr:r h=h) {seen:Z Bool} (hsl:seen.length=n) (hsn:∀p,p<n->seen[p]? =some (decide<|r p<h)) (hN:ns N):
  Ok (iu N tch ((h:Nat):Int) seen) (λx=>x.1.1=ints (gP n<|cls (n+m) r h)/\x.1.2.1=ints (gB bs n<|cls (n+m) r h)/\x.1.2.2= []/\x.2.length=n/\∀p,p<n->x.2[p]? =some (decide<|r p<h+1)):=by
 unfold iu;refine WV (hsn h hh)<|IT (oC false (by omega)) ?_
 refine WO (X2 (Go:=λst=>st.2.1=ints (gP n (cls (n+m) r h))/\st.2.2.1=ints (gB bs n (cls (n+m) r h))/\st.1.length=n/\∀p,p<n->st.1[p]? =some (decide (r p<h+1))) (Rt:=λ_=>False)
  (λst=>∃(q qb:Z Nat)(t:Nat),st.2.2.2.2.2=(t:Int)/\t<=q.length/\PS n r h q st.1 st.2.1 st.2.2.2.2.1/\QS n m tch r h q qb st.2.2.1 st.2.2.2.1/\∀(j p k:Nat)l,j<t->q[j]? =some p->tch[k]? =some l->((p:Nat):Int)∈l->k∈qb)
  (λst=>n+1 - st.2.2.2.2.2.toNat) ?_ ⟨[h],[],0,rfl,by simp,?_,?_,λj p k l hj=>by omega⟩ (by simp;omega)) ?_
 ·rintro⟨sn,pi,bo,us,td,t'⟩⟨q,qb,t,e,htq,hP,hQ,hcl⟩;dsimp only at e hP hQ ⊢;subst e;have htl:td.length=q.length:=by rw[hP.td,my]
  have hqf:=hP.yU
  by_cases hlt:t<q.length
  ·rw[iO (by omega),aP];have hqt:q[t]? =some q[t]:=aM hlt;have hqi:=hP.qi _<|cH hlt
   refine WO (Xv (n:=tch.length) (λst=>st.2.2.2.2.2) (λi st=>∃q' qb',q <+:q'/\(∀k∈qb,k∈qb')/\PS n r h q' st.1 st.2.1 st.2.2.2.2.1/\QS n m tch r h q' qb' st.2.2.1 st.2.2.2.1/\∀k l,k<i->tch[k]? =some l->((q[t]:Nat):Int)∈l->k∈qb')
    (Go:=λst=>∃q' qb',q <+:q'/\(∀k∈qb,k∈qb')/\PS n r h q' st.1 st.2.1 st.2.2.2.2.1/\QS n m tch r h q' qb' st.2.2.1 st.2.2.2.1/\∀k l,tch[k]? =some l->((q[t]:Nat):Int)∈l->k∈qb') (Rt:=λ_=>False) ?_ ?_ (cP _) rfl
    ⟨q,qb,List.prefix_refl _,λk hk=>hk,hP,hQ,λk l hk=>by omega⟩ (by omega)) ?_
   ·rintro k⟨sn1,pi1,bo1,us1,td1,i'⟩hk e⟨q1,qb1,hpre,hsub,hP1,hQ1,hc1⟩;dsimp only at e hP1 hQ1 ⊢;subst e;rw[iO hk,aP];have hkm:k<m:=by omega
    have htk:tch[k]? =some tch[k]:=aM hk;have htk2:=ht _<|cH hk
    have hq1t:td1[t]? =some ((q[t]:Nat):Int):=by
     rw[hP1.td];unfold ints;rw[iE,DK hpre hqt];rfl
    have hcond:((idx us1 ((k:Nat):Int)).bind λx948=>bif x948 then some true else((idx tch ((k:Nat):Int)).bind λx950=>(idx td1 (t:Int)).bind λx953=>(cS N x950 x953).bind λx954=>some<|!x954))=some (decide (k∈qb1)|| !decide (((q[t]:Nat):Int)∈tch[k])):=by
     rw[cB<|hQ1.un k hkm,aB,cB htk,aB,cB hq1t,aB,yo (l:=tch[k]) (c:=((q[t]:Nat):Int)) (by have:=htk2.1;omega) hN,aB]
     cases decide (k∈qb1) <;> rfl
    refine IT hcond<|Xn (λhb=>W8 ⟨bF (by omega),q1,qb1,hpre,hsub,hP1,hQ1,λk' l hk' hl hm'=>?_⟩)<|λhb=>?_
    ·by_cases e:k'=k
     ·subst e;rw[htk]at hl;injection hl with hl
      rw[hl,bS hm',lq,Bool.or_false,dF]at hb;exact hb
     ·exact hc1 k' l (by omega) hl hm'
    ·rw[Bool.or_eq_false_iff,decide_eq_false_iff_not,Bool.not_eq_false',dF]at hb;obtain⟨hkn,hqm⟩:=hb;have hrk:r (n+k)=h:=by rw[<-hC.co q[t] (n+k) ⟨k,_,htk,hqm,rfl⟩];exact hqi.2
     have hbf:=hQ1.yU;refine WV (hQ1.un k hkm)<|IT (Gr hQ1.bi (by omega) hN) ?_
     refine WO (Xv (n:=tch[k].length) (λst=>st.2.2.2) (λi st=>∃q2,q1 <+:q2/\PS n r h q2 st.1 st.2.1 st.2.2.1/\∀(j p:Nat),j<i->tch[k][j]? =some ((p:Nat):Int)->p∈q2)
      (Go:=λst=>∃q2,q1 <+:q2/\PS n r h q2 st.1 st.2.1 st.2.2.1/\∀(p:Nat),((p:Nat):Int)∈tch[k]->p∈q2) (Rt:=λ_=>False) ?_ ?_ (cP _) rfl ⟨q1,List.prefix_refl _,hP1,λj p hj=>by omega⟩ (by omega)) ?_
     ·rintro j⟨sn2,pi2,td2,jj⟩hj e⟨q2,hpre2,hP2,hc2⟩;dsimp only at e hP2 ⊢;subst e;have hlj:tch[k][j]? =some tch[k][j]:=aM hj;obtain⟨p,hpn,hpe⟩:=htk2.2 _<|cH hj
      rw[hpe]at hlj;have hpf:=hP2.yU;have hrp:r p=h:=by rw[hC.co p (n+k) ⟨k,_,htk,gh hlj,rfl⟩];exact hrk
      refine WV htk ?_;rw[iO hj,aP];refine WV htk<|WV hlj<|WV (hP2.sn p hpn) ?_
      refine WO (P:=λst:Z Bool×Z Int×Z Int=>∃q2,q1 <+:q2/\PS n r h q2 st.1 st.2.1 st.2.2/\∀(j' p:Nat),j'<j+1->tch[k][j']? =some ((p:Nat):Int)->p∈q2) (Xn (λhb=>?_)<|λhb=>IS ⟨q2,hpre2,hP2,λj' p' hj' hp'=>?_⟩)<|λst hst=>W8 ⟨bF (by omega),hst⟩
      ·have hpq:p∉q2:=by
        rw[Bool.not_eq_true',decide_eq_false_iff_not]at hb;exact λh=>hb<|.inr h
       refine WV (hP2.sn p hpn)<|IT (Gr hP2.pi (by omega) hN)<|XC (by rw[hP2.td,my];simp only[eN,List.length_nil];omega)<|IS ⟨q2++[p],hpre2.trans<|List.prefix_append _ _,⟨?_,?_,?_,?_,?_,?_,?_,?_⟩,?_⟩
       ·rw[ig];exact hP2.sl
       ·intro p' hp';rw[cK,lU]
        by_cases e:p=p'
        ·subst e;rw[aF rfl,aF (by rw[hP2.sl];exact hpn)];congr 1;exact(bS<|.inr (by simp)).symm
        ·rw[aH e,hP2.sn p' hp'];congr 1;rw[decide_eq_decide,dJ];simp only[mg];constructor
         ·exact λh=>h.elim .inl<|λh=> .inr<|.inl h
         ·exact λh=>h.elim .inl<|λh=>h.elim .inr<|λh=>absurd h.symm e
       ·rw[List.nodup_append];exact⟨hP2.qn,by simp,λa ha b hb=>by simp at hb;subst hb;exact λe=>hpq<|e▸ha⟩
       ·intro p' hp'
        rcases dJ.1 hp' with hp'|hp'
        ·exact hP2.qi p' hp'
        ·simp at hp';subst hp';exact⟨hpn,hrp⟩
       ·exact List.mem_append_left _ hP2.q0
       ·dsimp only;rw[hP2.td,tH];rfl
       ·exact xo hP2.pi
       ·intro x;rw[Gc,hP2.pm];constructor
        ·rintro(⟨p',h1,h2⟩|h1)
         ·exact⟨p',List.mem_append_left _ h1,h2⟩
         ·exact⟨p,by simp,h1⟩
        ·rintro⟨p',h1,h2⟩
         rcases dJ.1 h1 with h1|h1
         ·exact .inl ⟨p',h1,h2⟩
         ·simp at h1;subst h1;exact .inr h2
       ·intro j' p' hj' hp'
        by_cases e:j'=j
        ·subst e;rw[hlj]at hp';injection hp' with hp'
         have:p'=p:=by omega
         subst this;simp
        ·exact List.mem_append_left _<|hc2 j' p' (by omega) hp'
      ·by_cases e:j'=j
       ·subst e;rw[hlj]at hp';injection hp' with hp'
        have:p'=p:=by omega
        subst this;rw[Bool.not_eq_false',dF]at hb
        rcases hb with hb|hb
        ·omega
        ·exact hb
       ·exact hc2 j' p' (by omega) hp'
     ·rintro⟨sn2,pi2,td2,jj⟩e⟨q2,hpre2,hP2,hc2⟩;dsimp only at e hP2 ⊢;subst e;refine WV htk ?_;rw[l4,aR];refine Xd ⟨q2,hpre2,hP2,λp hp=>?_⟩;obtain⟨j,hj⟩:=eE hp;exact hc2 j p (bR.1 hj).1 hj
     intro o ho;refine Xf ho ?_<|λr hr=>hr.elim
     rintro⟨sn2,pi2,td2,jj⟩⟨q2,hpre2,hP2,hc2⟩;dsimp only at hP2 ⊢;refine W8 ⟨bF (by omega),q2,qb1++[k],hpre.trans hpre2,λk' hk'=>List.mem_append_left _<|hsub k' hk',hP2,⟨?_,?_,?_,?_,?_⟩,λk' l hk' hl hm'=>?_⟩
     ·rw[ig];exact hQ1.ul
     ·intro k' hk';rw[cK,lU]
      by_cases e:k=k'
      ·subst e;rw[aF rfl,aF (by rw[hQ1.ul];exact hkm)];congr 1;exact(bS (by simp)).symm
      ·rw[aH e,hQ1.un k' hk'];congr 1;rw[decide_eq_decide,dJ];simp only[mg];exact⟨.inl,λh=>h.elim id<|λh=>absurd h.symm e⟩
     ·exact xo hQ1.bi
     ·intro x;rw[Gc,hQ1.bm];constructor
      ·rintro(⟨p',h1,h2⟩|h1)
       ·exact⟨p',List.mem_append_left _ h1,h2⟩
       ·exact⟨k,by simp,h1⟩
      ·rintro⟨p',h1,h2⟩
       rcases dJ.1 h1 with h1|h1
       ·exact .inl ⟨p',h1,h2⟩
       ·simp at h1;subst h1;exact .inr h2
     ·intro k' hk'
      rcases dJ.1 hk' with hk'|hk'
      ·obtain⟨h1,h2,h3⟩:=hQ1.bk k' hk';exact⟨h1,h2,λl hl p hp=>hpre2.subset<|h3 l hl p hp⟩
      ·simp at hk';subst hk';refine⟨hkm,hrk,λl hl p hp=>?_⟩;rw[htk]at hl;injection hl with hl
       exact hc2 p (by rw[hl];exact hp)
     ·by_cases e:k'=k
      ·subst e;simp
      ·exact List.mem_append_left _<|hc1 k' l (by omega) hl hm'
   ·rintro⟨sn1,pi1,bo1,us1,td1,i'⟩e⟨q1,qb1,hpre,hsub,hP1,hQ1,hc1⟩;dsimp only at e hP1 hQ1 ⊢;subst e;rw[l4,aR];exact Xd ⟨q1,qb1,hpre,hsub,hP1,hQ1,λk l hl=>hc1 k l (bR.1 hl).1 hl⟩
   intro o ho;refine Xf ho ?_<|λr hr=>hr.elim
   rintro⟨sn1,pi1,bo1,us1,td1,i'⟩⟨q1,qb1,hpre,hsub,hP1,hQ1,hc1⟩;dsimp only at hP1 hQ1 ⊢;refine W8 ⟨⟨q1,qb1,t+1,bF (by omega),by have:=hpre.length_le;omega,hP1,hQ1,λj p k l hj hjp hl hm'=>?_⟩,?_⟩
   ·by_cases e:j=t
    ·subst e;rw[DK hpre hqt]at hjp;injection hjp with hjp;subst hjp
     exact hc1 k l hl hm'
    ·have hjq:q[j]? =some (q[j]'(by omega)):=aM _;rw[DK hpre hjq]at hjp;injection hjp with hjp;subst hjp
     exact hsub k<|hcl j _ k l (by omega) hjq hl hm'
   ·rw[bF (by omega)];simp only[cK];omega
  ·rw[CT (by omega:td.length<=t),aR];have htq':t=q.length:=by omega
   have hclosed:∀i j,Lk n tch i j->(((i<n/\i∈q)\/∃k,k∈qb/\i=n+k)↔((j<n/\j∈q)\/∃k,k∈qb/\j=n+k)):=by
    rintro i j⟨k,l,hl,hil,rfl⟩;obtain⟨i',hi',ei⟩:=(ht l<|gh hl).2 _ hil;have:i'=i:=by omega
    subst this;constructor
    ·rintro(⟨_,h1⟩|⟨k',_,h1⟩)
     ·obtain⟨p,hp⟩:=eE h1;exact .inr ⟨k,hcl p i' k l (by rw[htq'];exact(bR.1 hp).1) hp hl hil,rfl⟩
     ·omega
    ·rintro(⟨h1,_⟩|⟨k',h1,h2⟩)
     ·omega
     ·have:k'=k:=by omega
      subst this;exact .inl ⟨hi',(hQ.bk k' h1).2.2 l hl i' hil⟩
   have hall:∀x,x<n+m->r x=h->(x<n/\x∈q)\/∃k,k∈qb/\x=n+k:=λx hx hrx=>hC.fi _ hclosed h x (by omega) hx (by rw[hr,hrx])<|.inl ⟨hh,hP.q0⟩
   refine Xd ⟨?_,?_,hP.sl,λp hp=>?_⟩
   ·refine EW hP.pi (Sy _ _ _ _) λx=>?_;rw[hP.pm,qz];constructor
    ·rintro⟨p,h1,h2⟩;exact⟨p,DQ.2 ⟨(hP.qi p h1).1,by have:=(hP.qi p h1).1;omega,(hP.qi p h1).2⟩,h2⟩
    ·rintro⟨p,h1,h2⟩;obtain⟨g1,g2,g3⟩:=DQ.1 h1
     rcases hall p g2 g3 with⟨_,g4⟩|⟨k,_,g4⟩
     ·exact⟨p,g4,h2⟩
     ·omega
   ·refine EW hQ.bi (Pe _ _ _ _ _) λx=>?_;rw[hQ.bm,qz];constructor
    ·rintro⟨k,h1,h2⟩;obtain⟨g1,g2,g3⟩:=hQ.bk k h1;refine⟨k,DR.2 ⟨by omega,g2,?_⟩,h2⟩;have hk:tch[k]? =some (tch[k]'(by omega)):=aM _;refine hpl k _ hk λhemp=>?_;have rG:∀i j,Lk n tch i j->((i=n+k)↔(j=n+k)):=by
      rintro i j⟨k',l,hl,hil,rfl⟩;obtain⟨i',hi',ei⟩:=(ht l<|gh hl).2 _ hil;constructor
      ·intro;omega
      ·intro e;have:k'=k:=by omega
       subst this;rw[hk]at hl;injection hl with hl
       rw[<-hl,hemp]at hil;cases hil
     have:=hC.fi (λx=>x=n+k) rG (n+k) h (by omega) (by omega) (by rw[g2,hr]) rfl;omega
    ·rintro⟨k,h1,h2⟩;obtain⟨g1,g2,_⟩:=DR.1 h1
     rcases hall (n+k) g1 g2 with⟨g4,_⟩|⟨k',g3,g4⟩
     ·omega
     ·have:k'=k:=by omega
      subst this;exact⟨k',g3,h2⟩
   ·rw[hP.sn p hp];congr 1;rw[decide_eq_decide];constructor
    ·rintro(h1|h1)
     ·omega
     ·have:=(hP.qi p h1).2;omega
    ·intro h1
     by_cases e:r p=h
     ·rcases hall p (by omega) e with⟨_,g4⟩|⟨k,_,g4⟩
      ·exact .inr g4
      ·omega
     ·exact .inl (by omega)
 ·refine⟨by rw[ig];exact hsl,λp hp=>?_,by simp,λp hp=>by simp at hp;subst hp;exact⟨hh,hr⟩,by simp,rfl,List.pairwise_singleton _ _,λx=>by simp⟩;rw[cK,lU]
  by_cases e:h=p
  ·subst e;rw[aF rfl,aF (by rw[hsl];exact hh)];congr 1;exact(bS<|.inr (by simp)).symm
  ·rw[aH e,hsn p hp];congr 1;rw[decide_eq_decide];simp only[mg];omega
 ·exact⟨by rw[List.length_replicate];exact hm,λk hk=>by simp[hm,hk],ky,λx=>by simp,λk hk=>by cases hk⟩
 intro o ho;refine Xf ho ?_<|λr hr=>hr.elim
 rintro⟨sn,pi,bo,us,td,t'⟩⟨h1,h2,h3,h4⟩;exact IS ⟨h1,h2,rfl,h3,h4⟩
end
theorem HV(bs:Z bU)(n t:Nat)(r:Nat->Nat)(hs:Z Nat)(h:Nat):m8 bs n t r (hs++[h])=if Ku bs n (cls t r h)=true then m8 bs n t r hs++[RE bs n<|cls t r h]else m8 bs n t r hs:=by
 grind [m8,HL]
def Pf(bs:Z bU)(n m:Nat)(r:Nat->Nat)(h:dZ):Nat:=gi bs n (n+m) r<|r<|eB n h
structure Sz (G G':Z bZ):Prop where
 len:G'.length=G.length
 each:∀(g:Nat)x,G[g]? =some x->∃y,G'[g]? =some y/\y.fN=x.fN/\y.aN=x.aN
theorem Ba(G:Z bZ)(lg:cX->aT Nat)(ls:Z cX):Sz G (g8 G lg ls):=
 ⟨yg _ _ _,λg x hx=>⟨{x with fB:=(ls.filter<|λl=>decide<|lg l=some g).map lj},by grind [mA],rfl,rfl⟩⟩
section
variable {N:Nat}
theorem zW{bs:Z bU}{n m:Nat}{r:Nat->Nat}(hbm:bs.length=m)(hn:n<=1000000)(hm:m<=1000000)(hle:∀i,i<n+m->r i<=i)(hrr:∀i,i<n+m->r (r i)=r i){G:Z bZ}(hG:Sz (m8 bs n (n+m) r<|bV (n+m) r) G){h:dZ}(hh:F9 bs n m h)(hN:ns N):
  dS N G h=some ((Pf bs n m r h:Nat):Int)/\Pf bs n m r h<G.length:=by
 obtain⟨k,hk,hkb,hkp⟩:=hh.num;have hx:eB n h<n+m:=by
  grind [eB]
 have hhead:r (eB n h)∈bV (n+m) r:=iN.2 ⟨by grind,hrr _ hx⟩;have hne:Ku bs n (cls (n+m) r<|r<|eB n h)=true:=by
  unfold eB at hx ⊢
  by_cases hb:h.bU=true
  all_goals grind [cK,Kx,Kw]
 obtain⟨g1,g2⟩:=HM (bs:=bs) (n:=n) hhead hne;have hlen:G.length=(live bs n (n+m) r<|bV (n+m) r).length:=by rw[hG.len,vr]
 have hlive:(live bs n (n+m) r<|bV (n+m) r).Nodup:=List.Nodup.sublist List.filter_sublist<|nb _ _
 have hll:(live bs n (n+m) r<|bV (n+m) r).length<=n+m:=by
  grind [si,bV,me]
 have hval:∀(g:Nat)y,G[g]? =some y->Ok (bif h.bU then((idx G ((g:Nat):Int)).bind λx241=>(cS N x241.aN h.Number).bind λx250=>bif x250 then some true else(bif(!h.bU)then((idx G ((g:Nat):Int)).bind λx253=>(cS N x253.fN h.Number).bind λx262=>some x262)else some false))else(bif(!h.bU)then((idx G ((g:Nat):Int)).bind λx264=>(cS N x264.fN h.Number).bind λx273=>some x273)else some false))
   (λb=>b=true↔(live bs n (n+m) r<|bV (n+m) r)[g]? =some (r<|eB n h)):=λg y hy=>by
  have hgl:g<(live bs n (n+m) r<|bV (n+m) r).length:=by have:=(bR.1 hy).1;omega
  have hlx:(live bs n (n+m) r<|bV (n+m) r)[g]? =some (live bs n (n+m) r<|bV (n+m) r)[g]:=aM hgl;have hgx:(m8 bs n (n+m) r<|bV (n+m) r)[g]? =some (RE bs n<|cls (n+m) r (live bs n (n+m) r<|bV (n+m) r)[g]):=by unfold m8;rw[iE,hlx];rfl
  obtain⟨y',hy',e1,e2⟩:=hG.each g _ hgx;rw[hy]at hy';injection hy' with hy';subst hy'
  generalize hhd:(live bs n (n+m) r<|bV (n+m) r)[g]=hd at *;have hpl:y.fN.length<=n+m/\y.aN.length<=n+m:=by
   have:=II n<|cls (n+m) r hd
   have:=IJ bs n<|cls (n+m) r hd
   have:=CL (n+m) r hd;rw[e1,e2];unfold RE;simp only[my];omega
  rw[hlx]
  cases hb:h.bU with
  |true=>
   rw[aP,cB hy,aB,yo (by omega) hN,aB];have hix:eB n h=n+k:=by unfold eB;rw[aF hb,hk,cK]
   have hiff:(h.Number∈y.aN)↔hd=r (eB n h):=by
    rw[e2,hix];unfold RE;dsimp only;rw[qz,hk];constructor
    ·rintro⟨i,hi,e⟩;have:i=k:=by omega
     subst this;exact(DR.1 hi).2.1.symm
    ·intro e;exact⟨k,DR.2 ⟨by omega,e.symm,(hkb hb).2⟩,rfl⟩
   by_cases hin:h.Number∈y.aN
   ·rw[bS hin,aP];exact IS ⟨λ_=>by rw[hiff.1 hin],λ_=>rfl⟩
   ·rw[cA hin,aR,lq,aR];refine IS ⟨λh=>(by cases h),λh=>?_⟩;injection h with h
    exact absurd (hiff.2 h) hin
  |false=>
   rw[aR,ka,aP,cB hy,aB,yo (by omega) hN,aB];have hix:eB n h=k:=by unfold eB;rw[aH (by grind),hk,cK]
   have hiff:(h.Number∈y.fN)↔hd=r (eB n h):=by
    rw[e1,hix];unfold RE;dsimp only;rw[qz,hk];constructor
    ·rintro⟨i,hi,e⟩;have:i=k:=by omega
     subst this;exact(DQ.1 hi).2.2.symm
    ·intro e;exact⟨k,DQ.2 ⟨hkp hb,by omega,e.symm⟩,rfl⟩
   refine IS ?_;rw[dF,hiff];exact⟨λh=>by rw[h],λh=>by injection h⟩
 refine⟨XL ?_,by grind [Pf]⟩;unfold dS Pf;refine WO (Xv (n:=G.length) (λs=>s) (λk _=>∀g,g<k->(live bs n (n+m) r<|bV (n+m) r)[g]? ≠some (r<|eB n h)) (Go:=λ_=>False) (Rt:=λs=>s=((gi bs n (n+m) r (r<|eB n h):Nat):Int)) ?_ ?_ (cP _) rfl (λg hg=>by omega) (by omega)) ?_
 ·rintro g s hg e hI;subst e;rw[iO hg,aP];refine WO (hval g _<|aM hg) λb hb=>?_
  grind [XR,An,W8,bF]
 ·grind
 intro o ho;exact Xf ho (λ_ h=>h.elim)<|λr hr=>IS hr
theorem KT{bs:Z bU}{pcs:Z aD}{r:Nat->Nat}(hb:lF bs)(hp:pcs.length<=1000000)(hpr:∀p∈pcs,p.dY.length<=1000000/\∀x∈p.dY,x.X0<x.X1)(hd:∀l:cX,∀b∈bs,∀p∈pcs,nE l b=true->mz l p=true->False)
  (hle:∀i,i<pcs.length+bs.length->r i<=i) (hrr:∀i,i<pcs.length+bs.length->r (r i)=r i) {G:Z bZ} (hG:Sz (m8 bs pcs.length (pcs.length+bs.length) r<|bV (pcs.length+bs.length) r) G) (l:cX) (hN:ns N):
  fG N bs (pcs.map aD.cM) (pcs.map aD.dY) G l=some (G9 bs pcs r l)/\∀g,vN bs pcs r l=some g->g<G.length:=by
 have hbl:=hb.len;unfold fG G9 vN;rw[HU hb hp hpr l hN,aB,MW<|hd l]
 cases hh:rF bs pcs l with
 |none=>simp
 |some h=>
  obtain⟨e1,e2⟩:=zW (N:=N) rfl hp (by omega) hle hrr hG (DF hh) hN;refine⟨?_,λg hg=>?_⟩
  ·dsimp only[Option.getD_some,Option.isSome_some];rw[lq,aR,e1,aB];rfl
  ·rw[Option.map_some]at hg;injection hg with hg
   rw[<-hg];exact e2
theorem Pg{bs:Z bU}{pcs:Z aD}:∀(k:Nat)l,(cU bs pcs)[k]? =some l->l≠[]->sS bs k=true:=λk l hl hne=>by
 unfold cU at hl;rw[iE,sW]at hl;obtain⟨b,hb,rfl⟩:=hl;unfold sS;rw[hb]
 cases hp:b.fJ with
 |true=>simpa using hp
 |false=>
  exfalso;refine hne ?_;have:ry (i9 b) pcs pcs.length= []:=by
   unfold ry;rw[List.filter_eq_nil_iff];intro j _;rw[ot,Option.any_eq_false];intro p _;unfold i9;rw[hp];rfl
  rw[this];rfl
theorem NO{bs:Z bU}{ls:Z cX}{pcs:Z aD}{r:Nat->Nat}(hb:lF bs)(hp:pcs.length<=2000)(hl:ls.length<=1000000)(hpr:∀p∈pcs,p.dY.length<=1000000/\∀x∈p.dY,x.X0<x.X1)(hd:∀l:cX,∀b∈bs,∀p∈pcs,nE l b=true->mz l p=true->False)
  (hC:EF pcs.length bs.length (cU bs pcs) r) (hN:ns N):
  ga N bs ls (pcs.map aD.cM) (pcs.map aD.dY) (cU bs pcs)=some (g8 (m8 bs pcs.length (pcs.length+bs.length) r<|bV (pcs.length+bs.length) r) (vN bs pcs r) ls):=by
 refine XL ?_;have hbl:=hb.len;have htl:(cU bs pcs).length=bs.length:=by simp[cU,dQ]
 have hto:=zO (bs:=bs) (pcs:=pcs) (by omega);have hgl:∀hs:Z Nat,(m8 bs pcs.length (pcs.length+bs.length) r hs).length<=hs.length:=λhs=>by simp[vr,si]
 unfold ga;rw[dQ];refine IT (oC false (by omega)) ?_
 refine WO (Xv (n:=pcs.length) (λst=>st.2.2) (λi st=>st.1=m8 bs pcs.length (pcs.length+bs.length) r (bV i r)/\st.2.1.length=pcs.length/\∀p,p<pcs.length->st.2.1[p]? =some (decide (r p<i)))
  (Go:=λst=>st.1=m8 bs pcs.length (pcs.length+bs.length) r (bV pcs.length r)) (Rt:=λ_=>False) ?_ ?_ (cP _) rfl ⟨by rfl,by simp,λp hp=>by simp[hp]⟩ (by omega)) ?_
 ·rintro i⟨G,sn,ii⟩hi e⟨hG,hsl,hsn⟩;dsimp only at e hG hsl hsn ⊢;subst e;subst hG;rw[iO hi,aP];refine WV (hsn i hi) ?_;refine WO (P:=λst:Z bZ×Z Bool=>st.1=m8 bs pcs.length (pcs.length+bs.length) r (bV (i+1) r)/\st.2.length=pcs.length/\∀p,p<pcs.length->st.2[p]? =some (decide<|r p<i+1)) (Xn (λhb=>?_)<|λhb=>IS ⟨?_,hsl,λp hp=>?_⟩)<|λst hst=>W8 ⟨bF (by omega),hst⟩
  ·rw[Bool.not_eq_true',decide_eq_false_iff_not]at hb;have hri:r i=i:=by have:=hC.le i (by omega);omega
   refine WO (KS (bs:=bs) hC htl hto (by omega) (by omega) Pg hi hri hsl hsn hN) λx hx=>?_;obtain⟨x1,x2,x3,x4,x5⟩:=hx;have h1:=hgl<|bV i r
   have h2:=me i r;refine XC (by grind)<|IS ⟨?_,x4,x5⟩
   dsimp only;have hne:Ku bs pcs.length (cls (pcs.length+bs.length) r i)=true:=by
    grind [Kw]
   rw[iA,aF hri,HV,aF hne,x1,x2,x3];rfl
  ·grind [Bool.not_eq_false',iA]
  ·rw[Bool.not_eq_false',dF]at hb;rw[hsn p hp];congr 1;rw[decide_eq_decide];have hne:r p≠i:=λe=>by have:=hC.rr p (by omega);rw[e]at this;omega
   omega
 ·rintro⟨G,sn,ii⟩e⟨hG,_,_⟩;dsimp only at e hG ⊢;subst e;rw[l4,aR];exact Xd hG
 intro o ho;refine Xf ho ?_<|λr hr=>hr.elim
 rintro⟨G,sn,ii⟩hG;dsimp only at hG ⊢;subst hG;rw[htl];have halone:∀k,k<bs.length->(cU bs pcs)[k]? =some []->∀x,x<pcs.length+bs.length->(r x=r (pcs.length+k)↔x=pcs.length+k):=λk hk hemp x hx=>by
  constructor
  ·intro e;refine hC.fi (λy=>y=pcs.length+k) ?_ (pcs.length+k) x (by omega) hx e.symm rfl;rintro i j⟨k',l,hl,hil,rfl⟩;obtain⟨i',hi',ei⟩:=(hto l<|gh hl).2 _ hil;constructor
   ·intro;omega
   ·intro e;have:k'=k:=by omega
    subst this;rw[hemp]at hl;injection hl with hl
    rw[<-hl]at hil;cases hil
  ·intro e;rw[e]
 refine WO (Xv (n:=bs.length) (λst=>st.2) (λi st=>st.1=m8 bs pcs.length (pcs.length+bs.length) r (bV (pcs.length+i) r))
  (Go:=λst=>st.1=m8 bs pcs.length (pcs.length+bs.length) r (bV (pcs.length+bs.length) r)) (Rt:=λ_=>False) ?_ ?_ (cP _) rfl rfl (by omega)) ?_
 ·rintro i⟨G,ii⟩hi e hG;dsimp only at e hG ⊢;subst e;subst hG;rw[iO hi,aP];have hx:bs[i]? =some bs[i]:=aM hi;have htx:(cU bs pcs)[i]? =some ((cU bs pcs)[i]'(by omega)):=aM _;have hpi:sS bs i=bs[i].fJ:=by unfold sS;rw[hx];rfl
  have hlen:=hgl<|bV (pcs.length+i) r
  have hhl:=me (pcs.length+i) r;have hcond:((idx bs ((i:Nat):Int)).bind λx210=>bif x210.fJ then((idx (cU bs pcs) ((i:Nat):Int)).bind λx214=>some<|(x214.length:Int)==0)else some false)=some (sS bs i&&decide ((cU bs pcs)[i]'(by omega)= [])):=by
   rw[cB hx,aB,cB htx,aB,hpi]
   cases bs[i].fJ with
   |false=>rfl
   |true=>
    rw[aP,Bool.true_and];congr 1;rw[jd,dF,beq_iff_eq];constructor
    ·intro h;exact List.eq_nil_of_length_eq_zero (by omega)
    ·intro h;rw[h];rfl
  refine IT hcond ?_;have hstep:m8 bs pcs.length (pcs.length+bs.length) r (bV (pcs.length+(i+1)) r)=if(sS bs i&&decide ((cU bs pcs)[i]'(by omega)= []))=true then m8 bs pcs.length (pcs.length+bs.length) r (bV (pcs.length+i) r)++[⟨[],[((i:Nat):Int)],[]⟩]else m8 bs pcs.length (pcs.length+bs.length) r (bV (pcs.length+i) r):=by
   rw[<-Nat.add_assoc,iA]
   by_cases hemp:(cU bs pcs)[i]'(by omega)= []
   ·rw[hemp]at htx;have rG:=halone i hi htx;have hri:r (pcs.length+i)=pcs.length+i:=by
     have h1:=hC.le (pcs.length+i) (by omega);exact(rG _ (by omega)).1<|hC.rr _ (by omega)
    rw[aF hri,HV];have hcl:∀x,x∈cls (pcs.length+bs.length) r (pcs.length+i)↔x=pcs.length+i:=λx=>by
     rw[te];constructor
     ·rintro⟨h1,h2⟩;exact(rG x h1).1 (by rw[h2,hri])
     ·intro h;subst h;exact⟨by omega,hri⟩
    have hgp:gP pcs.length (cls (pcs.length+bs.length) r<|pcs.length+i)= []:=by
     unfold gP;rw[List.filter_eq_nil_iff];intro x hx;rw[(hcl x).1 hx];simp
    by_cases hpl:sS bs i=true
    ·have hne:Ku bs pcs.length (cls (pcs.length+bs.length) r<|pcs.length+i)=true:=by
      have:=Kx (bs:=bs) (n:=pcs.length) (r:=r) hpl (show pcs.length+i<pcs.length+bs.length by omega);rwa[hri]at this
     rw[aF hne,aF (by rw[hpl,bS hemp];rfl)];congr 2;unfold RE;rw[hgp];have hgb:ints (gB bs pcs.length<|cls (pcs.length+bs.length) r<|pcs.length+i)= [((i:Nat):Int)]:=by
      refine EW (Pe _ _ _ _ _) (List.pairwise_singleton _ _) λx=>?_;rw[qz];simp only[mg];constructor
      ·rintro⟨k,h1,h2⟩;obtain⟨g1,g2,_⟩:=DR.1 h1;have:=(rG _ g1).1 (by rw[g2,hri]);omega
      ·intro h;exact⟨i,DR.2 ⟨by omega,hri,hpl⟩,h⟩
     rw[hgb];rfl
    ·have hne:¬Ku bs pcs.length (cls (pcs.length+bs.length) r<|pcs.length+i)=true:=by
      unfold Ku;have hgb:gB bs pcs.length (cls (pcs.length+bs.length) r<|pcs.length+i)= []:=by
       unfold gB;rw[List.map_eq_nil_iff,List.filter_eq_nil_iff];intro x hx;rw[(hcl x).1 hx,Nat.add_sub_cancel_left];simp[hpl]
      rw[hgp,hgb];simp
     rw[aH hne,aH (by rw[ot]at hpl ⊢;rw[hpl];rfl)]
   ·have hri:¬r (pcs.length+i)=pcs.length+i:=λe=>by
     obtain⟨x,hxm⟩:=List.exists_mem_of_ne_nil _ hemp;obtain⟨p,hp1,hp2⟩:=(hto _<|cH (show i<(cU bs pcs).length by omega)).2 x hxm;have h1:=hC.co p (pcs.length+i) ⟨i,_,htx,by rw[<-hp2];exact hxm,rfl⟩;have h2:=hC.le p (by omega);omega
    rw[aH hri,aH (by rw[cA hemp,Bool.and_false];exact jS)]
  refine WO (P:=λst:Z bZ=>st=m8 bs pcs.length (pcs.length+bs.length) r (bV (pcs.length+(i+1)) r)) (Xn (λhb=>?_)<|λhb=>IS ?_)<|λst hst=>W8 ⟨bF (by omega),hst⟩
  ·refine XC (by simp only[eN,List.length_nil];omega)<|IS ?_
   rw[hstep,aF hb]
  ·rw[hstep,aH (by rw[ot];exact hb)]
 ·rintro⟨G,ii⟩e hG;dsimp only at e hG ⊢;subst e;rw[l4,aR];exact Xd hG
 intro o ho;refine Xf ho ?_<|λr hr=>hr.elim
 rintro⟨G,ii⟩hG;dsimp only at hG ⊢;subst hG;have hGl:=hgl<|bV (pcs.length+bs.length) r
 have hhl:=me (pcs.length+bs.length) r;generalize hGG:m8 bs pcs.length (pcs.length+bs.length) r (bV (pcs.length+bs.length) r)=G at *;refine WO (Xv (n:=ls.length) (λst=>st.2) (λi st=>st.1=g8 G (vN bs pcs r) (ls.take i)) (Go:=λst=>st.1=g8 G (vN bs pcs r) ls) (Rt:=λ_=>False) ?_ ?_ (cP _) rfl ?_ (by omega)) ?_
 ·rintro i⟨W,ii⟩hi e hW;dsimp only at e hW ⊢;subst e;subst hW;rw[iO hi,aP];have hx:ls[i]? =some ls[i]:=aM hi;have hts:ls.take (i+1)=ls.take i++[ls[i]]:=dM hi;obtain⟨e1,e2⟩:=KT (N:=N) (r:=r) hb (by omega) hpr hd hC.le hC.rr (G:=g8 G (vN bs pcs r)<|ls.take i) (by rw[hGG];exact Ba _ _ _) ls[i] hN;refine WV hx<|IT e1 ?_
  refine WO (P:=λst:Z bZ=>st=g8 G (vN bs pcs r) (ls.take<|i+1)) ?_<|λst hst=>W8 ⟨bF (by omega),hst⟩
  unfold G9
  cases hg:vN bs pcs r ls[i]with
  |none=>
   dsimp only;rw[show decide ((-1:Int)>=0)=false by decide,aR];refine IS ?_;rw[hts,A7 hg]
  |some g=>
   have hgW:=e2 g hg;have hWg:(g8 G (vN bs pcs r)<|ls.take i)[g]? =some (g8 G (vN bs pcs r)<|ls.take i)[g]:=aM hgW;dsimp only;rw[bS (by omega),aP];have hpl:(g8 G (vN bs pcs r)<|ls.take i)[g].fB.length<=ls.length:=by
    have:=hWg;rw[mA,sW]at this;obtain⟨y,_,hy⟩:=this;rw[<-hy];dsimp only;rw[dQ];have:=ln (λl=>decide<|vN bs pcs r l=some g)<|ls.take i
    rw[dE]at this;omega
   refine WV hWg<|XC (by simp only[eN,List.length_nil];omega)<|WV hWg<|IS ?_
   rw[cK,hts];exact CR hg hWg
 ·rintro⟨W,ii⟩e hW;dsimp only at e hW ⊢;subst e;rw[l4,aR];exact Xd (by rw[eD]at hW;exact hW)
 ·apply List.ext_getElem?;intro g;rw[mA]
  cases hGg:G[g]? with
  |none=>rfl
  |some x=>
   have hx0:x.fB= []:=by
    rw[<-hGG]at hGg;unfold m8 at hGg;rw[iE,sW]at hGg;obtain⟨hd',_,rfl⟩:=hGg;rfl
   simp only[Option.map_some,List.take_zero,List.filter_nil,List.map_nil,Option.some.injEq];rw[<-hx0]
 intro o ho;exact Xf ho (λst hst=>IS hst)<|λr hr=>hr.elim
end
section
variable {N:Nat}{a:gM}{kb:Z (Z aA)}{cI:Z (Z (Z aA))}{r:Nat->Nat}{gs:Z bZ}{ofP ofB eY:Z Int}{eT:Z dZ}
theorem iB.vt(b:iB a kb cI r gs ofP ofB eY eT):xv a:=NM b.zQ.vt
theorem KU(b:iB a kb cI r gs ofP ofB eY eT)(hN:ns N):
  kd N a=some (a.aL,a.cQ,a.aN,a.bO,(bP 0 cI).map aD.cM,(bP 0 cI).map aD.dY,gs,cU a.aN<|bP 0 cI):=by
 refine XL ?_;have hc16:=b.zQ.yU.2;have hfew:=b.yU.2;have hbl:=b.zQ.gb.len;have hll:=b.vt.yU;unfold kd;have hpl:∀k,(bP 0<|cI.take k).length<=2000:=λk=>by
  grind [DN,List.length,List.take_append_drop]
 refine WO (Xv (n:=a.aL.length) (λst=>st.2.2) (λi st=>st.1=(bP 0<|cI.take i).map aD.cM/\st.2.1=(bP 0<|cI.take i).map aD.dY) (Go:=λst=>st.1=(bP 0 cI).map aD.cM/\st.2.1=(bP 0 cI).map aD.dY) (Rt:=λ_=>False) ?_ ?_ (cP _) rfl ⟨rfl,rfl⟩ (by omega)) ?_
 ·rintro i⟨La,Re,ii⟩hi e⟨h1,h2⟩;dsimp only at e h1 h2 ⊢;subst e;subst h1;subst h2;rw[iO hi,aP];obtain⟨s,ps,u,hd,hp,L⟩:=Ef b hi;have hcx:a.aL[i]? =some a.aL[i]:=aM hi;have hcs:=b.zQ.cs _<|cH hi
  have hip:=(bR.1 hp).1;have hts:bP 0 (cI.take<|i+1)=bP 0 (cI.take i)++ps.map (λp=>⟨((i:Nat):Int),p,bA p⟩):=by
   grind [dM,bR,yf,dE,Min.min]
  have hl1:=hpl i;have hl2:=hpl<|i+1
  rw[hts,eC,dQ]at hl2;refine IT (zV b.zQ.gb hcx hcs.1 hcs.2 L.dr hN)<|IT (L.pieces hN) ?_
  rw[dQ]
  refine WO (Xv (n:=ps.length) (λst=>st.2.2) (λj st=>st.1=(bP 0 (cI.take i)).map aD.cM++(ps.take j).map (λ_=>((i:Nat):Int))/\st.2.1=(bP 0 (cI.take i)).map aD.dY++(ps.take j).map bA)
   (Go:=λst=>st.1=(bP 0 (cI.take (i+1))).map aD.cM/\st.2.1=(bP 0 (cI.take (i+1))).map aD.dY) (Rt:=λ_=>False) ?_ ?_ (cP _) rfl ⟨by simp,by simp⟩ (by omega)) ?_
  ·rintro j⟨La,Re,jj⟩hj e⟨h1,h2⟩;dsimp only at e h1 h2 ⊢;subst e;subst h1;subst h2;rw[iO hj,aP];have hx:(ps.map bA)[j]? =some (bA ps[j]):=by grind
   refine XC ?_<|WV hx<|XC ?_<|W8 ⟨bF (by omega),?_,?_⟩
   ·grind
   ·grind
   all_goals grind [dM,kN]
  ·rintro⟨La,Re,jj⟩e⟨h1,h2⟩;dsimp only at e h1 h2 ⊢;subst e;subst h1;subst h2;rw[l4,aR];refine Xd ⟨?_,?_⟩
   ·dsimp only;rw[hts,fH,List.map_map,eD];rfl
   ·dsimp only;rw[hts,fH,List.map_map,eD];rfl
  intro o ho;exact Xf ho (λst hst=>W8 ⟨bF (by omega),hst⟩)<|λr hr=>hr.elim
 ·rintro⟨La,Re,ii⟩e⟨h1,h2⟩;dsimp only at e h1 h2 ⊢;subst e;rw[l4,aR];rw[nc (by rw[b.dr.DD];exact cJ _)]at h1 h2;exact Xd ⟨h1,h2⟩
 intro o ho;refine Xf ho ?_<|λr hr=>hr.elim
 rintro⟨La,Re,ii⟩⟨h1,h2⟩;dsimp only at h1 h2 ⊢;subst h1;subst h2;rw[dQ];have hpf:=λp hp=>tI b (p:=p) hp;generalize hpcs:bP 0 cI=pcs at *;refine WO (Xv (n:=a.aN.length) (λst=>st.2) (λi st=>st.1=cU (a.aN.take i) pcs) (Go:=λst=>st.1=cU a.aN pcs) (Rt:=λ_=>False) ?_ ?_ (cP _) rfl rfl (by omega)) ?_
 ·rintro i⟨T,ii⟩hi e hT;dsimp only at e hT ⊢;subst e;subst hT;rw[iO hi,aP];have hx:a.aN[i]? =some a.aN[i]:=aM hi;have hg:=b.zQ.gb.ok _<|cH hi
  have hsq:=RD hg.1 hg.2;have hplain:¬a.aN[i].fJ=true->ry (i9 a.aN[i]) pcs pcs.length= []:=λhp=>by
   unfold ry;rw[List.filter_eq_nil_iff];intro j _;rw[ot,Option.any_eq_false];intro p _;unfold i9;rw[ot]at hp;rw[hp];rfl
  refine WO (X2 (Go:=λst=>st.1=ints (ry (i9 a.aN[i]) pcs pcs.length)) (Rt:=λ_=>False) (λst=>∃j:Nat,st.2=((j:Nat):Int)/\j<=pcs.length/\st.1=ints (ry (i9 a.aN[i]) pcs j)) (λst=>pcs.length - st.2.toNat) ?_ ⟨0,rfl,cP _,rfl⟩ (by simp;omega)) ?_
  ·rintro⟨ow,jj⟩⟨j,e,hj,ho⟩;dsimp only at e ho ⊢;subst e;subst ho
   by_cases hlt:j<pcs.length
   ·rw[iO hlt,aP,cB hx,aB,aB];refine Xn (λhpl=>?_)<|λhpl=>Xd ?_
    ·have hpx:pcs[j]? =some pcs[j]:=aM hlt;have hlx:(pcs.map aD.cM)[j]? =some pcs[j].cM:=by rw[iE,hpx];rfl
     have hrx:(pcs.map aD.dY)[j]? =some pcs[j].dY:=by rw[iE,hpx];rfl
     obtain⟨f1,f2,_⟩:=hpf _<|cH hlt
     have hil:=DE (i9 a.aN[i]) pcs j;have hcond:((some a.aN[i]).bind λx932=>(idx (pcs.map aD.cM) ((j:Nat):Int)).bind λx935=>(gk N x932 x935).bind λx936=>bif x936 then((idx (pcs.map aD.dY) ((j:Nat):Int)).bind λx938=>(some a.aN[i]).bind λx941=>(cV N x941).bind λx944=>(kl N x938 x944).bind λx946=>some x946)else some false)=some (i9 a.aN[i] pcs[j]):=by
      rw[aB,cB hlx,aB,yn,aB,cB hrx,aB,aB,qB hg.1,aB,QA (by omega) (λq hq=>IG (f2 q hq).1 (f2 q hq).2.1 (f2 q hq).2.2) hsq hN,aB];unfold i9;rw[hpl,Bool.true_and]
      cases m7 a.aN[i] pcs[j].cM <;> rfl
     refine IT hcond ?_;refine WO (P:=λst:Z Int=>st=ints (ry (i9 a.aN[i]) pcs<|j+1)) (Xn (λhb=>?_)<|λhb=>IS ?_)<|λst hst=>W8 ⟨⟨j+1,bF (by omega),hlt,hst⟩,?_⟩
     ·refine XC (by rw[my];simp only[eN,List.length_nil];omega)<|IS ?_
      rw[BQ hpx,aF hb,tH];rfl
     ·rw[BQ hpx,aH (by rw[ot];exact hb)]
     ·dsimp only;rw[bF (by omega)];simp only[cK];omega
    ·have hn:=hplain (by rw[hpl];exact jS);have hj0:ry (i9 a.aN[i]) pcs j= []:=by
      unfold ry;rw[List.filter_eq_nil_iff];intro j' hj';rw[ot,Option.any_eq_false];intro p _;unfold i9;rw[hpl];rfl
     dsimp only;rw[hn,hj0]
   ·have:j=pcs.length:=by omega
    subst this;rw[l4,aR,aB,aR];exact Xd rfl
  intro o ho;refine Xf ho ?_<|λr hr=>hr.elim
  rintro⟨ow,jj⟩ho2;dsimp only at ho2 ⊢;subst ho2;refine XC ?_<|W8 ⟨bF (by omega),?_⟩
  ·unfold cU;rw[dQ,dE];simp only[eN,List.length_nil];omega
  ·dsimp only;unfold cU;rw[dM hi,fH];rfl
 ·rintro⟨T,ii⟩e hT;dsimp only at e hT ⊢;subst e;rw[l4,aR];exact Xd (by rw[eD]at hT;exact hT)
 intro o ho;refine Xf ho ?_<|λr hr=>hr.elim
 rintro⟨T,ii⟩hT;dsimp only at hT ⊢;subst hT;have hcon:=b.AQ;rw[hpcs]at hcon;have hnb:=λl=>MX b l;rw[hpcs]at hnb;refine IT (NO (r:=r) b.zQ.gb (by omega) (by omega) (λp hp=>⟨by have:=(hpf p hp).1;omega,λx hx=>((hpf p hp).2.1 x hx).2.1⟩) hnb hcon.conn hN)<|IS ?_
 rw[<-hcon.gs]
end
section
variable {bs:Z bU}{ls:Z cX}{pcs:Z aD}{r:Nat->Nat}{gs:Z bZ}{ofP ofB eY:Z Int}{eT:Z dZ}
theorem LZ(hc:yh bs ls pcs r gs ofP ofB eY eT){g:Nat}{x:bZ}(hg:gs[g]? =some x):
  ∃hd,(live bs pcs.length (pcs.length+bs.length) r<|bV (pcs.length+bs.length) r)[g]? =some hd/\x.fN=ints (gP pcs.length<|cls (pcs.length+bs.length) r hd)/\
   x.aN=ints (gB bs pcs.length<|cls (pcs.length+bs.length) r hd)/\x.fB=(ls.filter<|λl=>decide<|vN bs pcs r l=some g).map lj:=by
 rw[hc.gs,mA]at hg;obtain⟨y,hy,rfl⟩:=sW.1 hg;unfold m8 at hy;rw[iE]at hy;obtain⟨hd,h1,rfl⟩:=sW.1 hy;exact⟨hd,h1,rfl,rfl,rfl⟩
theorem IY(hc:yh bs ls pcs r gs ofP ofB eY eT):gs.length=(live bs pcs.length (pcs.length+bs.length) r<|bV (pcs.length+bs.length) r).length/\gs.length<=pcs.length+bs.length:=by
 have e:gs.length=(live bs pcs.length (pcs.length+bs.length) r<|bV (pcs.length+bs.length) r).length:=by
  rw[hc.gs,yg,vr]
 grind [si,bV,me]
theorem Ph(hc:yh bs ls pcs r gs ofP ofB eY eT){k:Nat}(hk:k<pcs.length):
  ∃g:Nat,ofP[k]? =some (g:Int)/\g<gs.length/\(live bs pcs.length (pcs.length+bs.length) r<|bV (pcs.length+bs.length) r)[g]? =some (r k):=by
 have hm:r k∈bV (pcs.length+bs.length) r:=iN.2 ⟨by have:=hc.conn.le k (by omega);omega,hc.conn.rr k (by omega)⟩;obtain⟨g1,g2⟩:=HM (bs:=bs) (n:=pcs.length) hm<|Kw hk (by omega)
 exact⟨_,hc.of.pc k hk hm,by grind [IY],g2⟩
theorem SA(hc:yh bs ls pcs r gs ofP ofB eY eT){g:Nat}{x:bZ}(hg:gs[g]? =some x)(k:Nat):
  (k:Int)∈x.fN↔k<pcs.length/\ofP[k]? =some (g:Int):=by
 obtain⟨hd,h1,h2,_⟩:=LZ hc hg;rw[h2,qz];constructor
 ·rintro⟨i,hi,e⟩;have:k=i:=by omega
  subst this;obtain⟨a1,a2,a3⟩:=DQ.1 hi;obtain⟨g',b1,b2,b3⟩:=Ph hc a1;have:=An (List.Nodup.sublist List.filter_sublist<|nb _ _) h1<|a3▸b3
  grind
 ·rintro⟨a1,a2⟩;obtain⟨g',b1,b2,b3⟩:=Ph hc a1;rw[a2]at b1;injection b1 with b1
  have:g=g':=by omega
  grind [DQ]
theorem QB(hc:yh bs ls pcs r gs ofP ofB eY eT){g:Nat}{x:bZ}(hg:gs[g]? =some x):∀c∈x.fN,∃k:Nat,c=(k:Int):=by
 grind [LZ,qz]
theorem QC(hc:yh bs ls pcs r gs ofP ofB eY eT){g:Nat}{x:bZ}(hg:gs[g]? =some x):x.fN.length<=pcs.length+bs.length/\x.aN.length<=pcs.length+bs.length/\x.fB.length<=ls.length:=by
 obtain⟨hd,h1,h2,h3,h4⟩:=LZ hc hg;have a1:=II pcs.length<|cls (pcs.length+bs.length) r hd
 grind [IJ,cls,CL,my,dQ,ln,decide,vN]
end
section
variable {N:Nat}{a:gM}{kb:Z (Z aA)}{cI:Z (Z (Z aA))}{r:Nat->Nat}{gs:Z bZ}{ofP ofB eY:Z Int}{eT:Z dZ}
theorem QD(x:cX)(p:eG):lj x=p↔x.Part=p.Part/\x.eG=p.eG:=by
 cases p;unfold lj;rw[eG.mk.injEq]
theorem xw(g:xv a)(p:eG)(hN:ns N):fW N a p=some (jf a p):=by
 obtain⟨r,h1,h2⟩:=KN (N:=N) (p:=p) g.up (by have:=g.yU;omega) (by omega) (φ:=kh N) (λx=>by unfold kh;rw[DB,aB,qK,aB]);unfold fW;have e:gX N a.bO p (kh N)=OK N a.bO p (kh N):=rfl;rw[e,h1,aB];exact h2
end
theorem EF.uniq{n m:Nat}{tch:Z (Z Int)}{r1 r2:Nat->Nat}(h1:EF n m tch r1)(h2:EF n m tch r2){i j:Nat}(hi:i<n+m)(hj:j<n+m):r1 i=r1 j↔r2 i=r2 j:=by
 have key:∀{r1 r2:Nat->Nat},EF n m tch r1->EF n m tch r2->r1 i=r1 j->r2 i=r2 j:=λ{r1 r2}h1 h2 e=>
  (h1.fi (λx=>r2 i=r2 x) (λa b hab=>by rw[h2.co a b hab]) i j hi hj e) rfl
 grind
section
variable {N:Nat}{a:gM}{kb:Z (Z aA)}{cI:Z (Z (Z aA))}{r:Nat->Nat}{gs:Z bZ}{ofP ofB eY:Z Int}{eT:Z dZ}
theorem SB(x y:Int)(u:Z Int):ki N x y [] u=fV N u x y:=by
 show(((fV N u x y).bind λx38=>some x38).bind λs36=>some s36)=_;simp
theorem IZ{bs:Z bU}{pcs:Z aD}{l:cX}{h:dZ}(hh:rF bs pcs l=some h)(hn:pcs.length+bs.length<=1000000000):
  ju N h (pcs.length:Int)=some ((eB pcs.length h:Nat):Int)/\eB pcs.length h<pcs.length+bs.length:=by
 obtain⟨k,e,h1,h2⟩:=(DF hh).num
 grind [ju,eB,cK,wrap_add]
structure QE (bs:Z bU) (pcs:Z aD) (ls:Z cX) (r2:Nat->Nat) (j:Nat) (up:Z Int) (fm:Z (Int×Int)) (out:Z Int):Prop where
 uf:UF (pcs.length+bs.length) up r2
 len:out.length=ls.length
 no:∀i l,i<j->ls[i]? =some l->rF bs pcs l=none->out[i]? =some (-1)
 yes:∀i l h,i<j->ls[i]? =some l->rF bs pcs l=some h->mC fm ((r2 (eB pcs.length h):Nat):Int)=true/\out[i]? =some (fU fm ((r2 (eB pcs.length h):Nat):Int) 0)
 low:∀x,mC fm x=true->∃v:Nat,fU fm x 0=(v:Int)/\v<j
 inj:∀x y,mC fm x=true->mC fm y=true->fU fm x 0=fU fm y 0->x=y
theorem L0{bs:Z bU}{pcs:Z aD}{ls:Z cX}(hn:pcs.length+bs.length<=1000000000)(hp:pcs.length<=1073741824)(hbl:bs.length<=1073741824)(hl:ls.length<=1073741824)(hof:eY=ls.map (G9 bs pcs r))(hat:eT=ls.map (λl=>(rF bs pcs l).getD ⟨false,0⟩))(hN:ns N):
  ∃r2 c up fm,fD N bs ls pcs (cU bs pcs) eY eT []=some c/\EF pcs.length bs.length (cU bs pcs) r2/\QE bs pcs ls r2 ls.length up fm c:=by
 suffices h:Ok (fD N bs ls pcs (cU bs pcs) eY eT []) (λc=>∃r2 up fm,EF pcs.length bs.length (cU bs pcs) r2/\QE bs pcs ls r2 ls.length up fm c)by
  obtain⟨c,h1,r2,up,fm,h2,h3⟩:=h
  grind
 unfold fD;refine IT (x:=[]) rfl ?_;rw[wrap_add (by omega)];obtain⟨up0,u1,u2⟩:=zH (N:=N) (n:=pcs.length+bs.length) (by omega);refine IT u1 ?_;simp only[SB];refine WO (HK (n:=pcs.length) (m:=bs.length) (by simp[cU]) (zO (by omega)) (by omega) (by omega) u2 hN) ?_;rintro up1⟨r2,v1,v2⟩;refine IT (x:=up1) rfl<|IT (oC 0 (by omega)) ?_
 have rG:eT.length=ls.length:=by rw[hat,dQ]
 refine WO (XM (λj(st:Z Int×Z (Int×Int)×Z Int)=>QE bs pcs ls r2 j st.1 st.2.1 st.2.2) (by omega) ⟨v1,by simp,λi l h=>by omega,λi l h h1=>by omega,λx hx=>(by cases hx),λx y hx=>(by cases hx)⟩ ?_)<|λst I=>IS ⟨r2,st.1,st.2.1,v2,by grind⟩
 rintro j⟨up,fm,out⟩hj I;rw[rG]at hj;dsimp only at I ⊢;have hx:ls[j]? =some ls[j]:=aM hj;have h1:eT[j]? =some ((rF bs pcs ls[j]).getD ⟨false,0⟩):=by grind
 have h2:eY[j]? =some (G9 bs pcs r ls[j]):=by grind
 have h3:out[j]? =some (out[j]'(by rw[I.len];exact hj)):=aM _;have hjo:j<out.length:=by grind
 refine WV h1 ?_
 cases hh:rF bs pcs ls[j]with
 |none=>
  have e1:G9 bs pcs r ls[j] = -1:=by grind [G9,vN]
  refine IT (x:=0) rfl<|IT (x:=true) (by grind [cB,aB]) ?_
  refine WV h3<|IS ?_
  dsimp only;rw[cK];refine⟨I.uf,by rw[ig];exact I.len,λi l hi hil hn=>?_,λi l h hi hil hs=>?_,λx hx=>?_,I.inj⟩
  ·by_cases e:i=j
   ·grind
   ·rw[List.getElem?_set_ne<|Ne.symm e];exact I.no i l (by omega) hil hn
  ·by_cases e:i=j
   ·grind
   ·rw[List.getElem?_set_ne<|Ne.symm e];exact I.yes i l h (by omega) hil hs
  ·obtain⟨v,q1,q2⟩:=I.low x hx;grind
 |some h=>
  obtain⟨c1,c2⟩:=IZ (N:=N) hh hn;have e1:∃g:Nat,G9 bs pcs r ls[j]=(g:Int):=by grind [G9,vN]
  obtain⟨g,e1⟩:=e1;refine IT c1<|IT (x:=false) (by rw[cB h2,aB,e1,cA (show ¬(g:Int)<0 by omega),aR];rfl) ?_
  rw[aR];obtain⟨up2,t1,t2⟩:=tT (N:=N) I.uf c2 (by omega);refine IT t1 ?_;dsimp only;have fin:∀(up3:Z Int)(fm2:Z (Int×Int)),UF (pcs.length+bs.length) up3 r2->(∀x,mC fm x=true->mC fm2 x=true/\fU fm2 x 0=fU fm x 0)->mC fm2 ((r2 (eB pcs.length h):Nat):Int)=true->(∀x,mC fm2 x=true->∃v:Nat,fU fm2 x 0=(v:Int)/\v<j+1)->(∀x y,mC fm2 x=true->mC fm2 y=true->fU fm2 x 0=fU fm2 y 0->x=y)->
    QE bs pcs ls r2 (j+1) up3 fm2 (out.set j<|fU fm2 ((r2 (eB pcs.length h):Nat):Int) 0):=λup3 fm2 g1 g2 g3 g4 g5=>by
   refine⟨g1,by rw[ig];exact I.len,λi l hi hil hn=>?_,λi l h' hi hil hs=>?_,g4,g5⟩
   ·by_cases e:i=j
    ·subst e;rw[hx]at hil;injection hil with hil;subst hil;rw[hh]at hn;cases hn
    ·rw[List.getElem?_set_ne<|Ne.symm e];exact I.no i l (by omega) hil hn
   ·by_cases e:i=j
    ·subst e;rw[hx]at hil;injection hil with hil;subst hil;rw[hh]at hs;injection hs with hs;subst hs
     exact⟨g3,by grind⟩
    ·obtain⟨q1,q2⟩:=I.yes i l h' (by omega) hil hs;rw[List.getElem?_set_ne<|Ne.symm e,q2,(g2 _ q1).2];exact⟨(g2 _ q1).1,rfl⟩
  cases hm:mC fm ((r2 (eB pcs.length h):Nat):Int)with
  |true=>
   rw[lq,aR];obtain⟨up3,t3,t4⟩:=tT (N:=N) t2 c2 (by omega);refine IT (x:=(up2,fm)) rfl<|IT t3<|WV h3<|IS ?_
   dsimp only;rw[cK];exact fin up3 fm t4 (λx hx=>⟨hx,rfl⟩) hm (λx hx=>by obtain⟨v,q1,q2⟩:=I.low x hx;exact⟨v,q1,by omega⟩) I.inj
  |false=>
   rw[ka,aP];obtain⟨up3,t3,t4⟩:=tT (N:=N) t2 c2 (by omega);obtain⟨up4,t5,t6⟩:=tT (N:=N) t4 c2 (by omega);refine IT (x:=(up3,tj fm ((r2 (eB pcs.length h):Nat):Int) (j:Int))) (by rw[t3,aB])<|IT t5<|WV h3<|IS ?_
   dsimp only;rw[cK];refine fin up4 _ t6 (λx hx=>?_) (by rw[pO];simp) (λx hx=>?_)<|λx y hx hy e=>?_
   ·have hne:x≠((r2 (eB pcs.length h):Nat):Int):=λe=>by rw[e,hm]at hx;cases hx
    rw[pO,md,aH hne,hx];exact⟨by simp,rfl⟩
   ·rw[md]
    by_cases e:x=((r2 (eB pcs.length h):Nat):Int)
    ·rw[aF e];exact⟨j,rfl,by omega⟩
    ·rw[aH e];rw[pO,cA e,Bool.false_or]at hx;obtain⟨v,q1,q2⟩:=I.low x hx;exact⟨v,q1,by omega⟩
   ·rw[md,md]at e;rw[pO]at hx hy
    by_cases ex:x=((r2 (eB pcs.length h):Nat):Int)
    ·by_cases ey:y=((r2 (eB pcs.length h):Nat):Int)
     ·rw[ex,ey]
     ·rw[aF ex,aH ey]at e;rw[cA ey,Bool.false_or]at hy;obtain⟨v,q1,q2⟩:=I.low y hy;omega
    ·rw[cA ex,Bool.false_or]at hx
     by_cases ey:y=((r2 (eB pcs.length h):Nat):Int)
     ·rw[aH ex,aF ey]at e;obtain⟨v,q1,q2⟩:=I.low x hx;omega
     ·rw[aH ex,aH ey]at e;rw[cA ey,Bool.false_or]at hy;exact I.inj x y hx hy e
theorem QF(b:iB a kb cI r gs ofP ofB eY eT){x y:cX}{h h':dZ}(hx:rF a.aN (bP 0 cI) x=some h)(hy:rF a.aN (bP 0 cI) y=some h'):(vN a.aN (bP 0 cI) r x=vN a.aN (bP 0 cI) r y)↔r (eB (bP 0 cI).length h)=r (eB (bP 0 cI).length h'):=by
 have gp:∀{z:cX}{h:dZ},rF a.aN (bP 0 cI) z=some h->(live a.aN (bP 0 cI).length ((bP 0 cI).length+a.aN.length) r<|bV ((bP 0 cI).length+a.aN.length) r)[gi a.aN (bP 0 cI).length ((bP 0 cI).length+a.aN.length) r<|r<|eB (bP 0 cI).length h]? =some (r<|eB (bP 0 cI).length h):=by
  intro z h hz;obtain⟨k,e,g1,g2⟩:=(DF hz).num;have hle:=b.AQ.conn.le;have hrr:=b.AQ.conn.rr;have hd:∀i,i<(bP 0 cI).length+a.aN.length->r i∈bV ((bP 0 cI).length+a.aN.length) r:=λi hi=>ll.2 ⟨kx.2 (by grind),by grind⟩;unfold eB
  cases hB:h.bU with
  |true=>
   grind [cK,HM,Kx]
  |false=>
   have k1:=g2 hB;rw[aH jS,e,cK]
   grind [HM,Kw]
 unfold vN
 grind
theorem I0(b:iB a kb cI r gs ofP ofB eY eT)(h1:jt N a=some (some (a.aL,a.cQ,a.aN,a.bO,kb,bP 0 cI,cU a.aN<|bP 0 cI,gs,ofP,ofB,eY,eT),0)){p q:eG}{i k:Nat}{x y:cX}(ep:jf a p=(i:Int))(hx:a.bO[i]? =some x)(eq:jf a q=(k:Int))(hy:a.bO[k]? =some y)(hN:ns N):
  kZ N a [] p q=some ((vN a.aN (bP 0 cI) r x).isSome&&decide (vN a.aN (bP 0 cI) r x=vN a.aN (bP 0 cI) r y),0):=by
 have hf:=b.yU.2;have hbl:=b.zQ.gb.len;have hlf:=b.vt.yU;obtain⟨r2,c,up,fm,c1,c2,c3⟩:=L0 (N:=N) (r:=r) (eY:=eY) (eT:=eT) (bs:=a.aN) (pcs:=bP 0 cI) (ls:=a.bO) (by omega) (by omega) (by omega) (by omega) b.AQ.eY b.AQ.eT hN;have hil:=(bR.1 hx).1;have hkl:=(bR.1 hy).1;unfold kZ;rw[h1,aB,xw b.vt p hN,xw b.vt q hN];simp only[Hi,bne_self_eq_false,aR,aB];have hz:∀(p0:Z (Z aG))(p1:Z aG)(p2:Z bU)(p3:Z cX)(p4:Z (Z aA))(p5:Z aD)(p6:Z (Z Int))(p7:Z bZ)(p8 p9 p10:Z Int)(p11:Z dZ),pH N p0 p1 p2 p3 p4 p5 p6 p7 p8 p9 p10 p11 []=some 0:=λ_ _ _ _ _ _ _ _ _ _ _ _=>rfl;rw[hz,aB,bne_self_eq_false,aR,ep,eq,cA (show ¬(i:Int)<0 by omega),cA (show ¬(k:Int)<0 by omega),Bool.or_false,aR,c1,aB]
 cases hhx:rF a.aN (bP 0 cI) x with
 |none=>
  have e1:vN a.aN (bP 0 cI) r x=none:=by grind [vN]
  rw[cB<|c3.no i x hil hx hhx,aB,e1];rfl
 |some h=>
  obtain⟨q1,q2⟩:=c3.yes i x h hil hx hhx;obtain⟨v,v1,_⟩:=c3.low _ q1;have e1:(vN a.aN (bP 0 cI) r x).isSome=true:=by grind [vN]
  rw[cB q2,aB,v1,bS (show(v:Int)>=0 by omega),aP,aB,e1,Bool.true_and]
  cases hhy:rF a.aN (bP 0 cI) y with
  |none=>
   have e2:vN a.aN (bP 0 cI) r y=none:=by grind [vN]
   rw[cB<|c3.no k y hkl hy hhy,aB,aB,cA (λe=>by grind),show((v:Int)== -1)=false from by rfl]
  |some h'=>
   obtain⟨s1,s2⟩:=c3.yes k y h' hkl hy hhy;obtain⟨w,w1,_⟩:=c3.low _ s1;rw[cB s2,aB,w1,aB];have t1:=(IZ (N:=N) hhx (by omega)).2;have t2:=(IZ (N:=N) hhy (by omega)).2;have key:((v:Int)=(w:Int))↔vN a.aN (bP 0 cI) r x=vN a.aN (bP 0 cI) r y:=by
    rw[QF b hhx hhy,EF.uniq b.AQ.conn c2 t1 t2];constructor
    ·intro e;have:=c3.inj _ _ q1 s1 (by omega);omega
    grind
   grind
end
def BT:gM:=⟨[[⟨0,0,1,1⟩]],[],[],[⟨⟨[97]⟩,⟨[49]⟩,0,⟨0,0⟩⟩]⟩
def SC:eG:=⟨⟨[97]⟩,⟨[49]⟩⟩
def yA:aA:=⟨0,1,[0,1]⟩
theorem QG:vm [⟨0,0,1,1⟩] [yA]where
 can:=⟨λb hb=>by
  grind [cR,yA,decide,kC],List.pairwise_singleton _ _⟩
 cover:=λx y=>by
  show sq (if(0:Int)<=y/\y<1 then [0,1]else []) x=((decide ((0:Int)<=x)&&decide (x<1))&&(decide ((0:Int)<=y)&&decide (y<1))||false)
  by_cases h:(0:Int)<=y/\y<1
  ·rw[aF h,bS h.1,bS h.2];unfold sq;rw[sd,sd,Iw]
   by_cases h0:(0:Int)<=x
   ·by_cases h1:(1:Int)<=x
    ·rw[aF h0,aF h1,cA (show ¬x<1 by omega)];simp
    ·rw[aF h0,aH h1,bS h0,bS (show x<1 by omega)];rfl
   ·rw[aH h0,aH (show ¬(1:Int)<=x by omega),cA h0];rfl
  ·rw[aH h];have:(decide ((0:Int)<=y)&&decide (y<1))=false:=by
    rw[Bool.eq_false_iff];intro h';rw[dB,dF,dF]at h';exact h h'
   rw[this,Bool.and_false];rfl
 FQ:=λb hb=>by
  have e:b=cR yA:=by simpa using hb
  subst e;exact⟨by decide,by decide,by decide⟩
theorem Wf:vm [] []:=⟨fY.nil,λ_ _=>rfl,λb hb=>by cases hb⟩
theorem Wg:kp [⟨0,0,1,1⟩]=0:=tG.2 ⟨by decide,λk a b h1 h2=>(by grind),⟨_,QG,rfl⟩⟩
theorem Wh:kp []=0:=tG.2 ⟨by decide,λk a b h1 h2=>(by simp at h2),⟨_,Wf,rfl⟩⟩
theorem SD:xn BT:=⟨by decide,by decide,by decide,by decide,by decide,by
 intro x hx
 grind [BT,decide]⟩
theorem SE:lk BT=0:=by
 have e1:BT.aL.findSome? zP=none:=by
  show [[(⟨0,0,1,1⟩:aG)]].findSome? zP=none;simp[zP,Wg]
 have e2:j6 BT=0:=by decide
 have e3:nS BT=0:=by
  rfl
 grind [t9,BT,lk,decide,ND,kp,IL,Wh]
theorem US{kb:Z (Z aA)}{cI:Z (Z<|Z aA)}(D:zN BT.aL BT.aN BT.aL.length kb cI):kb= [[yA]]/\cI= [[[yA]]]:=by
 obtain⟨s,rfl⟩:=List.length_eq_one_iff.1 D.len;obtain⟨ps,rfl⟩:=List.length_eq_one_iff.1 D.DD;have hd:=D.dr 0 [⟨0,0,1,1⟩] s (by decide) rfl rfl;have hs:s= [yA]:=Kq hd.can QG.can λx y=>by
  rw[hd.cover,QG.cover];show(_&& !vW [] x y)=_;simp[vW]
 subst hs;obtain⟨u,hu⟩:=D.pt 0 [yA] ps (by decide) rfl rfl;have u0:u 0=0:=Nat.le_zero.1<|hu.join.le 0 (by decide)
 have hh:bV (bA [yA]).length u= [0]:=by
  show(List.range 1).filter (λk=>decide<|u k=k)= [0]
  grind
 obtain⟨p,rfl⟩:=List.length_eq_one_iff.1 (show ps.length=1 by rw[hu.len,hh];rfl);have hp:=hu.each 0 0 p (by rw[hh];rfl) rfl;have hc:pj (bA [yA]) (bA [yA]).length u 0= [⟨0,0,1,1⟩]:=by
  show((List.range 1).filter<|λi=>decide<|u i=0).filterMap (λi=>(bA [yA])[i]?)=_;simp[List.range_succ,u0];rfl
 rw[hc]at hp;exact⟨rfl,by rw[hp.unique QG]⟩
section
variable {N:Nat}
theorem QH(hN:ns N):kI N=some true:=by
 have key:kZ N BT [] SC SC=some (true,0):=by
  obtain⟨x,hx,hI⟩:=DH (N:=N) SD hN
  rcases hI with⟨he,_⟩|⟨_,hg,hcl,kb,cI,D,⟨hf,_⟩|⟨hf,r,gs,ofP,ofB,eY,eT,hC,rfl⟩⟩
  ·grind [SE]
  ·obtain⟨rfl,rfl⟩:=US D;exact absurd ⟨by decide,by decide⟩ hf
  ·have b:iB BT kb cI r gs ofP ofB eY eT:=⟨hg,hcl,D,hf,hC⟩;have e:jf BT SC=((0:Nat):Int):=by
    rfl
   have hl:BT.bO[0]? =some ⟨⟨[97]⟩,⟨[49]⟩,0,⟨0,0⟩⟩:=rfl;rw[I0 b hx e hl e hl hN];obtain⟨rfl,rfl⟩:=US D;have hh:rF BT.aN (bP 0 [[[yA]]]) ⟨⟨[97]⟩,⟨[49]⟩,0,⟨0,0⟩⟩=some ⟨false,0⟩:=by decide
   grind [vN]
 unfold kI;have e:kZ N (⟨([([(⟨0,0,1,1⟩:aG)]:Z aG)]:Z (Z aG)),([]:Z aG),([]:Z bU),([(⟨⟨[97]⟩,⟨[49]⟩,0,⟨0,0⟩⟩:cX)]:Z cX)⟩:gM) ([]:Z bL) (⟨⟨[97]⟩,⟨[49]⟩⟩:eG) (⟨⟨[97]⟩,⟨[49]⟩⟩:eG)=some (true,0):=key
 grind
end
def mB(n:Nat)(fl:Z bL)(v:Nat):Prop:=∃x∈fl,x.Open=true/\eB n x.dZ=v
structure SF (bs:Z bU) (n m:Nat) (fl:Z bL):Prop where
 op:∀x∈fl,x.Open=true->F9 bs n m x.dZ
 br:∀x∈fl,x.Open=false->∃i k:Nat,x.A=(i:Int)/\x.B=(k:Int)/\i<k/\k<n
def Jb(n:Nat)(tch:Z (Z Int))(fl:Z bL)(i j:Nat):Prop:=Lk n tch i j\/∃x∈fl,x.Open=false/\x.A=(i:Int)/\x.B=(j:Int)
def QI(n:Nat)(tch:Z (Z Int))(fl:Z bL)(i j:Nat):Prop:=Jb n tch fl i j/\¬mB n fl i/\¬mB n fl j
structure Bb (t:Nat) (L:Nat->Nat->Prop) (r:Nat->Nat):Prop where
 le:∀i,i<t->r i<=i
 rr:∀i,i<t->r (r i)=r i
 co:∀i j,L i j->r i=r j
 fi:∀S:Nat->Prop,(∀i j,L i j->(S i↔S j))->∀i j,i<t->j<t->r i=r j->S i->S j
theorem Bb.uniq{t:Nat}{L:Nat->Nat->Prop}{r1 r2:Nat->Nat}(h1:Bb t L r1)(h2:Bb t L r2){i j:Nat}(hi:i<t)(hj:j<t):r1 i=r1 j↔r2 i=r2 j:=by
 have key:∀{r1 r2:Nat->Nat},Bb t L r1->Bb t L r2->r1 i=r1 j->r2 i=r2 j:=λ{r1 r2}h1 h2 e=>
  (h1.fi (λx=>r2 i=r2 x) (λa b hab=>by rw[h2.co a b hab]) i j hi hj e) rfl
 grind
noncomputable def lT(bs:Z bU)(pcs:Z aD)(fl:Z bL)(l:cX):aT Nat:=(rF bs pcs l).bind λh=>if mB pcs.length fl (eB pcs.length h)then none else some (eB pcs.length h)
section
variable {N:Nat}{r:Nat->Nat}{eY:Z Int}{eT:Z dZ}
theorem SG{bs:Z bU}{n m:Nat}{h:dZ}(hh:F9 bs n m h)(hn:n+m<=1000000000):ju N h (n:Int)=some ((eB n h:Nat):Int)/\eB n h<n+m:=by
 obtain⟨k,e,h1,h2⟩:=hh.num
 grind [ju,eB,cK,wrap_add]
def PM(t:Nat)(L:Nat->Nat->Prop)(op:Nat->Prop)(done:Nat->Nat->Prop)(u:Z Int):Prop:=
 ∃r E,UF t u r/\oq r E/\yT t r E/\(∀p∈E,L p.1 p.2/\¬op p.1/\¬op p.2)/\∀i j,done i j->¬op i->¬op j->(i,j)∈E
theorem PM.mono{t:Nat}{L:Nat->Nat->Prop}{op:Nat->Prop}{d d':Nat->Nat->Prop}{u:Z Int}(h:PM t L op d u)(hd:∀i j,d' i j->d i j):PM t L op d' u:=by
 obtain⟨r,E,h1,h2,h3,h4,h5⟩:=h;exact⟨r,E,h1,h2,h3,h4,λi j hij=>h5 i j<|hd i j hij⟩
theorem Pj{t:Nat}{L:Nat->Nat->Prop}{op:Nat->Prop}{done:Nat->Nat->Prop}{u:Z Int}{om:Z (Int×Bool)}(hom:∀v:Nat,fU om (v:Int) false=true↔op v)(hI:PM t L op done u){i k:Nat}(hi:i<t)(hk:k<t)(ht:t<N)(hL:L i k):
  Ok (ki N (i:Int) (k:Int) om u) (PM t L op<|λa b=>done a b\/(a=i/\b=k)):=by
 obtain⟨r,E,h1,h2,h3,h4,h5⟩:=hI
 have skip:op i\/op k->PM t L op (λa b=>done a b\/(a=i/\b=k)) u:=λho=>⟨r,E,h1,h2,h3,h4,λa b hab ha hb=>by
  grind⟩
 unfold ki
 by_cases ho:op i
 ·grind [IT,IS]
 ·have e1:fU om (i:Int) false=false:=by grind
  by_cases hp:op k
  ·grind [IT,IS]
  ·have e2:fU om (k:Int) false=false:=by grind
   refine IT (x:=true) (by grind) ?_;obtain⟨u2,a1,a2⟩:=MK (N:=N) h1 hi hk ht;rw[aP,a1];refine IS ⟨_,_,a2,h2.join i k<|h1.rr i hi,h3.join hi hk,λp hp'=>?_,λa b hab ha hb=>?_⟩
   ·grind
   grind
structure Ha (bs:Z bU) (pcs:Z aD) (fl:Z bL) (ls:Z cX) (r2:Nat->Nat) (j:Nat) (up:Z Int) (fm:Z (Int×Int)) (out:Z Int):Prop where
 uf:UF (pcs.length+bs.length) up r2
 len:out.length=ls.length
 no:∀i l,i<j->ls[i]? =some l->lT bs pcs fl l=none->out[i]? =some (-1)
 yes:∀i l v,i<j->ls[i]? =some l->lT bs pcs fl l=some v->mC fm ((r2 v:Nat):Int)=true/\out[i]? =some (fU fm ((r2 v:Nat):Int) 0)
 low:∀x,mC fm x=true->∃(v:Nat)(l:cX)(u:Nat),fU fm x 0=((v:Nat):Int)/\v<j/\ls[v]? =some l/\lT bs pcs fl l=some u/\((r2 u:Nat):Int)=x
 inj:∀x y,mC fm x=true->mC fm y=true->fU fm x 0=fU fm y 0->x=y
 le:∀(i v:Nat),out[i]? =some ((v:Nat):Int)->v<=i
theorem KW{bs:Z bU}{pcs:Z aD}{ls:Z cX}{fl:Z bL}(hfl:SF bs pcs.length bs.length fl)(hfn:fl.length<=1073741824)(hn:pcs.length+bs.length<=1000000000)(hp:pcs.length<=1073741824)(hbl:bs.length<=1073741824)(hl:ls.length<=1073741824)(hof:eY=ls.map (G9 bs pcs r))(hat:eT=ls.map (λl=>(rF bs pcs l).getD ⟨false,0⟩))(hN:ns N):
  ∃r2 c up fm,fD N bs ls pcs (cU bs pcs) eY eT fl=some c/\Bb (pcs.length+bs.length) (QI pcs.length (cU bs pcs) fl) r2/\Ha bs pcs fl ls r2 ls.length up fm c:=by
 suffices h:Ok (fD N bs ls pcs (cU bs pcs) eY eT fl) (λc=>∃r2 up fm,Bb (pcs.length+bs.length) (QI pcs.length (cU bs pcs) fl) r2/\Ha bs pcs fl ls r2 ls.length up fm c)by
  obtain⟨c,h1,r2,up,fm,h2,h3⟩:=h
  grind
 unfold fD;refine WO (XM (λq om=>∀v:Nat,fU om ((v:Nat):Int) false=true↔mB pcs.length (fl.take q) v) (by omega) (λv=>⟨λh=>(by cases h),λ⟨x,hx,_⟩=>(by simp at hx)⟩)<|λq om hq hI=>?_) ?_
 ·have hx:fl[q]? =some fl[q]:=aM hq;have hts:=dM hq;refine WV hx ?_
  cases ho:fl[q].Open with
  |true=>
   obtain⟨c1,_⟩:=SG (N:=N) (hfl.op _ (cH hq) ho) hn;refine IT (x:=tj om ((eB pcs.length fl[q].dZ:Nat):Int) true) (by grind)<|IS λv=>?_
   rw[md,hts]
   by_cases e:((v:Nat):Int)=((eB pcs.length fl[q].dZ:Nat):Int)
   ·rw[aF e];exact⟨λ_=>⟨fl[q],List.mem_append_right _<|mg.2 rfl,ho,by omega⟩,λ_=>rfl⟩
   ·rw[aH e,hI v];constructor
    ·rintro⟨x,hx,h1,h2⟩;exact⟨x,List.mem_append_left _ hx,h1,h2⟩
    ·rintro⟨x,hx,h1,h2⟩
     rcases dJ.1 hx with hx|hx
     ·exact⟨x,hx,h1,h2⟩
     ·simp at hx;subst hx;exact absurd (by rw[h2]) e
  |false=>
   refine IT (x:=om) rfl<|IS λv=>?_
   rw[hI v,hts];constructor
   ·rintro⟨x,hx,h1,h2⟩;exact⟨x,List.mem_append_left _ hx,h1,h2⟩
   ·rintro⟨x,hx,h1,h2⟩
    rcases dJ.1 hx with hx|hx
    ·exact⟨x,hx,h1,h2⟩
    ·simp at hx;subst hx;rw[ho]at h1;cases h1
 intro om hom;rw[eD]at hom;rw[wrap_add (by omega)];obtain⟨up0,u1,u2⟩:=zH (N:=N) (n:=pcs.length+bs.length) (by omega);refine IT u1 ?_;have htl:(cU bs pcs).length=bs.length:=by unfold cU;simp
 have hto:=zO (bs:=bs) (pcs:=pcs) (by omega)
 refine WO (XM (λq u=>PM (pcs.length+bs.length) (Jb pcs.length (cU bs pcs) fl) (mB pcs.length fl) (λa b=>∃k l,k<q/\(cU bs pcs)[k]? =some l/\((a:Nat):Int)∈l/\b=pcs.length+k) u) (by omega)
  ⟨_,_,u2,oq.id,yT.id _,λp hp=>(by cases hp),λi j⟨k,l,hk,_⟩=>by omega⟩ (λq u hq hI=>?_)) ?_
 ·have hqx:(cU bs pcs)[q]? =some (cU bs pcs)[q]:=aM hq;obtain⟨hl1,hl2⟩:=hto _<|cH hq
  refine WV hqx ?_;rw[wrap_add (by omega)]
  refine WO (XM (λt u=>PM (pcs.length+bs.length) (Jb pcs.length (cU bs pcs) fl) (mB pcs.length fl) (λa b=>(∃k l,k<q/\(cU bs pcs)[k]? =some l/\((a:Nat):Int)∈l/\b=pcs.length+k)\/(((a:Nat):Int)∈(cU bs pcs)[q].take t/\b=pcs.length+q)) u) (by omega)
   (hI.mono λi j h=>by rcases h with h|⟨h,_⟩;exact h;simp at h) (λt u ht hJ=>?_)) (λu hJ=>IS (hJ.mono λi j⟨k,l,hk,h1,h2,h3⟩=>?_))
  ·have htx:(cU bs pcs)[q][t]? =some (cU bs pcs)[q][t]:=aM ht;obtain⟨i,hi,e⟩:=hl2 _<|cH ht
   refine WV htx ?_;rw[e];refine WO (Pj hom hJ (i:=i) (k:=pcs.length+q) (by omega) (by omega) (by omega)<|.inl ⟨q,_,hqx,by rw[<-e];exact cH ht,rfl⟩)<|λu2 hu2=>IS<|hu2.mono λa b h=>?_
   rw[dM ht]at h
   rcases h with h|⟨h,hb⟩
   ·exact .inl<|.inl h
   ·rcases dJ.1 h with h|h
    ·exact .inl<|.inr ⟨h,hb⟩
    ·rw[mg,e]at h;exact .inr ⟨by omega,hb⟩
  ·by_cases hkq:k<q
   ·exact .inl ⟨k,l,hkq,h1,h2,h3⟩
   ·have:k=q:=by omega
    subst this;rw[hqx]at h1;injection h1 with h1;subst h1
    exact .inr ⟨by rw[eD];exact h2,h3⟩
 intro u3 h3
 refine WO (XM (λq u=>PM (pcs.length+bs.length) (Jb pcs.length (cU bs pcs) fl) (mB pcs.length fl) (λa b=>Lk pcs.length (cU bs pcs) a b\/∃x∈fl.take q,x.Open=false/\x.A=((a:Nat):Int)/\x.B=((b:Nat):Int)) u) (by omega)
  (h3.mono λi j h=>by
   rcases h with⟨k,l,h1,h2,h3⟩|⟨x,hx,_⟩
   ·exact⟨k,l,(bR.1 h1).1,h1,h2,h3⟩
   ·simp at hx) (λq u hq hI=>?_)) ?_
 ·have hx:fl[q]? =some fl[q]:=aM hq;have hts:=dM hq;refine WV hx ?_
  cases ho:fl[q].Open with
  |true=>
   refine IT (x:=u) rfl<|IS<|hI.mono λa b h=>?_
   rw[hts]at h
   rcases h with h|⟨x,hx,h1,h2⟩
   ·exact .inl h
   ·rcases dJ.1 hx with hx|hx
    ·exact .inr ⟨x,hx,h1,h2⟩
    ·simp at hx;subst hx;rw[ho]at h1;cases h1
  |false=>
   obtain⟨i,k,e1,e2,e3,e4⟩:=hfl.br _ (cH hq) ho;rw[ka,aP,e1,e2];refine WO (P:=PM (pcs.length+bs.length) (Jb pcs.length (cU bs pcs) fl) (mB pcs.length fl)<|λa b=>(Lk pcs.length (cU bs pcs) a b\/∃x∈fl.take q,x.Open=false/\x.A=((a:Nat):Int)/\x.B=((b:Nat):Int))\/(a=i/\b=k)) (WO (Pj hom hI (i:=i) (k:=k) (by omega) (by omega) (by omega)<|.inr ⟨fl[q],cH hq,ho,e1,e2⟩)<|λu2 hu2=>IS hu2)<|λu2 hu2=>IS<|hu2.mono λa b h=>?_
   rw[hts]at h
   rcases h with h|⟨x,hx,h1,h2,h3⟩
   ·exact .inl<|.inl h
   ·rcases dJ.1 hx with hx|hx
    ·exact .inl<|.inr ⟨x,hx,h1,h2,h3⟩
    ·simp at hx;subst hx;rw[e1]at h2;rw[e2]at h3;exact .inr ⟨by omega,by omega⟩
 rintro up1⟨r2,E,v1,v2,v3,v4,v5⟩;rw[eD]at v5;have hC:Bb (pcs.length+bs.length) (QI pcs.length (cU bs pcs) fl) r2:=
  ⟨v1.le,v1.rr,λi j h=>v2 (i,j)<|v5 i j h.1 h.2.1 h.2.2,λS hS i j hi hj=>v3 S (λp hp=>hS p.1 p.2<|v4 p hp) i j hi hj⟩
 refine IT (oC 0 (by omega)) ?_;have rG:eT.length=ls.length:=by rw[hat,dQ]
 refine WO (XM (λj(st:Z Int×Z (Int×Int)×Z Int)=>Ha bs pcs fl ls r2 j st.1 st.2.1 st.2.2) (by omega) ⟨v1,by simp,λi l h=>by omega,λi l h h1=>by omega,λx hx=>(by cases hx),λx y hx=>(by cases hx),λi v hv=>by rw[List.getElem?_replicate]at hv;split at hv;injection hv with hv;omega;cases hv⟩ ?_)<|λst I=>IS ⟨r2,st.1,st.2.1,hC,by rw[<-rG];exact I⟩
 rintro j⟨up,fm,out⟩hj I;rw[rG]at hj;dsimp only at I ⊢;have hx:ls[j]? =some ls[j]:=aM hj;have h1:eT[j]? =some ((rF bs pcs ls[j]).getD ⟨false,0⟩):=by rw[hat,iE,hx];rfl
 have h2:eY[j]? =some (G9 bs pcs r ls[j]):=by rw[hof,iE,hx];rfl
 have h3:out[j]? =some (out[j]'(by rw[I.len];exact hj)):=aM _;have hjo:j<out.length:=by rw[I.len];exact hj
 have hx0:=hx;have dead:lT bs pcs fl ls[j]=none->Ha bs pcs fl ls r2 (j+1) up fm (out.set j<|-1):=λhnd=>by
  refine⟨I.uf,by rw[ig];exact I.len,λi l hi hil hn=>?_,λi l v hi hil hs=>?_,λx hx=>?_,I.inj,λi v hv=>?_⟩
  ·by_cases e:i=j
   ·subst e;rw[List.getElem?_set_self hjo]
   ·rw[List.getElem?_set_ne<|Ne.symm e];exact I.no i l (by omega) hil hn
  ·by_cases e:i=j
   ·subst e;rw[hx]at hil;injection hil with hil;subst hil;rw[hnd]at hs;cases hs
   ·rw[List.getElem?_set_ne<|Ne.symm e];exact I.yes i l v (by omega) hil hs
  ·obtain⟨v,l,u,q1,q2,q3⟩:=I.low x hx;exact⟨v,l,u,q1,by omega,q3⟩
  ·by_cases e:i=j
   ·subst e;rw[List.getElem?_set_self hjo]at hv;injection hv with hv;omega
   ·rw[List.getElem?_set_ne<|Ne.symm e]at hv;exact I.le i v hv
 refine WV h1 ?_
 cases hh:rF bs pcs ls[j]with
 |none=>
  have e1:G9 bs pcs r ls[j] = -1:=by unfold G9 vN;rw[hh];rfl
  refine IT (x:=0) rfl<|IT (x:=true) (by rw[cB h2,aB,e1];rfl) ?_
  refine WV h3<|IS ?_
  dsimp only;rw[cK];exact dead (by unfold lT;rw[hh];rfl)
 |some h=>
  obtain⟨c1,c2⟩:=IZ (N:=N) hh hn;have e1:∃g:Nat,G9 bs pcs r ls[j]=(g:Int):=by unfold G9 vN;rw[hh];exact⟨_,rfl⟩
  obtain⟨g,e1⟩:=e1;refine IT c1 ?_
  by_cases hop:mB pcs.length fl (eB pcs.length h)
  ·refine IT (x:=true) (by rw[cB h2,aB,e1,cA (show ¬(g:Int)<0 by omega),aR,(hom _).2 hop]) ?_;refine WV h3<|IS ?_
   dsimp only;rw[cK];exact dead (by unfold lT;rw[hh,Option.bind_some,aF hop])
  have hnd:lT bs pcs fl ls[j]=some (eB pcs.length h):=by unfold lT;rw[hh,Option.bind_some,aH hop]
  refine IT (x:=false) (by rw[cB h2,aB,e1,cA (show ¬(g:Int)<0 by omega),aR];rw[Bool.eq_false_iff.2 λh=>hop<|(hom _).1 h]) ?_;rw[aR];obtain⟨up2,t1,t2⟩:=tT (N:=N) I.uf c2 (by omega);refine IT t1 ?_;dsimp only;have fin:∀(up3:Z Int)(fm2:Z (Int×Int)),UF (pcs.length+bs.length) up3 r2->(∀x,mC fm x=true->mC fm2 x=true/\fU fm2 x 0=fU fm x 0)->mC fm2 ((r2 (eB pcs.length h):Nat):Int)=true->(∀x,mC fm2 x=true->∃(v:Nat)(l:cX)(u:Nat),fU fm2 x 0=((v:Nat):Int)/\v<j+1/\ls[v]? =some l/\lT bs pcs fl l=some u/\((r2 u:Nat):Int)=x)->(∀x y,mC fm2 x=true->mC fm2 y=true->fU fm2 x 0=fU fm2 y 0->x=y)->
    Ha bs pcs fl ls r2 (j+1) up3 fm2 (out.set j<|fU fm2 ((r2 (eB pcs.length h):Nat):Int) 0):=λup3 fm2 g1 g2 g3 g4 g5=>by
   refine⟨g1,by rw[ig];exact I.len,λi l hi hil hn=>?_,λi l h' hi hil hs=>?_,g4,g5,λi v hv=>?_⟩
   ·by_cases e:i=j
    ·subst e;rw[hx]at hil;injection hil with hil;subst hil;rw[hnd]at hn;cases hn
    ·rw[List.getElem?_set_ne<|Ne.symm e];exact I.no i l (by omega) hil hn
   ·by_cases e:i=j
    ·subst e;rw[hx]at hil;injection hil with hil;subst hil;rw[hnd]at hs;injection hs with hs;subst hs
     exact⟨g3,by rw[List.getElem?_set_self hjo]⟩
    ·obtain⟨q1,q2⟩:=I.yes i l h' (by omega) hil hs;rw[List.getElem?_set_ne<|Ne.symm e,q2,(g2 _ q1).2];exact⟨(g2 _ q1).1,rfl⟩
   ·by_cases e:i=j
    ·subst e;rw[List.getElem?_set_self hjo]at hv;injection hv with hv
     obtain⟨v',_,_,q1,q2,_⟩:=g4 _ g3;rw[q1]at hv;omega
    ·rw[List.getElem?_set_ne<|Ne.symm e]at hv;exact I.le i v hv
  cases hm:mC fm ((r2 (eB pcs.length h):Nat):Int)with
  |true=>
   rw[lq,aR];obtain⟨up3,t3,t4⟩:=tT (N:=N) t2 c2 (by omega);refine IT (x:=(up2,fm)) rfl<|IT t3<|WV h3<|IS ?_
   dsimp only;rw[cK];exact fin up3 fm t4 (λx hx=>⟨hx,rfl⟩) hm (λx hx=>by obtain⟨v,l,u,q1,q2,q3⟩:=I.low x hx;exact⟨v,l,u,q1,by omega,q3⟩) I.inj
  |false=>
   rw[ka,aP];obtain⟨up3,t3,t4⟩:=tT (N:=N) t2 c2 (by omega);obtain⟨up4,t5,t6⟩:=tT (N:=N) t4 c2 (by omega);refine IT (x:=(up3,tj fm ((r2 (eB pcs.length h):Nat):Int) ((j:Nat):Int))) (by rw[t3,aB])<|IT t5<|WV h3<|IS ?_
   dsimp only;rw[cK];refine fin up4 _ t6 (λx hx=>?_) (by rw[pO];simp) (λx hx=>?_)<|λx y hx hy e=>?_
   ·have hne:x≠((r2 (eB pcs.length h):Nat):Int):=λe=>by rw[e,hm]at hx;cases hx
    rw[pO,md,aH hne,hx];exact⟨by simp,rfl⟩
   ·rw[md]
    by_cases e:x=((r2 (eB pcs.length h):Nat):Int)
    ·rw[aF e];exact⟨j,ls[j],_,rfl,by omega,hx0,hnd,e.symm⟩
    ·rw[aH e];rw[pO,cA e,Bool.false_or]at hx;obtain⟨v,l,u,q1,q2,q3⟩:=I.low x hx;exact⟨v,l,u,q1,by omega,q3⟩
   ·rw[md,md]at e;rw[pO]at hx hy
    by_cases ex:x=((r2 (eB pcs.length h):Nat):Int)
    ·by_cases ey:y=((r2 (eB pcs.length h):Nat):Int)
     ·rw[ex,ey]
     ·rw[aF ex,aH ey]at e;rw[cA ey,Bool.false_or]at hy;obtain⟨v,_,_,q1,q2,_⟩:=I.low y hy;omega
    ·rw[cA ex,Bool.false_or]at hx
     by_cases ey:y=((r2 (eB pcs.length h):Nat):Int)
     ·rw[aH ex,aF ey]at e;obtain⟨v,_,_,q1,q2,_⟩:=I.low x hx;omega
     ·rw[aH ex,aH ey]at e;rw[cA ey,Bool.false_or]at hy;exact I.inj x y hx hy e
def RI(n:Nat)(k:Int):Bool:=decide (k>=0)&&decide (k<=(n:Int) - 1)
def BU(bs:Z bU)(n:Nat)(x:bL):Bool:=bif x.Open then(bif x.dZ.bU then RI bs.length x.dZ.Number&&sS bs x.dZ.Number.toNat else RI n x.dZ.Number)else RI n x.A&&RI n x.B
def RJ(x:bL):Bool:=bif x.Open then x.A != 0||x.B != 0 else !decide (x.dZ= ⟨false,0⟩)
def HW(bs:Z bU)(n:Nat)(fl:Z bL)(k:Nat):aT Int:=(fl[k]?).bind λx=>
 if RJ x=true then some 3 else if BU bs n x=false then some 9 else if(!x.Open&&decide (x.B<=x.A))=true then some 8 else if x∈fl.take k then some 7 else none
def pq(bs:Z bU)(n:Nat)(fl:Z bL):Int:=if 20<fl.length then 2 else(rY fl.length<|HW bs n fl).getD 0
theorem Ej{bs:Z bU}{n:Nat}{fl:Z bL}(h:pq bs n fl=0):fl.length<=20/\SF bs n bs.length fl:=by
 unfold pq at h;split at h
 ·cases h
 rename_i h20;have hn:∀k,k<fl.length->HW bs n fl k=none:=by
  cases hf:rY fl.length (HW bs n fl)with
  |none=>grind [km]
  |some e=>
   grind [kn,HW,aM]
 have hx:∀x∈fl,BU bs n x=true/\(x.Open=false->x.A<x.B):=λx hx=>by
  grind [List.mem_iff_getElem,HW,aM,ka]
 have inp:∀{n:Nat}{k:Int},RI n k=true->∃j:Nat,k=(j:Int)/\j<n:=λ{n k}h=>by
  unfold RI at h;rw[dB,dF,dF]at h;exact⟨k.toNat,by omega,by omega⟩
 refine⟨by omega,λx hm ho=>?_,λx hm ho=>?_⟩
 ·obtain⟨h1,_⟩:=hx x hm;unfold BU at h1;rw[ho,aP]at h1
  cases hB:x.dZ.bU with
  |true=>
   rw[hB,aP,dB]at h1;obtain⟨j,e,hj⟩:=inp h1.1;refine⟨j,e,λ_=>⟨hj,?_⟩,λh=>(by grind)⟩
   grind
  |false=>
   rw[hB,aR]at h1;obtain⟨j,e,hj⟩:=inp h1;exact⟨j,e,λh=>(by grind),λ_=>hj⟩
 grind [BU]
end
structure sT (c:Z Int):Prop where
 neg:∀(i:Nat)(x:Int),c[i]? =some x->x<0->x = -1
 own:∀(i v:Nat),c[i]? =some (v:Int)->c[v]? =some (v:Int)
def jg(c:Z Int)(i k:Nat):Bool:=decide (c.getD i (-1)>=0)&&c.getD i (-1)==c.getD k (-1)
def lA(c:Z Int)(i:Nat):Int:=if c.getD i (-1)<0 then(i:Int)else c.getD i (-1)
theorem L1{c:Z Int}(h:sT c){i k:Nat}(hi:i<c.length)(hk:k<c.length)(hne:i≠k):jg c i k=decide (lA c i=lA c k):=by
 have ei:c[i]? =some c[i]:=aM hi;have ek:c[k]? =some c[k]:=aM hk;unfold jg lA;rw[List.getD_eq_getElem?_getD,List.getD_eq_getElem?_getD,ei,ek,Option.getD_some,Option.getD_some];have own:∀{j:Nat}(hj:j<c.length),0<=c[j]->∃v:Nat,c[j]=(v:Int)/\c[v]? =some (v:Int):=λ{j}hj h0=>by
  refine⟨c[j].toNat,by omega,h.own j _ ?_⟩
  grind
 grind
theorem KX{c d:Z Int}(hc:sT c)(hd:sT d)(hl:c.length=d.length)(h:∀i,i<c.length->lA c i=lA d i){i k:Nat}(hi:i<c.length)(hk:k<c.length)(hne:i≠k):jg c i k=jg d i k:=by
 grind [L1]
section
variable {r:Nat->Nat}
theorem Ha.first{bs:Z bU}{pcs:Z aD}{fl:Z bL}{ls:Z cX}{r2:Nat->Nat}{up:Z Int}{fm:Z (Int×Int)}{c:Z Int}(h:Ha bs pcs fl ls r2 ls.length up fm c):sT c where
 neg:=λi x hx h0=>by
  have hi:=(bR.1 hx).1;rw[h.len]at hi;have hl:ls[i]? =some ls[i]:=aM hi
  cases hn:lT bs pcs fl ls[i]with
  |none=>have:=h.no i _ hi hl hn;rw[hx]at this;injection this
  |some u=>
   obtain⟨q1,q2⟩:=h.yes i _ u hi hl hn;obtain⟨v,_,_,q3,_⟩:=h.low _ q1;rw[hx,q3]at q2;injection q2 with q2;omega
 own:=λi v hx=>by
  have hi:=(bR.1 hx).1;rw[h.len]at hi;have hl:ls[i]? =some ls[i]:=aM hi
  cases hn:lT bs pcs fl ls[i]with
  |none=>have:=h.no i _ hi hl hn;rw[hx]at this;injection this with this;omega
  |some u=>
   obtain⟨q1,q2⟩:=h.yes i _ u hi hl hn;obtain⟨v',l',u',q3,q4,q5,q6,q7⟩:=h.low _ q1;have e:v=v':=by rw[hx,q3]at q2;injection q2 with q2;omega
   subst e;obtain⟨s1,s2⟩:=h.yes v l' u' q4 q5 q6;rw[q7,q3]at s2;exact s2
theorem Ha.conn{bs:Z bU}{pcs:Z aD}{fl:Z bL}{ls:Z cX}{r2:Nat->Nat}{up:Z Int}{fm:Z (Int×Int)}{c:Z Int}(h:Ha bs pcs fl ls r2 ls.length up fm c){i k:Nat}{x y:cX}(hx:ls[i]? =some x)(hy:ls[k]? =some y):
  jg c i k=true↔∃u v,lT bs pcs fl x=some u/\lT bs pcs fl y=some v/\r2 u=r2 v:=by
 have hi:=(bR.1 hx).1;have hk:=(bR.1 hy).1;unfold jg;rw[dB,dF,beq_iff_eq,List.getD_eq_getElem?_getD,List.getD_eq_getElem?_getD]
 cases hn:lT bs pcs fl x with
 |none=>
  rw[h.no i x hi hx hn,Option.getD_some];simp
 |some u=>
  obtain⟨q1,q2⟩:=h.yes i x u hi hx hn;obtain⟨a,_,_,q3,_⟩:=h.low _ q1;rw[q2,Option.getD_some,q3]
  cases hm:lT bs pcs fl y with
  |none=>
   rw[h.no k y hk hy hm,Option.getD_some];simp
  |some v=>
   obtain⟨s1,s2⟩:=h.yes k y v hk hy hm;obtain⟨b,_,_,s3,_⟩:=h.low _ s1
   grind
end
section
variable {N:Nat}{a:gM}{kb:Z (Z aA)}{cI:Z (Z (Z aA))}{r:Nat->Nat}{gs:Z bZ}{ofP ofB eY:Z Int}{eT:Z dZ}
theorem Gu(b:iB a kb cI r gs ofP ofB eY eT){fl:Z bL}(h0:pq a.aN (bP 0 cI).length fl=0)(hN:ns N):
  ∃r2 c up fm,fD N a.aN a.bO (bP 0 cI) (cU a.aN<|bP 0 cI) eY eT fl=some c/\Bb ((bP 0 cI).length+a.aN.length) (QI (bP 0 cI).length (cU a.aN<|bP 0 cI) fl) r2/\Ha a.aN (bP 0 cI) fl a.bO r2 a.bO.length up fm c:=by
 have hf:=b.yU.2;have hbl:=b.zQ.gb.len;have hlf:=b.vt.yU;obtain⟨h20,hok⟩:=Ej h0;exact KW (N:=N) (r:=r) hok (by omega) (by omega) (by omega) (by omega) (by omega) b.AQ.eY b.AQ.eT hN
end
def I1(a0 a1 b0 b1:Int):Int:=max (max 0<|b0 - a1+1)<|a0 - b1+1
def yp(a b:aG):Int:=max (I1 a.X0 a.X1 b.X0 b.X1)<|I1 a.Y0 a.Y1 b.Y0 b.Y1
def wD(s:Int)(x:aG)(b:Z aG):Int:=b.foldl (λs y=>if s<0\/yp x y<s then yp x y else s) s
def xx(a b:Z aG):Int:=a.foldl (λs x=>wD s x b)<|-1
theorem Pk{a0 a1 b0 b1:Int}(h0: -1000000<=a0/\a0<=1000000)(h1: -1000000<=a1/\a1<=1000000)(h2: -1000000<=b0/\b0<=1000000)(h3: -1000000<=b1/\b1<=1000000):0<=I1 a0 a1 b0 b1/\I1 a0 a1 b0 b1<=2000001:=by
 unfold I1;omega
theorem L2{a b:aG}(ha:dO a=true)(hb:dO b=true):0<=yp a b/\yp a b<=2000001:=by
 obtain⟨a1,a2,a3,a4⟩:=jI ha;obtain⟨b1,b2,b3,b4⟩:=jI hb;have:=Pk a1 a3 b1 b3;have:=Pk a2 a4 b2 b4;unfold yp;omega
theorem MY{x:aG}{s:Int}(hx:dO x=true):∀(b:Z aG),(∀y∈b,dO y=true)->∀{s:Int},-1<=s/\s<=2000001-> -1<=wD s x b/\wD s x b<=2000001
 | [],_,s,h=>h
 |y::b,hb,s,h=>by
  have hf:=L2 hx<|hb y<|xC ..
  unfold wD;rw[List.foldl_cons];refine MY (s:=s) hx b (λz hz=>hb z<|ja _ hz) ?_;split <;> omega
theorem MZ{a b:Z aG}(ha:∀y∈a,dO y=true)(hb:∀y∈b,dO y=true): -1<=xx a b/\xx a b<=2000001:=by
 have key:∀(a:Z aG),(∀y∈a,dO y=true)->∀{s:Int},-1<=s/\s<=2000001-> -1<=a.foldl (λs x=>wD s x b) s/\a.foldl (λs x=>wD s x b) s<=2000001:=by
  intro a
  induction a with
  |nil=>simp
  |cons x a ih=>
   intro ha s h;rw[List.foldl_cons];exact ih (λz hz=>ha z<|ja _ hz)<|MY (s:=s) (ha x<|xC ..) b hb h
 exact key a ha ⟨by omega,by omega⟩
section
variable {N:Nat}
theorem L3{a0 a1 b0 b1:Int}(h0: -1000000<=a0/\a0<=1000000)(h1: -1000000<=a1/\a1<=1000000)(h2: -1000000<=b0/\b0<=1000000)(h3: -1000000<=b1/\b1<=1000000):lz N a0 a1 b0 b1=some (I1 a0 a1 b0 b1):=by
 unfold lz I1
 grind [sg,tg]
theorem Pl{a b:aG}(ha:dO a=true)(hb:dO b=true):mP N a b=some (yp a b):=by
 obtain⟨a1,a2,a3,a4⟩:=jI ha;obtain⟨b1,b2,b3,b4⟩:=jI hb;unfold mP yp
 grind [L3,aB,tg]
theorem Pm(a b:aG):∃n,mP N a b=some n:=⟨_,rfl⟩
theorem HX(a b:aG)(n:Int):∃p,uQ N a b n=some p:=⟨_,rfl⟩
theorem HY(p q:dW):∃c,uR N p q=some c:=⟨_,rfl⟩
theorem Pn{a b:Z aG}(rG:a.length<=1000000)(hbl:b.length<=1000000)(ha:∀y∈a,dO y=true)(hb:∀y∈b,dO y=true):∃g,qW N a b=some g/\g.iX=xx a b - 1:=by
 have hd:=MZ ha hb
 suffices h:Ok (qW N a b) (λg=>g.iX=xx a b - 1)from h
 unfold qW;refine WO (XM (λk s=>s=(a.take k).foldl (λs x=>wD s x b) (-1)) (by omega) rfl<|λk s hk e=>?_)<|λs e=>?_
 ·have hx:a[k]? =some a[k]:=aM hk;refine WV hx<|WO (XM (λj t=>t=wD s a[k] (b.take j)) (by omega) rfl<|λj t hj et=>?_)<|λt et=>IS ?_
  ·have hy:b[j]? =some b[j]:=aM hj;refine WV hy<|IT (Pl (ha _<|cH hk)<|hb _<|cH hj) ?_
   have e2:wD s a[k] (b.take<|j+1)=if t<0\/yp a[k] b[j]<t then yp a[k] b[j]else t:=by
    grind [wD,dM]
   grind [decide,IS,Bool.or_eq_false_iff,decide_eq_false_iff_not]
  grind [eD,dM]
 rw[eD]at e;have e:s=xx a b:=e;subst e;rw[sg (by omega)];refine WO (XM (λk(st:we×Bool)=>st.1.iX=xx a b - 1) (by omega) rfl<|λk st hk I=>?_)<|λst I=>?_
 ·have hx:a[k]? =some a[k]:=aM hk;refine WV hx<|WO (XM (λj(st:we×Bool)=>st.1.iX=xx a b - 1) (by omega) I<|λj st hj I=>?_)<|λst I=>IS I
  have hy:b[j]? =some b[j]:=aM hj;obtain⟨p,hp⟩:=HX (N:=N) a[k] b[j]<|xx a b
  refine WV hy<|IT hp ?_
  refine WO (P:=λ_=>True) ?_<|λc _=>?_
  ·refine IT (Pl (ha _<|cH hk)<|hb _<|cH hj) ?_
   cases(yp a[k] b[j]==xx a b)with
   |false=>exact IS trivial
   |true=>
    rw[aP]
    cases st.2 with
    |false=>exact IS trivial
    |true=>
     obtain⟨c,hc⟩:=HY (N:=N) p st.1.cO
     grind [IT,IS]
  grind [WO,xx,IS]
 refine WO (XM (λk(st:we×Bool)=>st.1.iX=xx a b - 1) (by omega) I<|λk st' hk I=>?_)<|λst I=>IS I
 have hx:b[k]? =some b[k]:=aM hk;obtain⟨p,hp⟩:=HX (N:=N) b[k] (⟨st.1.cO.X,st.1.cO.Y,wrap .i64<|st.1.cO.X+1,wrap .i64<|st.1.cO.Y+1⟩:aG)<|xx a b
 obtain⟨f,hf⟩:=Pm (N:=N) b[k] (⟨st.1.cO.X,st.1.cO.Y,wrap .i64<|st.1.cO.X+1,wrap .i64<|st.1.cO.Y+1⟩:aG);refine WV hx<|IT hp ?_
 refine WO (P:=λ_=>True) ?_<|λc _=>?_
 ·refine IT hf ?_
  cases(f==xx a b)with
  |false=>exact IS trivial
  |true=>
   rw[aP]
   cases st'.2 with
   |false=>exact IS trivial
   |true=>
    obtain⟨c,hc⟩:=HY (N:=N) p st'.1.To
    grind [IT,IS]
 grind [WO,xx,IS]
end
def QJ(gs:Z bZ)(g:Int):Bool:=decide (g>=0)&&(gs[g.toNat]?).elim false λG=>decide<|((G.fB.length:Nat):Int)>1
def qe(gs:Z bZ)(B:Bool)(of:Z Int)(n:Nat):Z bL:=((List.range n).filter<|λk=>(of[k]?).elim false<|QJ gs).map<|λk=>⟨true,⟨B,((k:Nat):Int)⟩,0,0⟩
def sU(pcs:Z aD)(ofP:Z Int)(near:Int)(i k:Nat):Bool:=(pcs[i]?).elim false λp=>(pcs[k]?).elim false λq=>decide (i<k)&&(q.cM==p.cM&&(decide (ofP[i]? ≠ofP[k]?)&&decide (xx p.dY q.dY - 1<near)))
def rz(pcs:Z aD)(ofP:Z Int)(near:Int)(i m:Nat):Z bL:=((List.range m).filter<|sU pcs ofP near i).map<|λk=>⟨false,⟨false,0⟩,(i:Int),((k:Nat):Int)⟩
def uF(pcs:Z aD)(ofP:Z Int)(near:Int)(m:Nat):Z bL:=(List.range m).flatMap<|λi=>rz pcs ofP near i pcs.length
def Hb(pcs:Z aD)(gs:Z bZ)(ofP ofB:Z Int)(near:Int):Z bL:=qe gs false ofP ofP.length++qe gs true ofB ofB.length++uF pcs ofP near pcs.length
theorem uM(gs:Z bZ)(B:Bool)(of:Z Int)(k:Nat):qe gs B of (k+1)=if(of[k]?).elim false (QJ gs)=true then qe gs B of k++[⟨true,⟨B,(k:Int)⟩,0,0⟩]else qe gs B of k:=by
 unfold qe;rw[List.range_succ,sX,fH]
 grind
theorem sj(gs:Z bZ)(B:Bool)(of:Z Int)(k:Nat):(qe gs B of k).length<=k:=by
 unfold qe
 grind
theorem vx(pcs:Z aD)(ofP:Z Int)(near:Int)(i m:Nat):rz pcs ofP near i (m+1)=if sU pcs ofP near i m=true then rz pcs ofP near i m++[⟨false,⟨false,0⟩,(i:Int),(m:Int)⟩]else rz pcs ofP near i m:=by
 unfold rz;rw[List.range_succ,sX,fH]
 grind
theorem DS(pcs:Z aD)(ofP:Z Int)(near:Int)(i m:Nat):(rz pcs ofP near i m).length<=m:=by
 unfold rz
 grind
theorem yq{pcs:Z aD}{ofP:Z Int}{near:Int}{i m:Nat}:∀{d:Nat},(∀k,m<=k->k<m+d->sU pcs ofP near i k=false)->rz pcs ofP near i (m+d)=rz pcs ofP near i m
 | 0,_=>rfl
 |d+1,h=>by
  rw[show m+(d+1)=m+d+1 by omega,vx,h (m+d) (by omega) (by omega),aH jS];exact yq<|λk h1 h2=>h k h1 (by omega)
theorem Ar(pcs:Z aD)(ofP:Z Int)(near:Int)(m:Nat):uF pcs ofP near (m+1)=uF pcs ofP near m++rz pcs ofP near m pcs.length:=by
 simp[uF,List.range_succ,List.flatMap_append]
theorem Gv(pcs:Z aD)(ofP:Z Int)(near:Int):∀(m:Nat),(uF pcs ofP near m).length<=m*pcs.length
 | 0=>by simp[uF]
 |m+1=>by
  rw[Ar,eC,Nat.add_mul,Nat.one_mul];have:=Gv pcs ofP near m;have:=DS pcs ofP near m pcs.length;omega
theorem Po:∀(cI:Z (Z<|Z aA))(k:Nat),(bP k cI).Pairwise (λp q=>p.cM<=q.cM)/\∀p∈bP k cI,((k:Nat):Int)<=p.cM
 | [],k=>⟨ky,λp h=>by cases h⟩
 |ps::r,k=>by
  obtain⟨h1,h2⟩:=Po r<|k+1
  unfold bP;refine⟨List.pairwise_append.2 ⟨?_,h1,λp hp q hq=>?_⟩,λp hp=>?_⟩
  ·rw[List.pairwise_map];exact List.Pairwise.imp (λ_=>Int.le_refl _)<|List.pairwise_of_forall (R:=λ_ _=>True)<|λ_ _=>trivial
  ·obtain⟨p',_,rfl⟩:=dN.1 hp;have:=h2 q hq;show((k:Nat):Int)<=q.cM;omega
  ·rcases dJ.1 hp with hp|hp
   ·obtain⟨p',_,rfl⟩:=dN.1 hp;exact Int.le_refl _
   ·have:=h2 p hp;omega
section
variable {N:Nat}{a:gM}{kb:Z (Z aA)}{cI:Z (Z (Z aA))}{r:Nat->Nat}{gs:Z bZ}{ofP ofB eY:Z Int}{eT:Z dZ}
theorem CX{h:dZ}{g:Int}{s:Z bL}(hg:0<=g->g.toNat<gs.length)(hs:s.length<=100000000):j9 N h g s gs=some (if QJ gs g=true then s++[⟨true,h,0,0⟩]else s):=by
 unfold j9 QJ
 by_cases h0:0<=g
 ·have hlt:=hg h0;have hx:gs[g.toNat]? =some gs[g.toNat]:=aM hlt
  grind [cB,Int.toNat_of_nonneg,bS,aB,decide,j4]
 grind
theorem Gw(b:iB a kb cI r gs ofP ofB eY eT){k:Nat}(hk:k<ofP.length):∃g:Nat,ofP[k]? =some (g:Int)/\g<gs.length:=by
 have hl:=b.AQ.of.lp;obtain⟨g,h1,h2,_⟩:=Ph b.AQ (k:=k) (by omega)
 grind
theorem L4(b:iB a kb cI r gs ofP ofB eY eT){j:Nat}(hj:j<ofB.length):(sS a.aN j=true/\∃g:Nat,ofB[j]? =some (g:Int)/\g<gs.length)\/(sS a.aN j=false/\ofB[j]? =some (-1)):=by
 have hl:=b.AQ.of.lb;have hm:r ((bP 0 cI).length+j)∈bV ((bP 0 cI).length+a.aN.length) r:=iN.2 ⟨by have:=b.AQ.conn.le ((bP 0 cI).length+j) (by omega);omega,b.AQ.conn.rr _ (by omega)⟩;have:=b.AQ.of.bo j (by omega) hm
 cases hp:sS a.aN j with
 |true=>
  rw[hp,aF rfl]at this;exact .inl ⟨rfl,_,this,by rw[(IY b.AQ).1];simp_all[HM,Kx]⟩
 |false=>
  grind
theorem NP(b:iB a kb cI r gs ofP ofB eY eT){near:Int}{q1:Z (Z aG)}{q2:Z aG}{q3:Z bU}{q4:Z cX}{q5:Z (Z aA)}{q6:Z (Z Int)}{q7:Z Int}{q8:Z dZ}(hN:ns N):
  rK N q1 q2 q3 q4 q5 (bP 0 cI) q6 gs ofP ofB q7 q8 near=some (if near<0\/100000<near then([],1)else if 20000<(Hb (bP 0 cI) gs ofP ofB near).length then([],2)else(Hb (bP 0 cI) gs ofP ofB near,0)):=by
 have hf:=b.yU.2;have hbl:=b.zQ.gb.len;have hlp:=b.AQ.of.lp;have hlb:=b.AQ.of.lb;have hup:=(Po cI 0).1;generalize hpcs:bP 0 cI=pcs at *;unfold rK;have w:pG N near 0 100000=some (decide (near>=0)&&decide (near<=100000)):=rfl;rw[w,aB]
 by_cases hn:near<0\/100000<near
 ·grind
 rw[aH hn,show(decide (near>=0)&&decide (near<=100000))=true by grind,lq,aR];have s1:kL ofP.length (λ(k34:Nat)(s35:Z bL)=>((idx ofP (k34:Int)).bind λx51=>(j9 N (⟨false,(k34:Int)⟩:dZ) x51 s35 gs).bind λx54=>some x54:aT (Z bL))) ([]:Z bL)=some (qe gs false ofP ofP.length):=
  Aa (λk=>qe gs false ofP k) (by omega) rfl (λk hk=>by
   grind [Gw,sj,cB,aB,CX,cK,uM])
 have s2:kL ofB.length (λ(k57:Nat)(s58:Z bL)=>((idx ofB (k57:Int)).bind λx74=>(j9 N (⟨true,(k57:Int)⟩:dZ) x74 s58 gs).bind λx77=>some x77:aT (Z bL))) (qe gs false ofP ofP.length)=some (qe gs false ofP ofP.length++qe gs true ofB ofB.length):=
  Aa (λk=>qe gs false ofP ofP.length++qe gs true ofB k) (by omega) (by simp[qe]) (λk hk=>by
   have:=sj gs false ofP ofP.length;have:=sj gs true ofB k;have e:∃g,ofB[k]? =some g/\(0<=g->g.toNat<gs.length):=by
    rcases L4 b hk with⟨_,g,h1,h2⟩|⟨_,h1⟩
    ·exact⟨_,h1,λ_=>by omega⟩
    ·exact⟨_,h1,λh=>by omega⟩
   obtain⟨g,h1,h2⟩:=e;rw[cB h1,aB,CX h2 (by grind),aB,uM,h1,Option.elim_some]
   cases QJ gs g with
   |true=>rw[aF rfl,aF rfl,kN]
   |false=>rw[aH jS,aH jS])
 rw[s1,aB,s2,aB];have hb1:=sj gs false ofP ofP.length;have hb2:=sj gs true ofB ofB.length;generalize hB:qe gs false ofP ofP.length++qe gs true ofB ofB.length=base;have hbase:base.length<=2500:=by grind
 have hs:Hb pcs gs ofP ofB near=base++uF pcs ofP near pcs.length:=by grind [Hb]
 refine XL ?_;refine WO (XM (λi s=>s=base++uF pcs ofP near i) (by omega) (by simp[uF])<|λi s hi e=>?_)<|λs e=>?_
 ·subst e;have hx:pcs[i]? =some pcs[i]:=aM hi;have hpl:=Gv pcs ofP near i;have hpl:(uF pcs ofP near i).length<=2000*2000:=px hpl<|Nat.mul_le_mul (by omega) hf
  have hri:pcs[i].dY.length<=2000/\∀q∈pcs[i].dY,dO q=true:=by
   grind [tI,cH]
  obtain⟨gi_,hgi,_⟩:=Gw b (k:=i) (by omega);refine WV hx ?_;rw[bF (by omega)];have hskip:rz pcs ofP near i (i+1)= []:=by
   have e0:rz pcs ofP near i 0= []:=by simp[rz]
   have:=yq (pcs:=pcs) (ofP:=ofP) (near:=near) (i:=i) (m:=0) (d:=i+1) (λk _ hk=>by
    unfold sU
    grind)
   grind
  refine WO (Xv (n:=pcs.length) (λst=>st.2) (λk st=>i+1<=k/\st.1=base++uF pcs ofP near i++rz pcs ofP near i k) (Go:=λst=>st.1=base++uF pcs ofP near (i+1)) (Rt:=λ_=>False) ?_ ?_ (k0:=i+1) (by omega) rfl ⟨cJ _,by grind⟩ (by omega)) ?_
  ·rintro k⟨s,j⟩hk e⟨hik,hI⟩;dsimp only at e hI ⊢;subst e;subst hI;have hy:pcs[k]? =some pcs[k]:=aM hk;have h1l:=DS pcs ofP near i k;have hrk:pcs[k].dY.length<=2000/\∀q∈pcs[k].dY,dO q=true:=by
    grind [tI,cH]
   obtain⟨gk_,hgk,_⟩:=Gw b (k:=k) (by omega);have hmono:∀u v:Nat,(hv:v<pcs.length)->(huv:u<v)->pcs[u].cM<=pcs[v].cM:=λu v hv huv=>ou.1 hup u v (by omega) hv huv;rw[iO hk,aP];refine IT (x:=pcs[k].cM==pcs[i].cM) (by rw[cB hy,aB]) ?_
   cases hL:(pcs[k].cM==pcs[i].cM)with
   |false=>
    rw[aR];refine Xd ?_;dsimp only;have hne:pcs[k].cM≠pcs[i].cM:=λe=>by rw[e,BEq.rfl]at hL;cases hL
    have h1:=hmono i k hk (by omega)
    have hsk:=yq (pcs:=pcs) (ofP:=ofP) (near:=near) (i:=i) (m:=k) (d:=pcs.length - k) (λj h2 h3=>by
     have hj:j<pcs.length:=by omega
     have h4:pcs[k].cM<=pcs[j].cM:=by
      by_cases e:k=j
      ·subst e;exact Int.le_refl _
      ·exact hmono k j hj (by omega)
     unfold sU
     rw[hx,aM hj,Option.elim_some,Option.elim_some,show(pcs[j].cM==pcs[i].cM)=false by rw[beq_eq_false_iff_ne];omega,Bool.false_and,Bool.and_false])
    rw[show k+(pcs.length - k)=pcs.length by omega]at hsk;rw[Ar,hsk,kN]
   |true=>
    rw[aP];refine IT (x:=sU pcs ofP near i k) ?_ ?_
    ·rw[cB hgi,aB,cB hgk,aB];unfold sU;rw[hx,hy,Option.elim_some,Option.elim_some,hL,bS (show i<k by omega),Bool.true_and,Bool.true_and,hgi,hgk]
     by_cases e:gi_=gk_
     ·subst e;rw[bne_self_eq_false,aR,show decide (some (gi_:Int)≠some (gi_:Int))=false by simp,Bool.false_and]
     ·obtain⟨g,g1,g2⟩:=Pn (N:=N) (a:=pcs[i].dY) (b:=pcs[k].dY) (by omega) (by omega) hri.2 hrk.2;rw[show((gi_:Int) != (gk_:Int))=true by rw[bne_iff_ne];omega,aP,cB hy,aB,g1,aB,g2,show decide (some (gi_:Int)≠some (gk_:Int))=true by rw[dF];intro h;injection h with h;omega,Bool.true_and]
    ·cases hsP:sU pcs ofP near i k with
     |true=>
      rw[aP];refine WO (P:=λs=>s=base++uF pcs ofP near i++rz pcs ofP near i (k+1)) (XC (by simp only[eC,eN,List.length_nil];omega)<|IS ?_)<|λs hs=>W8 ⟨bF (by omega),by omega,hs⟩
      rw[vx,hsP,aF rfl,kN]
     |false=>
      rw[aR,aB];refine W8 ⟨bF (by omega),by omega,?_⟩;dsimp only;rw[vx,hsP,aH jS]
  ·rintro⟨s,j⟩e⟨_,hI⟩;dsimp only at e hI ⊢;subst e;subst hI;rw[l4,aR];refine IT (x:=false) rfl ?_;rw[aR];exact Xd (by dsimp only;rw[Ar,kN])
  ·intro o ho;refine Xf ho (λst hst=>IS hst)<|λr hr=>hr.elim
 ·subst e;rw[hs]
  by_cases hl:20000<(base++uF pcs ofP near pcs.length).length
  ·rw[aF hl,bS (show(((base++uF pcs ofP near pcs.length).length:Nat):Int)>20000 by omega)];exact IS rfl
  ·rw[aH hl,cA (show ¬(((base++uF pcs ofP near pcs.length).length:Nat):Int)>20000 by omega)];exact IS rfl
end
theorem BV{bs:Z bU}{n:Nat}{x:bL}(h1:RJ x=false)(h2:BU bs n x=true)(h3:x.Open=false->x.A<x.B):pq bs n [x]=0:=by
 unfold pq
 grind [HW,decide,ka,cA,km]
theorem sV{bs:Z bU}{n:Nat}:pq bs n []=0:=rfl
noncomputable def tV(N:Nat)(a:gM)(cI:Z (Z<|Z aA))(eY:Z Int)(eT:Z dZ)(fl:Z bL):Z Int:=(fD N a.aN a.bO (bP 0 cI) (cU a.aN<|bP 0 cI) eY eT fl).getD []
def RK(c d:Z Int):Bool:=(List.range c.length).all<|λi=>lA c i==lA d i
section
variable {N:Nat}{a:gM}{kb:Z (Z aA)}{cI:Z (Z (Z aA))}{r:Nat->Nat}{gs:Z bZ}{ofP ofB eY:Z Int}{eT:Z dZ}
theorem Gx(b:iB a kb cI r gs ofP ofB eY eT){fl:Z bL}(h0:pq a.aN (bP 0 cI).length fl=0)(hN:ns N):
  fD N a.aN a.bO (bP 0 cI) (cU a.aN<|bP 0 cI) eY eT fl=some (tV N a cI eY eT fl)/\(tV N a cI eY eT fl).length=a.bO.length/\sT (tV N a cI eY eT fl):=by
 obtain⟨r2,c,up,fm,c1,c2,c3⟩:=Gu b h0 hN;have e:tV N a cI eY eT fl=c:=by grind [tV]
 rw[e];exact⟨c1,c3.len,c3.first⟩
theorem Pp{c d:Z Int}(hc:c.length<=1000000000)(hl:d.length=c.length):tn N c d=some (RK c d):=by
 unfold tn
 rw[rZ (λk=>if lA c k=lA d k then none else some false) (by omega) (λk hk _=>by
  have h1:c[k]? =some c[k]:=aM hk;have h2:d[k]? =some (d[k]'(by omega)):=aM _;have n1:(bif c[k]<0 then some ((k:Nat):Int)else some c[k])=some (lA c k):=by
   unfold lA
   grind
  have n2:(bif(d[k]'(by omega))<0 then some ((k:Nat):Int)else some (d[k]'(by omega)))=some (lA d k):=by
   unfold lA
   grind
  rw[cB h1,aB,cB h2,aB,n1,aB,n2,aB]
  by_cases h:lA c k=lA d k
  ·rw[h,bne_self_eq_false,aF rfl];rfl
  ·rw[show(lA c k != lA d k)=true by grind,aH h];rfl),aB]
 unfold RK
 cases hf:rY c.length (λk=>if lA c k=lA d k then none else some false)with
 |none=>
  have e:(List.range c.length).all (λi=>lA c i==lA d i)=true:=mh.2 (λi hi=>by
   grind [km])
  rw[e];rfl
 |some e=>
  obtain⟨k,hk,he,_⟩:=kn.1 hf;split at he
  ·cases he
  rename_i hne;injection he with he
  subst he;have e:(List.range c.length).all (λi=>lA c i==lA d i)=false:=by
   grind
  rw[e];rfl
theorem Pq{c d:Z Int}(hc:sT c)(hd:sT d)(hl:c.length=d.length)(h:RK c d=true){i k:Nat}(hi:i<c.length)(hk:k<c.length)(hne:i≠k):jg c i k=jg d i k:=
 KX hc hd hl (λj hj=>by
  have:=mh.1 h j<|kx.2 hj
  grind) hi hk hne
theorem As(b:iB a kb cI r gs ofP ofB eY eT){near:Int}{x:bL}(hx:x∈Hb (bP 0 cI) gs ofP ofB near):pq a.aN (bP 0 cI).length [x]=0:=by
 have hlp:=b.AQ.of.lp;have hlb:=b.AQ.of.lb;have inp:∀{n k:Nat},k<n->RI n ((k:Nat):Int)=true:=λ{n k}h=>by
  grind [RI]
 unfold Hb at hx
 rcases dJ.1 hx with hx|hx
 ·rcases dJ.1 hx with hx|hx
  ·obtain⟨k,hk,rfl⟩:=dN.1 hx;have hk:=kx.1 (ll.1 hk).1;exact BV rfl (inp (by omega)) (λh=>by cases h)
  ·obtain⟨k,hk,rfl⟩:=dN.1 hx;obtain⟨h1,h2⟩:=ll.1 hk;have h1:=kx.1 h1;refine BV rfl ?_ (λh=>by cases h)
   grind [L4,BU,cK,QJ]
 ·obtain⟨i,hi,hx⟩:=List.mem_flatMap.1 hx;obtain⟨k,hk,rfl⟩:=dN.1 hx;obtain⟨h1,h2⟩:=ll.1 hk;have h1:=kx.1 h1;have hi:=kx.1 hi;unfold sU at h2;rw[aM hi,aM h1,Option.elim_some,Option.elim_some,dB,dF]at h2;refine BV rfl ?_<|λ_=>?_
  ·grind [BU]
  grind
noncomputable def DT(N:Nat)(a:gM)(cI:Z (Z<|Z aA))(eY:Z Int)(eT:Z dZ)(x:bL):Bool:=RK (tV N a cI eY eT [x])<|tV N a cI eY eT []
end
def qC(t u:Test):Int:=if ik t.A u.A≠0 then ik t.A u.A else ik t.B u.B
def qf(a:gM)(l:Z Test)(k:Nat):aT Int:=(l[k]?).bind λt=>
 if jf a t.A<0\/jf a t.B<0 then some 9 else if ik t.B t.A<=0 then some 8 else if 0<k/\((l[k - 1]?).elim false λu=>decide<|qC t u<=0)=true then some 8 else none
def sm(a:gM)(l:Z Test):Int:=if 2000<l.length then 2 else(rY l.length<|qf a l).getD 0
structure Bc (a:gM) (t:Test):Prop where
 la:0<=jf a t.A
 lb:0<=jf a t.B
 lt:zT t.A t.B
theorem xy{a:gM}{p:eG}(h:0<=jf a p):∃(k:Nat)(x:cX),jf a p=(k:Int)/\a.bO[k]? =some x/\lj x=p/\k<a.bO.length:=by
 grind [KO,bR]
theorem I2{a:gM}{l:Z Test}(h:sm a l=0):l.length<=2000/\(∀t∈l,Bc a t)/\∀(k:Nat)t u,0<k->l[k]? =some t->l[k - 1]? =some u->0<qC t u:=by
 unfold sm at h;split at h
 ·omega
 rename_i hl;have hn:∀k,k<l.length->qf a l k=none:=by
  cases hf:rY l.length (qf a l)with
  |none=>grind [km]
  |some e=>
   grind [kn,qf,aM]
 refine⟨by omega,λt ht=>?_,λk t u hk ht hu=>?_⟩
 ·obtain⟨k,hk,rfl⟩:=List.mem_iff_getElem.1 ht;have:=hn k hk;unfold qf at this;rw[aM hk,Option.bind_some]at this;split at this
  ·cases this
  rename_i h1;split at this
  ·cases this
  rename_i h2;exact⟨by omega,by omega,qT.1 (by omega)⟩
 grind [bR,qf]
def pr(a:gM)(c:Z Int)(l:Z Test):Z Bool:=l.map<|λt=>jg c (jf a t.A).toNat (jf a t.B).toNat
section
variable {N:Nat}
theorem SI(u v:Int):uP N [u,v]=some (if u≠0 then u else v):=by
 unfold uP
 rw[Cv (l:=[u,v]) (λx=>if x≠0 then some x else none) (by simp) (λk x hx=>by
  rw[cB hx,aB]
  by_cases h:x=0
  ·subst h;rfl
  ·rw[show(x != 0)=true by simpa using h,aP,aF h];rfl),aB]
 grind [LA,Fo.cs]
theorem EH(t u:Test):jl N t u=some (qC t u):=by
 simp[jl,qC,qK,aB,SI]
theorem Ps{a:gM}{e:Int}(he:e≠0)(h:jt N a=some (none,e))(l:Z Test):mE N a l=some (none,e):=by
 grind [mE,aB,Hi]
end
section
variable {N:Nat}{a:gM}{kb:Z (Z aA)}{cI:Z (Z (Z aA))}{r:Nat->Nat}{gs:Z bZ}{ofP ofB eY:Z Int}{eT:Z dZ}
theorem QK(b:iB a kb cI r gs ofP ofB eY eT)(h1:jt N a=some (some (a.aL,a.cQ,a.aN,a.bO,kb,bP 0 cI,cU a.aN<|bP 0 cI,gs,ofP,ofB,eY,eT),0)){l:Z Test}(hl:l.length<=1048576)(hN:ns N):
  (sm a l≠0/\mE N a l=some (none,sm a l))\/(sm a l=0/\mE N a l=some (some (a.aL,a.cQ,a.aN,a.bO,kb,bP 0 cI,cU a.aN<|bP 0 cI,gs,ofP,ofB,eY,eT),0)):=by
 unfold mE;rw[h1,aB];simp only[Hi,bne_self_eq_false,aR]
 by_cases h2:2000<l.length
 ·grind [sm,bS,decide]
 rw[cA (show ¬(l.length:Int)>2000 by omega),aR]
 rw[rZ (λk=>(qf a l k).map (λc=>(none,c))) (by omega) (λk hk _=>by
  have hx:l[k]? =some l[k]:=aM hk;have e1:((fW N a l[k].A).bind λx149=>bif x149<0 then some true else((fW N a l[k].B).bind λDd=>some<|decide<|Dd<0))=some (decide (jf a l[k].A<0)||decide (jf a l[k].B<0)):=by
   rw[xw b.vt _ hN,xw b.vt _ hN,aB,aB]
   grind
  have e2:(bif decide ((k:Int)>0)then((idx l<|wrap .i64<|(k:Int) - 1).bind λFb=>(jl N l[k] Fb).bind λx211=>some<|decide<|x211<=0)else some false)=some (decide<|0<k/\((l[k - 1]?).elim false λu=>decide<|qC l[k] u<=0)=true):=by
   by_cases h0:0<k
   ·grind [aM,bS,iL,cB,aB,EH]
   grind
  rw[cB hx,aB,e1,aB];unfold qf;rw[hx,Option.bind_some]
  by_cases hA:jf a l[k].A<0\/jf a l[k].B<0
  ·rw[aF hA,show(decide (jf a l[k].A<0)||decide (jf a l[k].B<0))=true by grind];rfl
  rw[aH hA,show(decide (jf a l[k].A<0)||decide (jf a l[k].B<0))=false by grind,aR,qK,aB]
  by_cases hB:ik l[k].B l[k].A<=0
  ·rw[aF hB,bS hB];rfl
  rw[aH hB,cA hB,aR,e2,aB]
  by_cases hC:0<k/\((l[k - 1]?).elim false λu=>decide<|qC l[k] u<=0)=true
  ·rw[aF hC,bS hC];rfl
  ·rw[aH hC,cA hC];rfl),aB,<-OG]
 have hz:sm a l=(rY l.length<|qf a l).getD 0:=by grind [sm]
 cases hf:rY l.length (qf a l)with
 |none=>
  rw[hf]at hz;exact .inr ⟨hz,rfl⟩
 |some e=>
  rw[hf]at hz;have hz:sm a l=e:=hz;refine .inl ⟨?_,by rw[hz];rfl⟩
  grind [kn,qf,aM]
theorem Pt(b:iB a kb cI r gs ofP ofB eY eT){fl:Z bL}{c:Z Int}(hc:fD N a.aN a.bO (bP 0 cI) (cU a.aN<|bP 0 cI) eY eT fl=some c)(hcl:c.length=a.bO.length){l:Z Test}(hl:l.length<=1048576)(ht:∀t∈l,Bc a t)(hN:ns N):
  oR N a.aL a.cQ a.aN a.bO (bP 0 cI) (cU a.aN<|bP 0 cI) eY eT l fl=some (pr a c l):=by
 have hA:∀p,fW N (⟨a.aL,a.cQ,a.aN,a.bO⟩:gM) p=some (jf a p):=λp=>xw b.vt p hN;unfold oR;rw[hc,aB]
 rw[Aa (s:=([]:Z Bool)) (λk=>pr a c (l.take k)) (by omega) rfl (λk hk=>by
  have hx:l[k]? =some l[k]:=aM hk;obtain⟨t1,t2,_⟩:=ht _<|cH hk
  obtain⟨i,_,e1,_,_,hi⟩:=xy t1;obtain⟨j,_,e2,_,_,hj⟩:=xy t2;have ei:c[i]? =some (c[i]'(by omega)):=aM _;have ej:c[j]? =some (c[j]'(by omega)):=aM _;have hlen:(pr a c<|l.take k).length=k:=by unfold pr;grind
  have hap:∀x:Bool,app 1 (pr a c<|l.take k) [x]=some (pr a c (l.take k)++[x]):=λx=>j4 (by grind);have hs:pr a c (l.take<|k+1)=pr a c (l.take k)++[jg c i j]:=by
   unfold pr;rw[dM hk,fH,eW,List.map_nil,e1,e2,cK,cK]
  rw[cB hx,aB,hA,aB,hA,aB,e1,e2,cB ei,cB ej,aB,hs];unfold jg;rw[List.getD_eq_getElem?_getD,List.getD_eq_getElem?_getD,ei,ej,Option.getD_some,Option.getD_some]
  cases decide (c[i]'(by omega)>=0)with
  |true=>rw[aP,aB,aB,hap,aB,aB,Bool.true_and]
  |false=>rw[aR,hap,aB,aB,Bool.false_and]),aB,eD]
end
section
variable {N:Nat}
theorem L5{l m:Z Bool}(hl:l.length<=1000000000):mq N l m=some (decide<|l=m):=by
 unfold mq
 by_cases hn:l.length=m.length
 rotate_left
 ·rw[show((l.length:Int) != (m.length:Int))=true by grind,aP,cA<|λe=>hn (by rw[e])]
 rw[show((l.length:Int) != (m.length:Int))=false by rw[hn,bne_self_eq_false],aR]
 rw[rZ (λk=>if l[k]? =m[k]? then none else some false) (by omega) (λk hk _=>by
  have h1:l[k]? =some l[k]:=aM hk;have h2:m[k]? =some (m[k]'(by omega)):=aM _;rw[cB h1,aB,cB h2,aB,h1,h2]
  by_cases h:l[k]=m[k]'(by omega)
  ·rw[aF (by rw[h]),h,bne_self_eq_false];rfl
  ·rw[aH (λe=>h (by injection e)),show(l[k] != m[k]'(by omega))=true by grind];rfl),aB]
 cases hf:rY l.length (λk=>if l[k]? =m[k]? then none else some false)with
 |none=>
  have e:l=m:=List.ext_getElem? λk=>by
   grind [km,List.getElem?_eq_none]
  rw[bS e];rfl
 |some e=>
  obtain⟨k,hk,he,_⟩:=kn.1 hf;split at he
  ·cases he
  rename_i hne;injection he with he
  subst he;rw[cA<|λe=>hne (by rw[e])];rfl
theorem QL{α:Type}{l:Z α}{n:Nat}{x:α}(h:l[n]? =some x)(hn:n<=1000000000):vB l (n:Int) (wrap .i64<|(n:Int)+1)=some [x]:=by
 have hlt:=(bR.1 h).1;rw[bF (by omega)]
 grind [vB,cK,xD,aM]
end
noncomputable def lB(N:Nat)(a:gM)(cI:Z (Z<|Z aA))(eY:Z Int)(eT:Z dZ)(l:Z Test)(fl:Z bL):Z Bool:=pr a (tV N a cI eY eT fl) l
theorem HZ(a:gM)(c:Z Int)(l:Z Test):(pr a c l).length=l.length:=by simp[pr,dQ]
theorem uN{N:Nat}{a:gM}{cI:Z (Z<|Z aA)}{eY:Z Int}{eT:Z dZ}{l:Z Test}{fl:Z bL}:(lB N a cI eY eT l fl).length=l.length:=HZ _ _ _
section
variable {N:Nat}{a:gM}{kb:Z (Z aA)}{cI:Z (Z (Z aA))}{r:Nat->Nat}{gs:Z bZ}{ofP ofB eY:Z Int}{eT:Z dZ}
theorem H0(b:iB a kb cI r gs ofP ofB eY eT){fl:Z bL}(h0:pq a.aN (bP 0 cI).length fl=0){l:Z Test}(hl:l.length<=1048576)(ht:∀t∈l,Bc a t)(hN:ns N):
  oR N a.aL a.cQ a.aN a.bO (bP 0 cI) (cU a.aN<|bP 0 cI) eY eT l fl=some (lB N a cI eY eT l fl):=by
 obtain⟨c1,c2,_⟩:=Gx b h0 hN;exact Pt b c1 c2 hl ht hN
end
section
variable (T:Nat->Nat->Bool)(n:Nat)
def jJ(i k:Nat)(K:Z Nat):Nat:=(List.range k).countP (T i)+K.countP (T i)
def DU(K:Z Nat)(k:Nat):Bool:=(List.range n).any<|λi=>T i k&&decide (jJ T i (k+1) K=1)
def Be:Nat->Z Nat->Z Nat
 | 0,K=>K
 |k+1,K=>Be k (if DU T n K k=true then k::K else K)
variable {T n}
theorem qU(i k:Nat)(K:Z Nat):jJ T i (k+1) K=jJ T i k K+if T i k=true then 1 else 0:=by
 grind [jJ,List.range_succ,List.countP_singleton]
theorem yr(i k:Nat)(K:Z Nat):jJ T i k (k::K)=jJ T i (k+1) K:=by
 grind [qU,jJ]
structure xz (T:Nat->Nat->Bool) (n m k:Nat) (K:Z Nat):Prop where
 up:K.Pairwise (· < ·)
 lo:∀j∈K,k<=j/\j<m
 all:∀i,i<n->(∃j,j<m/\T i j=true)->0<jJ T i k K
 own:∀j∈K,∃i,i<n/\T i j=true/\jJ T i k K=1
theorem xz.start(T:Nat->Nat->Bool)(n m:Nat):xz T n m m []where
 up:=ky
 lo:=λj h=>by cases h
 all:=λi _⟨j,h1,h2⟩=>by
  unfold jJ;have:0<(List.range m).countP (T i):=List.countP_pos_iff.2 ⟨j,kx.2 h1,h2⟩;omega
 own:=λj h=>by cases h
theorem xz.step{m k:Nat}{K:Z Nat}(h:xz T n m (k+1) K)(hk:k<m):xz T n m k (if DU T n K k=true then k::K else K):=by
 by_cases hn:DU T n K k=true
 ·rw[aF hn];refine⟨qD.2 ⟨λj hj=>by have:=h.lo j hj;omega,h.up⟩,λj hj=>?_,λi hi hj=>?_,λj hj=>?_⟩
  ·rcases fp.1 hj with rfl|hj
   ·omega
   ·have:=h.lo j hj;omega
  ·rw[yr];exact h.all i hi hj
  ·rcases fp.1 hj with rfl|hj
   ·grind [DU,lV,yr]
   ·obtain⟨i,h1,h2,h3⟩:=h.own j hj
    grind [yr]
 ·rw[aH hn];have hno:∀i,i<n->T i k=true->jJ T i (k+1) K≠1:=λi hi ht e=>hn<|lV.2 ⟨i,kx.2 hi,by grind⟩
  refine⟨h.up,λj hj=>by have:=h.lo j hj;omega,λi hi hj=>?_,λj hj=>?_⟩
  ·have h1:=h.all i hi hj
   grind [qU]
  ·obtain⟨i,h1,h2,h3⟩:=h.own j hj
   grind [qU,List.countP_pos_iff,jJ,List.range]
theorem KY{m:Nat}:∀(k:Nat)(K:Z Nat),k<=m->xz T n m k K->xz T n m 0 (Be T n k K)
 | 0,K,_,h=>h
 |k+1,K,hk,h=>KY k _ (by omega) (h.step (by omega))
def zX(T:Nat->Nat->Bool)(n m:Nat):Z Nat:=Be T n m []
theorem KZ(T:Nat->Nat->Bool)(n m:Nat):xz T n m 0 (zX T n m):=KY m [] (cJ _)<|xz.start T n m
end
def GL(n:Nat)(f:Nat->Int):Z Int:=(List.range n).map f
theorem Au(n:Nat)(f:Nat->Int):(GL n f).length=n:=by simp[GL]
theorem BW{n:Nat}{f:Nat->Int}{i:Nat}(h:i<n):(GL n f)[i]? =some (f i):=by unfold GL;grind
theorem lG{n:Nat}{f g:Nat->Int}(h:∀i,i<n->f i=g i):GL n f=GL n g:=List.map_congr_left λi hi=>h i<|kx.1 hi
theorem EX{n:Nat}{f g:Nat->Int}{i:Nat}{v:Int}(hv:i<n->v=g i)(hg:∀j,j<n->j≠i->f j=g j):(GL n f).set i v=GL n g:=by
 refine List.ext_getElem? λj=>?_
 grind [BW,List.getElem?_set_self,Au,List.getElem?_set_ne,List.getElem?_eq_none,ig]
theorem K0(n:Nat):List.replicate n (0:Int)=GL n (λ_=>0):=by
 refine List.ext_getElem? λj=>?_
 grind [BW,List.getElem?_eq_none,Au]
def xA(f:bL->Z Bool)(rg:Z Bool)(F:Z bL)(i k:Nat):Bool:=(F[i]?).elim false λx=>(f x).getD k false != rg.getD k false
theorem CY{f:bL->Z Bool}{rg:Z Bool}{F:Z bL}{i k:Nat}{x:bL}{u v:Bool}(hx:F[i]? =some x)(hu:(f x)[k]? =some u)(hv:rg[k]? =some v):xA f rg F i k=(u != v):=by
 unfold xA
 grind
theorem K1(T:Nat->Nat->Bool)(i k:Nat)(K:Z Nat):jJ T i k K<=k+K.length:=by
 grind [jJ,List.countP_le_length,List.range,List.length_range]
section
variable {N:Nat}
theorem I3{l:Z Test}(hl:l.length<=1048576)(hN:ns N):k9 N l=some l.reverse:=by
 refine XL ?_;unfold k9
 refine WO (Xv (n:=l.length / 2) (λst=>st.2.1) (λi st=>st.2.2=(l.length:Int) - 1 -((i:Nat):Int)/\st.1.length=l.length/\∀x,x<l.length->st.1[x]? =if x<i\/l.length - 1 - i<x then l[l.length - 1 - x]? else l[x]?)
  (Go:=λst=>st.1=l.reverse) (Rt:=λ_=>False) ?_ ?_ (cP _) rfl ⟨?_,rfl,λx hx=>?_⟩ (by omega)) ?_
 ·rintro i⟨s,a,c⟩hi e⟨h1,h2,h3⟩;dsimp only at e h1 h2 h3 ⊢;subst e;obtain⟨j,rfl⟩:∃j:Nat,c=(j:Int):=⟨c.toNat,by omega⟩;have hj:j=l.length - 1 - i:=by omega
  have hij:i<j:=by omega
  have hjl:j<s.length:=by omega
  have hil:i<s.length:=by omega
  have ei:s[i]? =some s[i]:=aM hil;have ej:s[j]? =some s[j]:=aM hjl;have ej2:(s.set i s[j])[j]? =some s[j]:=by rw[List.getElem?_set_ne (by omega)];exact ej
  rw[bS (show((i:Nat):Int)<(j:Int)by omega),aP,cK,cK];refine WV ej<|WV ei<|WV ei<|WV ej2 ?_
  rw[bF (by omega),iL (by omega) (by omega)];refine W8 ⟨rfl,by show((j - 1:Nat):Int)=_;omega,by simp only[ig];exact h2,λx hx=>?_⟩;have hi3:=h3 i (by omega);have hj3:=h3 j (by omega);rw[aH (by omega)]at hi3 hj3
  by_cases e1:x=j
  ·subst e1;rw[List.getElem?_set_self (by rw[ig];exact hjl),aF (by omega),<-ei,hi3];congr 1;omega
  ·rw[List.getElem?_set_ne<|Ne.symm e1]
   by_cases e2:x=i
   ·subst e2;rw[List.getElem?_set_self hil,aF (by omega),<-ej,hj3];congr 1
   ·rw[List.getElem?_set_ne<|Ne.symm e2,h3 x hx]
    by_cases e3:x<i\/l.length - 1 - i<x
    ·rw[aF e3,aF (by omega)]
    ·rw[aH e3,aH (by omega)]
 ·rintro⟨s,a,c⟩e⟨h1,h2,h3⟩;dsimp only at e h1 h2 h3 ⊢;subst e;rw[cA (by omega),aR];refine Xd ?_;dsimp only;refine List.ext_getElem? λx=>?_
  by_cases hx:x<l.length
  ·rw[h3 x hx,List.getElem?_reverse hx];split
   ·rfl
   ·congr 1;omega
  ·rw[List.getElem?_eq_none (by omega),List.getElem?_eq_none (by rw[List.length_reverse];omega)]
 ·dsimp only
  by_cases h0:l.length=0
  ·rw[h0];rfl
  ·rw[iL (by omega) (by omega)];omega
 ·dsimp only;rw[aH (by omega)]
 ·intro o ho;exact Xf ho (λs hs=>IS hs)<|λr hr=>hr.elim
end
noncomputable def vz(N:Nat)(a:gM)(cI:Z (Z<|Z aA))(gs:Z bZ)(ofP ofB eY:Z Int)(eT:Z dZ)(near:Int):Z bL:=(Hb (bP 0 cI) gs ofP ofB near).filter<|λx=> !DT N a cI eY eT x
noncomputable def ud(f:bL->Z Bool)(F:Z bL):Z cL:=F.map<|λx=>⟨x,f x⟩
section
variable {N:Nat}{a:gM}{kb:Z (Z aA)}{cI:Z (Z (Z aA))}{r:Nat->Nat}{gs:Z bZ}{ofP ofB eY:Z Int}{eT:Z dZ}
theorem Ek{l:Z Test}{near e:Int}(he:e≠0)(h:mE N a l=some (none,e)):gL N a l near=some ([],[],e):=by
 grind [gL,aB,Hi]
theorem L6(b:iB a kb cI r gs ofP ofB eY eT){l:Z Test}(h1:mE N a l=some (some (a.aL,a.cQ,a.aN,a.bO,kb,bP 0 cI,cU a.aN<|bP 0 cI,gs,ofP,ofB,eY,eT),0))(hl:l.length<=1048576)(ht:∀t∈l,Bc a t)(near:Int)(hN:ns N):
  gL N a l near=some (if near<0\/100000<near then([],[],1)else if 20000<(Hb (bP 0 cI) gs ofP ofB near).length then([],[],2)else(ud (λx=>lB N a cI eY eT l [x])<|vz N a cI gs ofP ofB eY eT near,lB N a cI eY eT l [],0)):=by
 have hll:=b.vt.yU;unfold gL;rw[h1,aB];simp only[Hi,bne_self_eq_false,aR];rw[NP b hN,aB]
 by_cases hn:near<0\/100000<near
 ·grind
 rw[aH hn,aH hn]
 by_cases hs:20000<(Hb (bP 0 cI) gs ofP ofB near).length
 ·grind
 rw[aH hs,aH hs];simp only[bne_self_eq_false,aR];obtain⟨c1,c2,c3⟩:=Gx b (fl:=[]) sV hN;rw[c1,aB];unfold vz;generalize hS:Hb (bP 0 cI) gs ofP ofB near=S at *
 rw[Aa (s:=(tV N a cI eY eT [],([]:Z cL))) (λk=>(tV N a cI eY eT [],ud (λx=>lB N a cI eY eT l [x]) ((S.take k).filter (λx=> !DT N a cI eY eT x)))) (by omega) rfl (λk hk=>by
  have hx:S[k]? =some S[k]:=aM hk;have hr:=As b (near:=near) (x:=S[k]) (by grind);obtain⟨d1,d2,d3⟩:=Gx b (fl:=[S[k]]) hr hN;have hlen:(ud (λx=>lB N a cI eY eT l [x])<|(S.take k).filter<|λx=> !DT N a cI eY eT x).length<=k:=by
   unfold ud;grind
  rw[cB hx,aB,d1,aB,Pp (by omega) (by rw[c2,d2]),aB,dM hk,sX];have eh:DT N a cI eY eT S[k]=RK (tV N a cI eY eT [S[k]]) (tV N a cI eY eT []):=rfl
  cases hh:RK (tV N a cI eY eT [S[k]]) (tV N a cI eY eT [])with
  |false=>
   rw[ka,aP,H0 b hr hl ht hN,aB,j4 (by grind),aB,aB,List.filter_cons_of_pos (by grind),List.filter_nil];simp[ud,fH]
  |true=>grind),aB,eD,H0 b sV hl ht hN,aB]
end
section
variable {N:Nat}
theorem L7{a:gM}{l:Z Test}{near e:Int}(he:e≠0)(h:gL N a l near=some ([],[],e)):mu N a l near=some ([],e):=by
 unfold mu;rw[h,aB,show((([],[],e):Z cL×Z Bool×Int).2.2 != 0)=true by simpa using he,aP]
theorem NQ{a:gM}{l:Z Test}{near:Int}{f:bL->Z Bool}{F:Z bL}{rg:Z Bool}(h:gL N a l near=some (ud f F,rg,0))(hF:F.length<=1000000)(hf:∀x,(f x).length<=1000000000):
  mu N a l near=some (F.filter<|λx=>decide<|f x=rg,0):=by
 have hlF:(ud f F).length=F.length:=by unfold ud;rw[dQ]
 unfold mu;rw[h,aB];simp only[bne_self_eq_false,aR]
 rw[Aa (s:=(rg,([]:Z bL))) (λk=>(rg,(F.take k).filter (λx=>decide (f x=rg)))) (by omega) rfl (λk hk=>by
  rw[hlF]at hk;have hx:(ud f F)[k]? =some ⟨F[k],f F[k]⟩:=by unfold ud;rw[iE,aM hk];rfl
  have hlen:((F.take k).filter<|λx=>decide<|f x=rg).length<=k:=px (ln _ _)<|List.length_take_le _ _
  rw[cB hx,aB,L5<|hf _,aB,dM hk,sX]
  by_cases hh:f F[k]=rg
  ·rw[bS hh,aP,j4 (by simp only[eN,List.length_nil];omega),aB,aB,List.filter_cons_of_pos (by rw[dF];exact hh),List.filter_nil]
  ·rw[cA hh,aR,aB,List.filter_cons_of_neg (by rw[dF];exact hh),List.filter_nil,ng]),aB,hlF,eD]
theorem Pv{a:gM}{l:Z Test}{near e:Int}(he:e≠0)(h:gL N a l near=some ([],[],e)):oT N a l near=some ([],e):=by
 unfold oT;rw[h,aB,show((([],[],e):Z cL×Z Bool×Int).2.2 != 0)=true by simpa using he,aP]
def sA:Test:=⟨⟨⟨[]⟩,⟨[]⟩⟩,⟨⟨[]⟩,⟨[]⟩⟩,false⟩
def CZ(T:Nat->Nat->Bool)(n:Nat)(l:Z Test):Z Test:=(zX T n l.length).map<|λk=>l.getD k sA
theorem QM{a:gM}{l:Z Test}{near:Int}{f:bL->Z Bool}{F:Z bL}{rg:Z Bool}(h:gL N a l near=some (ud f F,rg,0))(hF:F.length<=1000000)(hl:l.length<=1048576)(hf:∀x,(f x).length=l.length)(hrg:rg.length=l.length)(hN:ns N):
  oT N a l near=some (CZ (xA f rg F) F.length l,0):=by
 have hlF:(ud f F).length=F.length:=by unfold ud;rw[dQ]
 have hsx:∀{i:Nat}(hi:i<F.length),(ud f F)[i]? =some ⟨F[i],f F[i]⟩:=λ{i}hi=>by unfold ud;rw[iE,aM hi];rfl
 have hbx:∀{i k:Nat}(hi:i<F.length)(hk:k<l.length),∃u v,(f F[i])[k]? =some u/\rg[k]? =some v/\xA f rg F i k=(u != v):=λ{i k}hi hk=>by
  have e1:(f F[i])[k]? =some ((f F[i])[k]'(by rw[hf];exact hk)):=aM _;have e2:rg[k]? =some (rg[k]'(by rw[hrg];exact hk)):=aM _;exact⟨_,_,e1,e2,CY (aM hi) e1 e2⟩
 refine XL ?_;unfold oT;refine IT h ?_;dsimp only;rw[bne_self_eq_false,aR,hlF];generalize hT:xA f rg F=T at hbx ⊢;refine IT (oC 0 (by omega)) ?_;rw[K0];refine WO (XM (λi s=>s=GL F.length (λj=>if j<i then((jJ T j l.length []:Nat):Int)else 0)) (by omega) (lG λi _=>by rw[aH (by omega)])<|λi s hi e=>?_)<|λs e=>?_
 ·subst e
  refine WV (hsx hi) (WO (XM (λk s=>s=GL F.length (λj=>if j<i then((jJ T j l.length []:Nat):Int)else if j=i then((jJ T i k []:Nat):Int)else 0)) (by omega) (lG λj _=>by
   by_cases e1:j<i
   ·rw[aF e1,aF e1]
   ·rw[aH e1,aH e1]
    by_cases e2:j=i
    ·rw[aF e2];simp[jJ]
    ·rw[aH e2]) (λk s hk e=>?_)) (λs e=>IS ?_))
  ·subst e;obtain⟨u,v,h1,h2,h3⟩:=hbx hi hk;refine WV h1<|WV h2 ?_
   have es:=qU (T:=T) i k [];rw[h3]at es
   cases hb:(u != v)with
   |true=>
    rw[hb,aF rfl]at es;have hti:=BW (n:=F.length) (f:=λj=>if j<i then((jJ T j l.length []:Nat):Int)else if j=i then((jJ T i k []:Nat):Int)else 0) hi;rw[aH<|Nat.lt_irrefl i,aF rfl]at hti;have hle:=K1 T i k [];rw[List.length_nil]at hle;rw[aP];refine WO (P:=λs=>s=GL F.length (λj=>if j<i then((jJ T j l.length []:Nat):Int)else if j=i then((jJ T i (k+1) []:Nat):Int)else 0)) (WV hti<|WV hti<|IS ?_)<|λs hs=>IS hs
    rw[bF (by omega),cK];refine EX (λ_=>?_)<|λj _ hj=>?_
    ·rw[aH<|Nat.lt_irrefl i,aF rfl,es]
    ·by_cases e1:j<i
     ·rw[aF e1,aF e1]
     ·rw[aH e1,aH e1,aH hj,aH hj]
   |false=>
    rw[hb,aH jS,Nat.add_zero<|jJ T i k []]at es;rw[aR,aB];refine IS<|lG λj _=>?_
    rw[es]
  ·rw[e];refine lG λj _=>?_
   by_cases e1:j<i
   ·rw[aF e1,aF (by omega)]
   ·rw[aH e1]
    by_cases e2:j=i
    ·subst e2;rw[aF rfl,aF (by omega)]
    ·rw[aH e2,aH (by omega)]
 have e:s=GL F.length (λj=>((jJ T j l.length []:Nat):Int)):=by rw[e];exact lG λj hj=>by rw[aF hj]
 subst e;have hw0:wrap .i64 ((l.length:Int) - 1)=(l.length:Int) - 1:=sg (by omega);rw[hw0]
 refine WO (Xv (n:=l.length) (λst=>(l.length:Int) - 1 - st.2.2) (λj st=>∃K:Z Nat,K.length<=j/\Be T F.length (l.length - j) K=zX T F.length l.length/\st.1=GL F.length (λi=>((jJ T i (l.length - j) K:Nat):Int))/\st.2.1=(K.map (λk=>l.getD k sA)).reverse)
  (Go:=λst=>st.2.1=(CZ T F.length l).reverse) (Rt:=λ_=>False) ?_ ?_ (cP _) (by dsimp only;omega) ⟨[],cJ _,rfl,rfl,rfl⟩ (by omega)) ?_
 ·rintro j⟨s,o,c⟩hj e⟨K,k1,k2,k3,k4⟩;dsimp only at e k3 k4 ⊢;subst k3;subst k4;obtain⟨k,hk⟩:∃k,l.length - j=k+1:=⟨l.length - j - 1,by omega⟩;have hc:c=((k:Nat):Int):=by omega
  subst hc;have hkl:k<l.length:=by omega
  have hlx:l[k]? =some (l.getD k sA):=by rw[List.getD_eq_getElem?_getD,aM (by omega)];rfl
  have hmj:l.length -(j+1)=k:=by omega
  rw[hk]at k2 ⊢;rw[bS (show((k:Nat):Int)>=0 by omega),aP];have hneed:kL F.length (λ(k386:Nat)(s387:Bool)=>((idx (ud f F) (k386:Int)).bind λx431=>(bif s387 then some true else((idx x431.AW ((k:Nat):Int)).bind λx449=>(idx rg ((k:Nat):Int)).bind λx451=>bif x449 != x451 then((idx (GL F.length<|λi=>((jJ T i (k+1) K:Nat):Int)) (k386:Int)).bind λx453=>some<|x453==1)else some false)).bind λs446=>some s446:aT Bool)) false=some (DU T F.length K k):=
   Aa (s:=false) (λi=>(List.range i).any (λi=>T i k&&decide (jJ T i (k+1) K=1))) (by omega) rfl (λi hi=>by
    obtain⟨u,v,h1,h2,h3⟩:=hbx hi hkl;rw[cB<|hsx hi,aB,List.range_succ,List.any_append,List.any_cons,List.any_nil,Bool.or_false,h3]
    cases(List.range i).any (λi=>T i k&&decide (jJ T i (k+1) K=1))with
    |true=>rfl
    |false=>
     rw[aR,cB h1,aB,cB h2,aB,Bool.false_or]
     cases hb:(u != v)with
     |true=>
      rw[aP,cB<|BW hi,aB,aB,Bool.true_and];congr 1;rw[jd,beq_iff_eq,dF];omega
     |false=>rfl)
  refine IT hneed ?_;have ek:Be T F.length (k+1) K=Be T F.length k (if DU T F.length K k=true then k::K else K):=rfl
  cases hnd:DU T F.length K k with
  |true=>
   rw[ek,hnd,aF rfl]at k2;rw[aP];refine WV hlx<|XC (by simp only[List.length_reverse,dQ,eN,List.length_nil];omega)<|W8 ⟨?_,k::K,by simp only[eN];omega,by rw[hmj];exact k2,?_,?_⟩
   ·show(l.length:Int) - 1 - wrap .i64 (((k:Nat):Int) - 1)=_;rw[sg (by omega)];omega
   ·dsimp only;rw[hmj];exact lG λi _=>by rw[yr]
   ·dsimp only;rw[eW,List.reverse_cons]
  |false=>
   rw[ek,hnd,aH jS]at k2;rw[aR];refine WO (XM (λi s=>s=GL F.length (λj=>if j<i then((jJ T j k K:Nat):Int)else((jJ T j (k+1) K:Nat):Int))) (by omega) (lG λj _=>by rw[aH (by omega)])<|λi s hi e=>?_)<|λs e=>?_
   ·subst e;obtain⟨u,v,h1,h2,h3⟩:=hbx hi hkl;refine WV (hsx hi)<|WV h1<|WV h2 ?_
    have es:=qU (T:=T) i k K;rw[h3]at es;have hti:=BW (n:=F.length) (f:=λj=>if j<i then((jJ T j k K:Nat):Int)else((jJ T j (k+1) K:Nat):Int)) hi;rw[aH<|Nat.lt_irrefl i]at hti;have hle:=K1 T i k K
    cases hb:(u != v)with
    |true=>
     rw[hb,aF rfl]at es;rw[aP];refine WO (P:=λs=>s=GL F.length (λj=>if j<i+1 then((jJ T j k K:Nat):Int)else((jJ T j (k+1) K:Nat):Int))) (WV hti<|WV hti<|IS ?_)<|λs hs=>IS hs
     rw[sg (by omega),cK];refine EX (λ_=>?_)<|λj _ hj=>?_
     ·rw[aF (by omega)];omega
     ·by_cases e1:j<i
      ·rw[aF e1,aF (by omega)]
      ·rw[aH e1,aH (by omega)]
    |false=>
     rw[hb,aH jS,Nat.add_zero<|jJ T i k K]at es;rw[aR,aB];refine IS<|lG λj _=>?_
     by_cases e1:j<i
     ·rw[aF e1,aF (by omega)]
     ·rw[aH e1]
      by_cases e2:j=i
      ·subst e2;rw[aF (by omega),es]
      ·rw[aH (by omega)]
   ·refine W8 ⟨?_,K,by omega,by rw[hmj];exact k2,?_,rfl⟩
    ·show(l.length:Int) - 1 - wrap .i64 (((k:Nat):Int) - 1)=_;rw[sg (by omega)];omega
    ·dsimp only;rw[e,hmj];exact lG λi hi=>by rw[aF hi]
 ·rintro⟨s,o,c⟩e⟨K,k1,k2,k3,k4⟩;dsimp only at e k3 k4 ⊢;rw[cA (by omega),aR];refine Xd ?_;dsimp only;have k2:K=zX T F.length l.length:=by rw[Nat.sub_self]at k2;exact k2
  rw[k4,k2];rfl
 ·intro o ho;refine Xf ho (λst hst=>?_)<|λr hr=>hr.elim
  have hst:st.2.1=(CZ T F.length l).reverse:=hst;have hkl:(CZ T F.length l).length<=1048576:=by
   unfold CZ;rw[dQ];have h:=KZ T F.length l.length;have:=fL (List.Pairwise.imp (λh=>by omega) h.up:(zX T F.length l.length).Nodup) (m:=List.range l.length)<|λv hv=>kx.2 (h.lo v hv).2
   rw[List.length_range]at this;omega
  rw[hst];refine IT (I3 (by rw[List.length_reverse];exact hkl) hN)<|IS ?_
  rw[List.reverse_reverse]
end
def QN(u t:Test):Prop:=zT u.A t.A\/(u.A=t.A/\zT u.B t.B)
theorem K2{t u:Test}:0<qC t u↔QN u t:=by
 unfold qC QN
 by_cases h:ik t.A u.A=0
 ·have e:=nG.1 h;rw[aH (by simpa using h),qT];constructor
  ·exact λh=> .inr ⟨e.symm,h⟩
  ·rintro(h1|⟨_,h1⟩)
   ·rw[e]at h1;exact absurd h1<|zT.irrefl _
   ·exact h1
 ·rw[aF h,qT];constructor
  ·exact .inl
  ·rintro(h1|⟨e,_⟩)
   ·exact h1
   ·exact absurd (nG.2 e.symm) h
theorem QN.trans{s t u:Test}(h1:QN s t)(h2:QN t u):QN s u:=by
 rcases h1 with h1|⟨e1,h1⟩
 ·rcases h2 with h2|⟨e2,_⟩
  ·exact .inl<|h1.trans h2
  ·exact .inl<|e2▸h1
 ·rcases h2 with h2|⟨e2,h2⟩
  ·exact .inl<|e1▸h2
  ·exact .inr ⟨e1.trans e2,h1.trans h2⟩
section
variable {T:Nat->Nat->Bool}{n:Nat}{l:Z Test}
theorem NR:(CZ T n l).length=(zX T n l.length).length:=by unfold CZ;rw[dQ]
theorem Pw:(zX T n l.length).length<=l.length:=by
 have h:=KZ T n l.length;have:=fL (List.Pairwise.imp (λh=>by omega) h.up:(zX T n l.length).Nodup) (m:=List.range l.length)<|λv hv=>kx.2 (h.lo v hv).2
 rwa[List.length_range]at this
end
theorem Px{f:bL->Z Bool}{rg:Z Bool}{F:Z bL}{i m:Nat}{x:bL}(hx:F[i]? =some x)(h1:(f x).length=m)(h2:rg.length=m):f x=rg↔∀k,k<m->xA f rg F i k=false:=by
 constructor
 ·intro e k hk;rw[CY hx (aM (by omega)) (v:=rg[k]'(by omega))<|aM _];simp[e]
 ·intro h;refine List.ext_getElem? λk=>?_
  by_cases hk:k<m
  ·have e1:(f x)[k]? =some ((f x)[k]'(by omega)):=aM _;have e2:rg[k]? =some (rg[k]'(by omega)):=aM _;have:=h k hk;rw[CY hx e1 e2]at this;rw[e1,e2];congr 1;simpa using this
  ·rw[List.getElem?_eq_none (by omega),List.getElem?_eq_none (by omega)]
section
variable {N:Nat}
theorem L8{l m:Z bL}(hl:l.length<=4611686018427387904):ov N l m=some (decide<|l=m):=Ac hl
theorem L9{l m:Z Test}(hl:l.length<=4611686018427387904):ox N l m=some (decide<|l=m):=Ac hl
end
def RM(c:Z Int):Prop:=∀(i v:Nat),c[i]? =some (v:Int)->v<=i
theorem Gy{c:Z Int}(h:sT c)(hle:RM c){i:Nat}(hi:i<c.length):(lA c i=(i:Int))\/∃v:Nat,v<i/\lA c i=(v:Int)/\jg c i v=true/\c[i]? =some (v:Int)/\c[v]? =some (v:Int):=by
 have ei:c[i]? =some c[i]:=aM hi
 by_cases h0:c[i]<0
 ·left;unfold lA;grind
 ·obtain⟨v,e⟩:∃v:Nat,c[i]=(v:Int):=⟨c[i].toNat,by omega⟩;rw[e]at ei;have hv:=hle i v ei;have ev:=h.own i v ei
  grind [lA,jg,bS]
theorem Py{c:Z Int}(hle:RM c){i v:Nat}(h:jg c i v=true)(hi:i<c.length)(hv:v<c.length):∃w:Nat,c[i]? =some (w:Int)/\c[v]? =some (w:Int)/\w<=v/\w<=i:=by
 have ei:c[i]? =some c[i]:=aM hi;have ev:c[v]? =some c[v]:=aM hv;unfold jg at h;rw[dB,dF,beq_iff_eq,List.getD_eq_getElem?_getD,List.getD_eq_getElem?_getD,ei,ev,Option.getD_some,Option.getD_some]at h;obtain⟨w,e⟩:∃w:Nat,c[i]=(w:Int):=⟨c[i].toNat,by omega⟩;rw[e]at ei;rw[<-h.2,e]at ev;exact⟨w,ei,ev,hle _ _ ev,hle _ _ ei⟩
theorem NS{c:Z Int}{i w:Nat}(h:c[i]? =some (w:Int)):lA c i=(w:Int):=by
 unfold lA;grind
theorem norm_le{c:Z Int}(h:sT c)(hle:RM c){i:Nat}(hi:i<c.length):∃v:Nat,lA c i=(v:Int)/\v<=i:=by
 grind [Gy,hle]
theorem Gz{c d:Z Int}(hc:sT c)(hd:sT d)(lc:RM c)(ld:RM d)(hl:c.length=d.length)(h:∀i k,k<i->i<c.length->jg c i k=jg d i k){i:Nat}(hi:i<c.length):lA d i<=lA c i:=by
 grind [Gy,norm_le,Py,NS]
theorem QO{c d:Z Int}(hc:sT c)(hd:sT d)(lc:RM c)(ld:RM d)(hl:c.length=d.length):RK c d=true↔∀i k,k<i->i<c.length->jg c i k=jg d i k:=by
 constructor
 ·grind [Pq]
 ·intro h;unfold RK;rw[mh];intro i hi;have hi:=kx.1 hi;have h1:=Gz hc hd lc ld hl h hi;have h2:=Gz hd hc ld lc hl.symm (λi k hk hi=>(h i k hk (by omega)).symm) (i:=i) (by omega)
  grind
section
variable {N:Nat}{a:gM}{kb:Z (Z aA)}{cI:Z (Z (Z aA))}{r:Nat->Nat}{gs:Z bZ}{ofP ofB eY:Z Int}{eT:Z dZ}
theorem Pz(b:iB a kb cI r gs ofP ofB eY eT){fl:Z bL}(h0:pq a.aN (bP 0 cI).length fl=0)(hN:ns N):RM (tV N a cI eY eT fl):=by
 obtain⟨r2,c,up,fm,c1,c2,c3⟩:=Gu b h0 hN;have e:tV N a cI eY eT fl=c:=by grind [tV]
 rw[e];exact c3.le
theorem PA(b:iB a kb cI r gs ofP ofB eY eT){fl:Z bL}(h0:pq a.aN (bP 0 cI).length fl=0)(hN:ns N):
  ∃r2,Bb ((bP 0 cI).length+a.aN.length) (QI (bP 0 cI).length (cU a.aN<|bP 0 cI) fl) r2/\∀{i k:Nat}{x y:cX},a.bO[i]? =some x->a.bO[k]? =some y->
   (jg (tV N a cI eY eT fl) i k=true↔∃u v,lT a.aN (bP 0 cI) fl x=some u/\lT a.aN (bP 0 cI) fl y=some v/\r2 u=r2 v):=by
 obtain⟨r2,c,up,fm,c1,c2,c3⟩:=Gu b h0 hN;have e:tV N a cI eY eT fl=c:=by grind [tV]
 rw[e];exact⟨r2,c2,λhx hy=>c3.conn hx hy⟩
end
end Go.Gk
