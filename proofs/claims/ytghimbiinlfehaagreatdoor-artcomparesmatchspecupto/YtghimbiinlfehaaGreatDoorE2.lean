/-
  Helping texts: plain functions and plain laws. No statement of the seed is proved here.
-/
import Derived.Test.YtghimbiinlfehaaGreatDoorE1
import Derived.Test.YtghimbiinlfehaaGreatDoorA1
import Derived.Sort.Walk0
import Derived.Test.YtghimbiinlfehaaGreatDoorA2
set_option linter.defProp false
set_option linter.unusedVariables false
set_option linter.unusedSimpArgs false
set_option linter.unusedSectionVars false
namespace Go.Gk
open Go IntKind Classical
section
variable {N:Nat}
def Qt{a b:aB}(h:cO a=cO b):a=b:=by cases a;simp_all[cO]
def D3:∀{s t:Z aB},s.map cO=t.map cO->s=t
 | [],[],_=>rfl
 | [],_::_,h=>by cases h
 |_::_,[],h=>by cases h
 |a::s,b::t,h=>by
  rw[fI,fI]at h;injection h with h1 h2
  rw[Qt h1,D3 h2]
def Qu{s t:Z aB}(hs:fT (s.map cO))(ht:fT (t.map cO))(h:∀x y,zU (s.map cO) x y=zU (t.map cO) x y):s=t:=D3<|yP hs ht h
def xQ.unique{l:Z aJ}{s t:Z aB}(hs:xQ l s)(ht:xQ l t):s=t:=Qu hs.can ht.can λx y=>by rw[hs.cover,ht.cover]
def xQ.Ll{l:Z aJ}{s:Z aB}(h:xQ l s):s.length<=2*l.length/\(∀b∈s,b.Xs.length<=2*l.length)/\(bF s).length<=2*l.length*(2*l.length):=by
 have h1:s.length<=2*l.length:=by have:=h.lim.len h.can;grind [dQ,oL]
 have h2:∀b∈s,b.Xs.length<=2*l.length:=λb hb=>by
  have:=h.lim.row h.can (b:=cO b)<|dU.2 ⟨b,hb,rfl⟩
  rwa[vK]at this
 simp_all[Ha]
def Oz{n:Int}(h:qh n=true): -1000000<=n/\n<=1000000:=by
 unfold qh iz at h
 grind
def ql{r:aJ}(h:gQ r=true):(-1000000<=r.X0/\r.X0<=1000000)/\(-1000000<=r.Y0/\r.Y0<=1000000)/\(-1000000<=r.X1/\r.X1<=1000000)/\(-1000000<=r.Y1/\r.Y1<=1000000):=by
 unfold gQ at h
 simp_all[dB,Oz]
def Hp{r:aJ}(h:(-1000000<=r.X0/\r.X0<=1000000)/\(-1000000<=r.Y0/\r.Y0<=1000000)/\(-1000000<=r.X1/\r.X1<=1000000)/\(-1000000<=r.Y1/\r.Y1<=1000000)):gQ r=true:=by
 unfold gQ qh iz
 grind
theorem JR{r:aJ}(h:gQ r=true)(hx:r.X0<r.X1)(hy:r.Y0<r.Y1):H3 r:=by
 have:=ql h;refine⟨hx,hy,?_,?_,?_,?_⟩ <;> unfold small <;> omega
def oA(r:aJ):aV Int:=if gQ r=true then(if r.X1<=r.X0\/r.Y1<=r.Y0 then some 13 else none)else some 1
def oN(l:Z aJ):Int:=if 2000<l.length then 2 else(l.findSome? oA).getD 0
def Ip{l:Z aJ}(hl:l.length<=4611686018427387904):nK N l=some (oN l):=by
 unfold nK oN
 by_cases h:2000<l.length
 ·grind
 ·rw[cF (by omega),aR,aK h,GO oA hl (λk x hx=>by
   rw[cK hx,aA,Hk,aA];unfold oA
   cases hr:gQ x with
   |false=>rfl
   |true=>
    rw[lT,aR,aG rfl]
    by_cases h2:x.X1<=x.X0\/x.Y1<=x.Y0
    ·rw[aG h2,show(decide (x.X1<=x.X0)||decide (x.Y1<=x.Y0))=true by grind];rfl
    ·rw[aK h2,show(decide (x.X1<=x.X0)||decide (x.Y1<=x.Y0))=false by grind];rfl),aA]
  cases l.findSome? oA <;> rfl
theorem D4{r:aJ}:oA r=none↔gQ r=true/\r.X0<r.X1/\r.Y0<r.Y1:=by
 grind [oA]
theorem Lm{r:aJ}{e:Int}(h:oA r=some e):e≠0:=by
 grind [oA]
theorem w4{l:Z aJ}:oN l=0↔l.length<=2000/\∀r∈l,gQ r=true/\r.X0<r.X1/\r.Y0<r.Y1:=by
 unfold oN
 by_cases h:2000<l.length
 ·omega
 ·rw[aK h]
  cases hf:l.findSome? oA with
  |none=>
   grind [List.findSome?_eq_none_iff,D4]
  |some e=>
   obtain⟨r,hr,he⟩:=List.exists_of_findSome?_eq_some hf
   grind [Lm,D4]
def TL(l:Z aJ):Prop:=∀(k:Nat)a b,l[k]? =some a->l[k+1]? =some b->¬(b.Y0<a.Y0\/(b.Y0=a.Y0/\b.X0<=a.X0))
def JS(l:Z aJ):Prop:=∃s,xQ l s/\bF s=l
noncomputable def lY(l:Z aJ):Int:=if oN l≠0 then oN l else if TL l then(if JS l then 0 else 3)else 8
def Hq{l:Z aJ}(h:oN l=0):l.length<=2000/\∀r∈l,H3 r:=by grind [w4,JR]
def ML{l m:Z aJ}(hl:l.length<=4611686018427387904):mZ N l m=some (decide<|l=m):=by
 have:=Bi (l:=l) (m:=m) hl
 grind [JD,mZ,decide,instDecidableEqList]
def AR{l:Z aJ}(hl:l.length<=1073741824)(hN:4398046511104<=N):lr N l=some (lY l):=by
 refine Y9 ?_;unfold lr;refine X_ (Ip (by omega)) ?_;unfold lY;refine YW (λh=>V_ ?_)<|λh=>?_
 ·grind
 ·have h0:oN l=0:=by simpa using h
  rw[aK (by omega)];obtain⟨hlen,hok⟩:=Hq h0;refine Ym (Zl (Go:=λ_=>TL l) (Rt:=λr=>r=8/\¬TL l) (λs=>∃k:Nat,s=((k:Nat):Int)/\1<=k/\∀(j:Nat)a b,j+1<k->l[j]? =some a->l[j+1]? =some b->¬(b.Y0<a.Y0\/(b.Y0=a.Y0/\b.X0<=a.X0))) (λs=>l.length - s.toNat) ?_ ⟨1,rfl,cG _,λj a b hj=>by omega⟩ (by simp;omega)) ?_
  ·rintro s⟨k,rfl,hk,hI⟩;refine YW (λh=>?_)<|λh=>YO λj a b ha hb=>hI j a b ?_ ha hb
   ·have hk2:k<l.length:=by grind
    rw[iv hk (by omega)];refine Zf (by omega)<|Zf hk2<|YW (λhb=>Zg ⟨rfl,λhu=>?_⟩)<|λhb=>YK ⟨⟨k+1,by grind [bR],by omega,λj a b hj ha hb'=>?_⟩,by grind [bR,dA]⟩
    ·refine hu (k - 1) l[k - 1] l[k] (aM _) (by grind) ?_
     grind
    grind
   grind
  ·rintro o ho;refine YS ho (λs hu=>?_)<|λr hr=>V_ (by grind)
   rw[aG hu];refine Ym (tq (N:=N) (by omega) hok (by omega)) ?_;intro s hs;obtain⟨z1,z2,z3⟩:=hs.Ll;have z4:2*l.length*(2*l.length)<=4000*4000:=Nat.mul_le_mul (by omega) (by omega);refine X_ (Hb (xS hs.can) (by omega) (λb hb=>by grind) (by omega))<|X_ (ML (by omega)) ?_
   have hiff:JS l↔bF s=l:=⟨λ⟨t,h1,h2⟩=>by rw[hs.unique h1];exact h2,λh=>⟨s,hs,h⟩⟩
   grind [V_,bF]
def AU{l:Z aJ}:lY l=0↔oN l=0/\TL l/\JS l:=by
 unfold lY
 grind
theorem CU(n lo hi:Int):jU N n lo hi=some (iz n lo hi):=rfl
def OA{b:cL}(hN:16<=N):nz N b=some (pD b):=by
 have:=xT (N:=N - 16) (b:=b)
 grind
def oC(n:Nat)(b:cL):aV Int:=if(pD b).2≠0 then some (pD b).2 else if iz b.dS 0 (((n:Nat):Int) - 1)=true/\iz b.To b.dS (((n:Nat):Int) - 1)=true then none else some 1
def ko(a:lj):Int:=if 500<a.aZ.length then 2 else(a.aZ.findSome?<|oC a.aP.length).getD 0
def Iq{a:lj}(h1:a.aP.length<=4611686018427387904)(h2:a.aZ.length<=4611686018427387904)(hN:16<=N):m0 N a=some (ko a):=by
 unfold m0 ko
 by_cases h:500<a.aZ.length
 ·grind
 ·have hw:wrap .i64 (((a.aP.length:Nat):Int) - 1)=((a.aP.length:Nat):Int) - 1:=fC (by omega) (by omega)
  rw[cF (by omega),aR,aK h,GO (oC a.aP.length) h2 (λk x hx=>by
   rw[cK hx,aA,OA hN,aA];unfold oC
   by_cases h0:(pD x).2=0
   ·rw[aK (by omega),h0,show((0:Int) != 0)=false by rfl,aR,hw,CU,aA,CU,aA]
    cases h3:iz x.dS 0 (((a.aP.length:Nat):Int) - 1) <;> cases h4:iz x.To x.dS (((a.aP.length:Nat):Int) - 1) <;> rfl
   ·rw[aG h0,show((pD x).2 != 0)=true by grind];rfl),aA]
  cases a.aZ.findSome? (oC a.aP.length) <;> rfl
def Ln{b:cL}(h:(pD b).2=0):uo b=true/\gQ (AP b)=true:=by
 unfold pD at h
 grind
def o4{a:lj}(h:ko a=0):a.aZ.length<=500/\∀b∈a.aZ,uo b=true/\gQ (AP b)=true/\0<=b.dS/\b.dS<=b.To/\b.To<((a.aP.length:Nat):Int):=by
 unfold ko at h;split at h
 ·omega
 ·refine⟨by omega,λb hb=>?_⟩;have hn:oC a.aP.length b=none:=by
   cases hf:a.aZ.findSome? (oC a.aP.length)with
   |none=>grind
   |some e=>
    rw[hf]at h;obtain⟨c,hc,he⟩:=List.exists_of_findSome?_eq_some hf
    grind [oC]
  unfold oC at hn;split at hn
  ·cases hn
  ·rename_i h0;split at hn
   ·rename_i h1;have h0:(pD b).2=0:=by omega
    have:=Ln h0;unfold iz at h1
    grind
   ·cases hn
theorem SQ{b:cL}(h1:uo b=true)(h2:gQ (AP b)=true):H3 (AP b):=by
 have hf:=wA h1;refine JR h2 ?_ ?_
 ·show b.At.X - b.eC / 2<b.At.X - b.eC / 2+b.eC;omega
 ·show b.At.Y - b.eC / 2<b.At.Y - b.eC / 2+b.eC;omega
def lB(p q:bC):Int:=if Lib.compareBytes p.Part.cY q.Part.cY≠0 then Lib.compareBytes p.Part.cY q.Part.cY else Lib.compareBytes p.bC.cY q.bC.cY
def zp(p q:bC):eM N p q=some (lB p q):=by
 unfold eM lB;show(bif Lib.compareBytes p.Part.cY q.Part.cY != 0 then _ else _)=_
 by_cases h:Lib.compareBytes p.Part.cY q.Part.cY=0
 ·rw[h,aK (by simp)];rfl
 ·rw[aG h,show(Lib.compareBytes p.Part.cY q.Part.cY != 0)=true by simpa using h];rfl
def j8(l:eQ):bC:=⟨l.Part,l.bC⟩
def xU(l:eQ):lU N l=some (j8 l):=rfl
def mF(a:lj)(k:Nat):aV Int:=(a.bW[k]?).bind λx=>
 if(kE x.Part&&isWord x.bC)=true then
  if(iz x.dW 0 (((a.aP.length:Nat):Int) - 1)&&vN x.At)=true then
   if 0<k/\(∃y,a.bW[k - 1]? =some y/\lB (j8 x) (j8 y)<=0)then some 8 else none
  else some 1
 else some 5
noncomputable def qm(a:lj):Int:=if 1000<a.bW.length then 2 else(ov a.bW.length<|mF a).getD 0
end
section
variable {N:Nat}
def Hr(a:lj):Prop:=∀x∈a.bW,x.Part.cY.length<=2097152/\x.bC.cY.length<=2097152
def Ir{a:lj}(h1:a.aP.length<=1073741824)(h2:a.bW.length<=1073741824)(h3:Hr a)(hN:4194304<=N):m6 N a=some (qm a):=by
 unfold m6 qm
 by_cases h:1000<a.bW.length
 ·grind
 ·have hw:wrap .i64 (((a.aP.length:Nat):Int) - 1)=((a.aP.length:Nat):Int) - 1:=fC (by omega) (by omega)
  rw[cF (by omega),aR,aK h,kZ (mF a) (by omega) (λk hk _=>by
   have hx:a.bW[k]? =some a.bW[k]:=aM hk;have hs:=h3 _<|cP hk
   rw[cK hx,aA,sG hs.1 hN,aA]
   have hle:mF a k=(if(kE a.bW[k].Part&&isWord a.bW[k].bC)=true then
     if(iz a.bW[k].dW 0 (((a.aP.length:Nat):Int) - 1)&&vN a.bW[k].At)=true then
      if 0<k/\(∃y,a.bW[k - 1]? =some y/\lB (j8 a.bW[k]) (j8 y)<=0)then some 8 else none
     else some 1
    else some 5):=by unfold mF;rw[hx];rfl
   rw[hle];have e1:((bif(!kE a.bW[k].Part)then some true else((i7 N a.bW[k].bC).bind λx225=>some<|!x225)):aV Bool)=some (!(kE a.bW[k].Part&&isWord a.bW[k].bC)):=by
    grind [pE,aA,kE]
   have e2:((jU N a.bW[k].dW 0<|wrap .i64<|((a.aP.length:Nat):Int) - 1).bind λx318=>bif(!x318)then some true else((lZ N a.bW[k].At).bind λx321=>some<|!x321))=some (!(iz a.bW[k].dW 0 (((a.aP.length:Nat):Int) - 1)&&vN a.bW[k].At)):=by
    grind [CU,aA,Fu]
   show((bif(!kE a.bW[k].Part)then some true else((i7 N a.bW[k].bC).bind λx225=>some<|!x225)):aV Bool).bind _=_;rw[e1,aA]
   cases h4:(kE a.bW[k].Part&&isWord a.bW[k].bC)with
   |false=>rfl
   |true=>
    rw[lT,aR,aG rfl];show(((jU N a.bW[k].dW 0<|wrap .i64<|((a.aP.length:Nat):Int) - 1).bind λx318=>bif(!x318)then some true else((lZ N a.bW[k].At).bind λx321=>some<|!x321))).bind _=_;rw[e2,aA]
    cases h5:(iz a.bW[k].dW 0 (((a.aP.length:Nat):Int) - 1)&&vN a.bW[k].At)with
    |false=>rfl
    |true=>
     rw[lT,aR,aG rfl]
     by_cases h0:0<k
     ·rw[bS (by omega),aO,iv h0 (by omega),kN _ _ (by omega)];simp only[xU,aA,zp]
      by_cases h6:lB (j8 a.bW[k]) (j8 a.bW[k - 1])<=0
      ·rw[bS h6,aG ⟨h0,_,aM (by omega),h6⟩];rfl
      ·rw[cF h6,aK (by
        grind)];rfl
     ·rw[cF (by omega),aK (λh=>h0 h.1)];rfl),aA]
  cases ov a.bW.length (mF a) <;> rfl
def nZ(b:cL)(k:Int):Bool:=decide (b.dS<=k)&&decide (k<=b.To)
def Hs(b:cL)(k:Int):nL N b k=some (nZ b k):=rfl
def my(bs:Z cL)(k:Int):Z aJ:=(bs.filter<|λb=>nZ b k).map AP
structure mU (bs:Z cL):Prop where
 len:bs.length<=500
 ok:∀b∈bs,uo b=true/\gQ (AP b)=true
structure yT (r hs:Z aJ) (s:Z aB):Prop where
 can:fT (s.map cO)
 cover:∀x y,zU (s.map cO) x y=(xJ r x y&& !xJ hs x y)
 lim:C5 (xO r++xO hs) (kQ r++kQ hs) (s.map cO)
def ES{bs:Z cL}(h:mU bs)(k:Int):(my bs k).length<=500:=by
 unfold my;rw[dQ];have:=iW (λb=>nZ b k) bs;have:=h.len;omega
def vO{bs:Z cL}(h:mU bs)(k:Int):∀r∈my bs k,H3 r/\gQ r=true:=by
 intro r hr;unfold my at hr;obtain⟨b,hb,rfl⟩:=dU.1 hr;have:=h.ok b (nC.1 hb).1
 grind [SQ]
def yT.small{r hs:Z aJ}{s:Z aB}(h:yT r hs s)(h1:∀x∈r,H3 x)(h2:∀x∈hs,H3 x):(∀c∈xO r++xO hs,small c)/\∀c∈kQ r++kQ hs,small c:=by
 constructor
 ·intro c hc
  rcases dP.1 hc with h|h
  ·obtain⟨x,hx,rfl|rfl⟩:=xP.1 h
   ·exact(h1 x hx).s1
   ·exact(h1 x hx).s2
  ·obtain⟨x,hx,rfl|rfl⟩:=xP.1 h
   ·exact(h2 x hx).s1
   ·exact(h2 x hx).s2
 ·intro c hc
  rcases dP.1 hc with h|h
  ·obtain⟨x,hx,rfl|rfl⟩:=qd.1 h
   ·exact(h1 x hx).s3
   ·exact(h1 x hx).s4
  ·obtain⟨x,hx,rfl|rfl⟩:=qd.1 h
   ·exact(h2 x hx).s3
   ·exact(h2 x hx).s4
def Bt{s:Z aB}{X Y:Z Int}{A:Nat}(hc:fT (s.map cO))(h:C5 X Y (s.map cO))(hX:X.length<=A)(hY:Y.length<=A):s.length<=A/\(∀b∈s,b.Xs.length<=A)/\(bF s).length<=A*A:=by
 have h1:s.length<=A:=by have:=h.len hc;grind
 have h2:∀b∈s,b.Xs.length<=A:=λb hb=>by
  have:=h.row hc (b:=cO b)<|dU.2 ⟨b,hb,rfl⟩
  grind [cO]
 simp_all[Ha]
def Is{r hs:Z aJ}(h1:r.length<=2000)(h2:∀x∈r,H3 x)(h3:hs.length<=500)(h4:∀x∈hs,H3 x)(hN:4398046511104<=N){β:Type}{f:Z aB->aV β}{Q:β->Prop}(k:∀s,yT r hs s->Ok (f s) Q):
  Ok ((jy N r).bind λx378=>(jy N hs).bind λx380=>(nM N x378 x380).bind f) Q:=by
 refine Ym (tq (N:=N) (by omega) h2 (by omega))<|λs hs1=>?_
 refine Ym (tq (N:=N) (by omega) h4 (by omega))<|λt ht=>?_
 have hz:∀c∈kQ r++kQ hs,small c:=by
  intro c hc
  rcases dP.1 hc with h|h
  ·obtain⟨x,hx,rfl|rfl⟩:=qd.1 h
   ·exact(h2 x hx).s3
   ·exact(h2 x hx).s4
  ·obtain⟨x,hx,rfl|rfl⟩:=qd.1 h
   ·exact(h4 x hx).s3
   ·exact(h4 x hx).s4
 refine Ym (Ou (X:=xO r++xO hs) (Y:=kQ r++kQ hs) hs1.can ht.can (hs1.lim.mono (λc h=>List.mem_append_left _ h) (λc h=>List.mem_append_left _ h)) (ht.lim.mono (λc h=>List.mem_append_right _ h) (λc h=>List.mem_append_right _ h))
  (by grind [dC,vK]) (by grind [dC,oL]) hz hN) (λu hu=>?_)
 exact k u ⟨hu.can,λx y=>by rw[hu.cover,hs1.cover,ht.cover],hu.lim⟩
def dJ:Nat->Z (Z<|Z aB)->Z aL
 |_,[]=>[]
 |k,ps::r=>ps.map (λp=>⟨((k:Nat):Int),p,bF p⟩)++dJ (k+1) r
theorem yU(ps:Z (Z aB)):∀(r:Z (Z<|Z aB))(k:Nat),dJ k (r++[ps])=dJ k r++ps.map (λp=>⟨((k+r.length:Nat):Int),p,bF p⟩)
 | [],k=>by unfold dJ;simp[dJ]
 |q::r,k=>by
  show _++dJ (k+1) (r++[ps])=(_++dJ (k+1) r)++_;rw[yU ps r<|k+1,kK];congr 3;simp only[dO];rw[show k+(r.length+1)=k+1+r.length by omega]
def Ht{s p:Z aB}{ps:Z (Z aB)}{r:Nat->Nat}{X Y:Z Int}(h:wz s r ps)(hc:fT (s.map cO))(hl:C5 X Y (s.map cO))(hX:∀c∈X,small c)(hY:∀c∈Y,small c)(hp:p∈ps):
  ∃j k:Nat,ps[j]? =some p/\(cC (bF s).length r)[j]? =some k/\xQ (rl (bF s) (bF s).length r k) p/\C5 X Y (p.map cO):=by
 obtain⟨j,hj⟩:=dD hp;have hjl:=(bP.1 hj).1;rw[h.len]at hjl;have hh:(cC (bF s).length r)[j]? =some (cC (bF s).length r)[j]:=aM hjl;have hs:=h.each j _ p hh hj;refine⟨j,_,hj,hh,hs,hs.lim.mono (λc hcx=>?_)<|λc hcx=>?_⟩
 ·obtain⟨x,hx,hxc⟩:=xP.1 hcx;obtain⟨i,_,_,hi⟩:=oM.1 hx;have:=Hc hc hl hX hY x<|dT hi
  grind
 ·obtain⟨x,hx,hxc⟩:=qd.1 hcx;obtain⟨i,_,_,hi⟩:=oM.1 hx;have:=Hc hc hl hX hY x<|dT hi
  grind
structure CV (cs:Z (Z aJ)) (bs:Z cL) (k:Nat) (oc:Z (Z aB)) (fU:Z (Z (Z aB))):Prop where
 len:oc.length=k
 FY:fU.length=k
 dr:∀(i:Nat)r s,i<k->cs[i]? =some r->oc[i]? =some s->yT r (my bs ((i:Nat):Int)) s
 pt:∀(i:Nat)s ps,i<k->oc[i]? =some s->fU[i]? =some ps->∃u,wz s u ps
 zq:(dJ 0 fU).length<=k*25000000
def wz.zq{s:Z aB}{u:Nat->Nat}{ps:Z (Z aB)}(h:wz s u ps):ps.length<=(bF s).length:=by
 rw[h.len];exact mT _ _
def MM{cs:Z (Z aJ)}{bs:Z cL}(hcs:cs.length<=16)(hc:∀r∈cs,r.length<=2000/\∀x∈r,H3 x)(hb:mU bs)(hN:4398046511104<=N):
  Ok (mi N cs bs [] []) (λx=>∃fU,CV cs bs cs.length x.2.1 fU/\x.2.2=dJ 0 fU/\(x.1=true↔(∀s∈x.2.1,(bF s).length<=2000)/\x.2.2.length<=2000)):=by
 unfold mi
 refine Ym (P:=λ(st:Z (Z aB)×Z aL×Bool)=>∃fU,CV cs bs cs.length st.1 fU/\st.2.1=dJ 0 fU/\(st.2.2=true↔∀s∈st.1,(bF s).length<=2000)) (Zk (λ(k:Nat)(st:Z (Z aB)×Z aL×Bool)=>∃fU,CV cs bs k st.1 fU/\st.2.1=dJ 0 fU/\(st.2.2=true↔∀s∈st.1,(bF s).length<=2000)) (by omega)
  ⟨[],⟨rfl,rfl,λi r s hi=>by omega,λi s ps hi=>by omega,by simp[dJ]⟩,rfl,by simp⟩ (λk st hk hI=>?_)) ?_
 ·obtain⟨oc,pcs,okk⟩:=st;obtain⟨fU,D,e1,e2⟩:=hI;dsimp only at D e1 e2 ⊢;subst e1;have hkx:cs[k]? =some cs[k]:=aM hk;obtain⟨hr1,hr2⟩:=hc _<|cP hk
  refine Yx hkx ?_;refine Ym (P:=λt=>t=my bs ((k:Nat):Int)) (Ok.mono (Zk (λj t=>t=my (bs.take j) ((k:Nat):Int)) (by have:=hb.len;omega) rfl<|λj t hj e=>?_) (λt e=>by rw[e,dK]))<|λt e=>?_
  ·subst e;refine Zf hj<|X_ (Hs _ _) ?_
   have hts:bs.take (j+1)=bs.take j++[bs[j]]:=dN hj;have hgb:=hb.ok _<|cP hj
   have hl:(my (bs.take j) ((k:Nat):Int)).length<=500:=by
    unfold my;rw[dQ];have:=iW (λb=>nZ b ((k:Nat):Int))<|bs.take j
    rw[cN]at this;have:=hb.len;omega
   cases ht:nZ bs[j] ((k:Nat):Int)with
   |false=>
    grind [X_,V_,my]
   |true=>
    rw[aO]
    grind [X_,my,qj,aA,j6,V_]
  ·subst e;have hho:=vO hb ((k:Nat):Int);have hhl:=ES hb ((k:Nat):Int);refine Is hr1 hr2 hhl (λx hx=>(hho x hx).1) hN<|λs hs=>?_
   obtain⟨sx,sy⟩:=hs.small hr2<|λx hx=>(hho x hx).1
   obtain⟨z1,z2,z3⟩:=Bt (A:=5000) hs.can hs.lim (by grind [dC,vK]) (by grind [dC,oL]);have hmany:=RU (N:=N) (s:=s) (by omega) (λb hb=>by grind) (by omega);refine X_ (x:=(okk&&decide ((bF s).length<=2000),s)) ?_ ?_
   ·grind [aA,decide,bF]
   dsimp only;refine Y2 (by rw[D.len];simp;omega) ?_;refine Ym (MK (N:=N) hs.can hs.lim sx sy (by omega) (λb hb=>by grind) (by omega) hN) ?_;rintro ps⟨u,hu⟩;have hfew:=hu.zq;have hk16:k*25000000<=16*25000000:=Nat.mul_le_mul_right _ (by omega);have hDf:=D.zq;refine Ym (P:=λt=>t=dJ 0 fU++ps.map (λp=>(⟨((k:Nat):Int),p,bF p⟩:aL))) (Ok.mono (Zk (λj t=>t=dJ 0 fU++(ps.take j).map (λp=>(⟨((k:Nat):Int),p,bF p⟩:aL))) (by omega) (by simp)<|λj t hj e=>?_) (λt e=>by rw[e,dK]))<|λt e=>V_ ?_
   ·subst e;have hjx:ps[j]? =some ps[j]:=aM hj;refine Yx hjx ?_;obtain⟨_,_,_,_,qq,hpl⟩:=Ht hu hs.can hs.lim sx sy<|cP hj
    obtain⟨y1,y2,y3⟩:=Bt (A:=5000) qq.can hpl (by grind [dC,vK]) (by grind [dC,oL]);refine X_ (Hb (xS qq.can) (by omega) (λb hb=>by grind) (by omega))<|Y2 ?_<|V_ ?_
    ·grind
    grind [dN,kK]
   ·subst e;refine⟨fU++[ps],⟨by simp[D.len],by simp[D.FY],λi r s' hi hr hs'=>?_,λi s' ps' hi hs' hps'=>?_,?_⟩,?_,?_⟩
    ·dsimp only at hs'
     by_cases hik:i<k
     ·rw[kI (by rw[D.len];exact hik)]at hs';exact D.dr i r s' hik hr hs'
     ·have:i=k:=by omega
      subst this;rw[kJ (by rw[D.len];omega),D.len,Nat.sub_self]at hs';simp at hs';subst hs';rw[hkx]at hr;injection hr with hr;subst hr
      exact hs
    ·dsimp only at hs'
     by_cases hik:i<k
     ·rw[kI (by rw[D.len];exact hik)]at hs';rw[kI (by rw[D.FY];exact hik)]at hps';exact D.pt i s' ps' hik hs' hps'
     ·have:i=k:=by omega
      subst this;rw[kJ (by rw[D.len];omega),D.len,Nat.sub_self]at hs';rw[kJ (by rw[D.FY];omega),D.FY,Nat.sub_self]at hps';simp at hs' hps';subst hs';subst hps';exact⟨u,hu⟩
    ·rw[yU,dC,dQ];omega
    ·dsimp only;rw[yU,D.FY,jW]
    ·dsimp only;rw[dB,e2,cZ];constructor
     ·rintro⟨h1,h2⟩s' hs'
      rcases dP.1 hs' with h|h
      ·exact h1 s' h
      ·simp at h;subst h;exact h2
     ·intro h;exact⟨λs' hs'=>h s'<|List.mem_append_left _ hs',h s (by simp)⟩
 ·rintro⟨oc,pcs,okk⟩⟨fU,D,e1,e2⟩;dsimp only at D e1 e2 ⊢;subst e1;refine Ym (P:=λb=>b=true↔(∀s∈oc,(bF s).length<=2000)/\(dJ 0 fU).length<=2000) (YW (λh=>V_ ?_)<|λh=>V_ ?_)<|λb hb=>V_ ⟨fU,D,rfl,hb⟩
  ·rw[cZ];constructor
   ·intro h';exact⟨e2.1 h,by omega⟩
   ·rintro⟨_,h'⟩;omega
  ·constructor
   ·intro h';cases h'
   ·rintro⟨h',_⟩;rw[e2.2 h']at h;cases h
end
section
variable {N:Nat}
section
variable {α:Type}
def rV(P:α->Bool)(l:Z α)(n:Nat):Z Nat:=(List.range n).filter<|λk=>(l[k]?).any P
def CW{P:α->Bool}{l:Z α}{n:Nat}{x:α}(h:l[n]? =some x):rV P l (n+1)=if P x=true then rV P l n++[n]else rV P l n:=by
 grind [rV,List.range_succ]
theorem ET(P:α->Bool)(l:Z α)(n:Nat):(rV P l n).length<=n:=by
 have:=iW (λk=>(l[k]?).any P)<|List.range n
 rw[List.length_range]at this;exact this
theorem OB{P:α->Bool}{l:Z α}{n k:Nat}:k∈rV P l n↔k<n/\(l[k]?).any P=true:=by simp[rV]
def D5{β:Type}{l:Z α}(P:α->Bool)(g:Nat->β):ov l.length (λk=>(l[k]?).bind λx=>if P x=true then some (g k)else none)=(l.findIdx? P).map g:=by
 cases h:l.findIdx? P with
 |none=>
  grind [List.findIdx?_eq_none_iff,l9,aM,cP]
 |some j=>
  obtain⟨hj,hp,hn⟩:=List.findIdx?_eq_some_iff_getElem.1 h;refine lz.2 ⟨j,hj,by grind,λi hi=>?_⟩
  grind
end
def ints(l:Z Nat):Z Int:=l.map λi=>((i:Nat):Int)
theorem tW(l m:Z Nat):ints (l++m)=ints l++ints m:=fX
theorem mz(l:Z Nat):(ints l).length=l.length:=dQ _
theorem tX{l:Z Nat}{x:Int}:x∈ints l↔∃i∈l,x=((i:Nat):Int):=by
 grind [ints]
def uJ(p0 p1:aJ):Bool:=(((decide (p0.X0<p1.X1)&&decide (p1.X0<p0.X1))&&((p0.Y1==p1.Y0)||(p1.Y1==p0.Y0)))||((decide (p0.Y0<p1.Y1)&&decide (p1.Y0<p0.Y1))&&((p0.X1==p1.X0)||(p1.X1==p0.X0))))
def jg(b:cL)(p:aL):Bool:=b.il&&(nZ b p.dW&&p.jw.any (λr=>uJ r<|AP b))
def l6(bs:Z cL)(pcs:Z aL):Z (Z Int):=bs.map λb=>ints<|rV (jg b) pcs pcs.length
def wB{l:Z aJ}{φ:aJ->aV Bool}(p:aJ->Bool)(hl:l.length<=4611686018427387904)(h:∀x∈l,φ x=some (p x)):i9 N l φ=some (l.any p):=
 tj p hl h
def Qv{bs:Z cL}{pcs:Z aL}(hb:mU bs)(hp:pcs.length<=1073741824)(hr:∀p∈pcs,p.jw.length<=1073741824):mj N bs pcs []=some (l6 bs pcs):=by
 refine Y9 ?_;have hbl:=hb.len;unfold mj;refine Ym (Zk (λk st=>st=l6 (bs.take k) pcs) (by omega) rfl<|λk st hk e=>?_)<|λst e=>V_ (by rw[e,dK])
 subst e;have hg:=hb.ok _<|cP hk
 refine Zf hk ?_;refine Ym (P:=λt=>t=ints (rV (jg bs[k]) pcs pcs.length)) (Zk (λj t=>t=ints (rV (jg bs[k]) pcs j)) (by omega) rfl<|λj t hj e=>?_)<|λt e=>?_
 ·subst e;have hjx:pcs[j]? =some pcs[j]:=aM hj;have hl:=ET (jg bs[k]) pcs j;refine Yx hjx ?_;refine X_ (x:=jg bs[k] pcs[j]) ?_ ?_
  ·unfold jg
   cases bs[k].il with
   |false=>rfl
   |true=>
    rw[aO,Hs,aA,Bool.true_and]
    cases nZ bs[k] pcs[j].dW with
    |false=>rfl
    |true=>
     rw[aO,wB (λr=>uJ r (AP bs[k])) (by grind) (λr _=>by
      unfold mD;rw[qj hg.1];rfl),aA,Bool.true_and]
  ·rw[CW hjx]
   cases ht:jg bs[k] pcs[j]with
   |false=>simp[aR,aK,X_,V_]
   |true=>
    rw[aO,aG rfl]
    grind [X_,ints,rV,jg,j6,mz,aA,V_,tW]
 grind [Y2,V_,l6,dN]
def Fw(r:Z aJ)(p:kF):Bool:=r.any<|λx=>decide (p.X>=x.X0)&&(decide (p.X<x.X1)&&(decide (p.Y>=x.Y0)&&decide (p.Y<x.Y1)))
def D6{r:Z aJ}{p:kF}(hl:r.length<=4611686018427387904):mQ N r p=some (Fw r p):=by
 unfold mQ
 rw[wB (λx=>decide (p.X>=x.X0)&&(decide (p.X<x.X1)&&(decide (p.Y>=x.Y0)&&decide (p.Y<x.Y1)))) hl (λx _=>by
  grind [om,decide])];rfl
def pr(l:eQ)(b:cL):Bool:=b.il&&(nZ b l.dW&&Fw [AP b] l.At)
def nH(l:eQ)(p:aL):Bool:=(p.dW==l.dW)&&Fw p.jw l.At
def FZ(bs:Z cL)(pcs:Z aL)(l:eQ):aV ld:=match bs.findIdx? (pr l)with
 |some k=>some ⟨true,((k:Nat):Int)⟩
 |none=>(pcs.findIdx? (nH l)).map λk=>⟨false,((k:Nat):Int)⟩
def Qw{bs:Z cL}{pcs:Z aL}(hb:mU bs)(hp:pcs.length<=1073741824)(hr:∀p∈pcs,p.jw.length<=1073741824)(l:eQ):
  mm N bs pcs l=some ((FZ bs pcs l).getD ⟨false,0⟩,(FZ bs pcs l).isSome):=by
 have hbl:=hb.len;unfold mm
 rw[kZ (λk=>(bs[k]?).bind λx=>if pr l x=true then some ((⟨true,((k:Nat):Int)⟩:ld),true)else none) (by omega) (λk hk _=>by
  have hkx:bs[k]? =some bs[k]:=aM hk;have hg:=hb.ok _<|cP hk
  rw[cK hkx,aA,hkx,qj hg.1,aA,aA,D6 (by simp)];unfold pr
  cases bs[k].il with
  |false=>rfl
  |true=>
   show(((bif nZ bs[k] l.dW then _ else _:aV Bool)).bind _)=_
   cases nZ bs[k] l.dW with
   |false=>rfl
   |true=>
    cases Fw [AP bs[k]] l.At <;> rfl),aA,D5 (pr l) (λk=>((⟨true,((k:Nat):Int)⟩:ld),true))]
 unfold FZ
 cases bs.findIdx? (pr l)with
 |some k=>rfl
 |none=>
  show((qT pcs.length _ ()).bind _)=_
  rw[kZ (λk=>(pcs[k]?).bind λx=>if nH l x=true then some ((⟨false,((k:Nat):Int)⟩:ld),true)else none) (by omega) (λk hk _=>by
   have hkx:pcs[k]? =some pcs[k]:=aM hk;rw[cK hkx,aA,hkx,aA,D6 (by have:=hr _<|cP hk;omega)];unfold nH
   cases pcs[k].dW==l.dW with
   |false=>rfl
   |true=>cases Fw pcs[k].jw l.At <;> rfl),aA,D5 (nH l) (λk=>((⟨false,((k:Nat):Int)⟩:ld),true))]
  cases pcs.findIdx? (nH l) <;> rfl
def Lk(n:Nat)(tch:Z (Z Int))(i j:Nat):Prop:=∃(k:Nat)(l:Z Int),tch[k]? =some l/\((i:Nat):Int)∈l/\j=n+k
structure RZ (n m:Nat) (tch:Z (Z Int)) (r:Nat->Nat):Prop where
 le:∀i,i<n+m->r i<=i
 rr:∀i,i<n+m->r (r i)=r i
 co:∀i j,Lk n tch i j->r i=r j
 fi:∀S:Nat->Prop,(∀i j,Lk n tch i j->(S i↔S j))->∀i j,i<n+m->j<n+m->r i=r j->S i->S j
def OC{n m:Nat}{tch:Z (Z Int)}(hm:tch.length=m)(ht:∀l∈tch,l.length<=1073741824/\∀x∈l,∃i:Nat,i<n/\x=((i:Nat):Int))(hn:n<=1073741824)(hm2:m<=1073741824){up:Z Int}(hu:UF (n+m) up (λi=>i))(hN:4398046511104<=N):
  Ok (mc tch.length (λ(k34:Nat)(s35:Z Int)=>((idx tch (k34:Int)).bind λx89=>(mc x89.length (λ(k92:Nat)(s93:Z Int)=>((idx x89 (k92:Int)).bind λx107=>(jo N s93 x107<|wrap .i64<|(n:Int)+(k34:Int)).bind λx109=>some x109:aV (Z Int))) s35).bind λs93=>some s93:aV (Z Int))) up)
   (λup'=>∃r,UF (n+m) up' r/\RZ n m tch r):=by
 have base:Ok (mc tch.length (λ(k34:Nat)(s35:Z Int)=>((idx tch (k34:Int)).bind λx89=>(mc x89.length (λ(k92:Nat)(s93:Z Int)=>((idx x89 (k92:Int)).bind λx107=>(jo N s93 x107<|wrap .i64<|(n:Int)+(k34:Int)).bind λx109=>some x109:aV (Z Int))) s35).bind λs93=>some s93:aV (Z Int))) up)
   (λup'=>∃r E,UF (n+m) up' r/\vL r E/\Hf (n+m) r E/\(∀p∈E,Lk n tch p.1 p.2)/\∀(k:Nat)l(i:Nat),k<tch.length->tch[k]? =some l->((i:Nat):Int)∈l->(i,n+k)∈E):=by
  refine Zk (λq up'=>∃r E,UF (n+m) up' r/\vL r E/\Hf (n+m) r E/\(∀p∈E,Lk n tch p.1 p.2)/\∀(k:Nat)l(i:Nat),k<q->tch[k]? =some l->((i:Nat):Int)∈l->(i,n+k)∈E) (by omega)
   ⟨_,_,hu,vL.id,Hf.id _,λp hp=>(by cases hp),λk l i hk=>by omega⟩ (λq up' hq hI=>?_)
  obtain⟨r,E,h1,h2,h3,h4,h5⟩:=hI;have hqx:tch[q]? =some tch[q]:=aM hq;obtain⟨hl1,hl2⟩:=ht _<|cP hq
  refine Yx hqx ?_;rw[wrap_add (by omega)]
  refine Ym (Zk (λt up'=>∃r E,UF (n+m) up' r/\vL r E/\Hf (n+m) r E/\(∀p∈E,Lk n tch p.1 p.2)/\(∀(k:Nat)l(i:Nat),k<q->tch[k]? =some l->((i:Nat):Int)∈l->(i,n+k)∈E)/\∀i:Nat,((i:Nat):Int)∈tch[q].take t->(i,n+q)∈E) (by omega)
   ⟨r,E,h1,h2,h3,h4,h5,λi hi=>by simp at hi⟩ (λt up' htl hI=>?_)) (λup' hI=>V_ ?_)
  ·obtain⟨r,E,h1,h2,h3,h4,h5,h6⟩:=hI;refine Zf htl ?_;obtain⟨i,hi,e⟩:=hl2 _<|cP htl
   rw[e];obtain⟨u2,a1,a2⟩:=RW (N:=N) h1 (i:=i) (k:=n+q) (by omega) (by omega) (by omega);refine X_ a1<|V_ ⟨_,_,a2,h2.join i (n+q)<|h1.rr i (by omega),h3.join (by omega) (by omega),λp hp=>?_,λk l j hk hl hj=>List.mem_append_left _<|h5 k l j hk hl hj,λj hj=>?_⟩
   ·rcases dP.1 hp with hp|hp
    ·exact h4 p hp
    ·simp at hp;subst hp;exact⟨q,tch[q],hqx,by grind,rfl⟩
   ·rw[dN htl,dP]at hj
    rcases hj with hj|hj
    ·exact List.mem_append_left _<|h6 j hj
    ·rw[mA,e]at hj;have:j=i:=by omega
     subst this;simp
  ·obtain⟨r,E,h1,h2,h3,h4,h5,h6⟩:=hI;refine⟨r,E,h1,h2,h3,h4,λk l i hk hl hi=>?_⟩
   by_cases hkq:k<q
   ·exact h5 k l i hkq hl hi
   ·have:k=q:=by omega
    subst this;rw[hqx]at hl;injection hl with hl;subst hl
    exact h6 i (by grind)
 obtain⟨up',e,r,E,h1,h2,h3,h4,h5⟩:=base;have hE:∀i j,Lk n tch i j->(i,j)∈E:=λi j⟨k,l,hl,hi,hj⟩=>by
  grind
 exact⟨up',e,r,h1,h1.le,h1.rr,λi j h=>h2 (i,j)<|hE i j h,λS hS i j hi hj=>h3 S (λp hp=>hS p.1 p.2<|h4 p hp) i j hi hj⟩
def xV(bs:Z cL)(j:Nat):Bool:=(bs[j]?).any<|λb=>b.il
def gP(n:Nat)(c:Z Nat):Z Nat:=c.filter<|λi=>decide<|i<n
def gB(bs:Z cL)(n:Nat)(c:Z Nat):Z Nat:=(c.filter<|λi=> !decide (i<n)&&xV bs (i - n)).map<|λi=>i - n
def Lo(bs:Z cL)(n:Nat)(c:Z Nat):Bool:=decide<|0<(gP n c).length+(gB bs n c).length
def SR(bs:Z cL)(n:Nat)(c:Z Nat):bG:=⟨ints<|gP n c,ints<|gB bs n c,[]⟩
def NP(n:Nat)(c:Z Nat)(i:Nat):gP n (c++[i])=if i<n then gP n c++[i]else gP n c:=by
 unfold gP;grind
def NQ(bs:Z cL)(n:Nat)(c:Z Nat)(i:Nat):gB bs n (c++[i])=if i<n then gB bs n c else if xV bs (i - n)=true then gB bs n c++[i - n]else gB bs n c:=by
 unfold gB;grind
def JT(n:Nat)(c:Z Nat):(gP n c).length<=c.length:=iW _ _
def JU(bs:Z cL)(n:Nat)(c:Z Nat):(gB bs n c).length<=c.length:=by unfold gB;grind
def live(bs:Z cL)(n t:Nat)(r:Nat->Nat)(hs:Z Nat):Z Nat:=hs.filter<|λh=>Lo bs n<|cls t r h
def n0(bs:Z cL)(n t:Nat)(r:Nat->Nat)(hs:Z Nat):Z bG:=(live bs n t r hs).map<|λh=>SR bs n<|cls t r h
theorem I3(bs:Z cL)(n t:Nat)(r:Nat->Nat)(hs:Z Nat)(h:Nat):live bs n t r (hs++[h])=if Lo bs n (cls t r h)=true then live bs n t r hs++[h]else live bs n t r hs:=by
 grind [live]
theorem vP(bs:Z cL)(n t:Nat)(r:Nat->Nat)(hs:Z Nat):(n0 bs n t r hs).length=(live bs n t r hs).length:=by simp[n0,dQ]
def gi(bs:Z cL)(n t:Nat)(r:Nat->Nat)(h:Nat):Nat:=(live bs n t r<|(cC t r).takeWhile<|λx=>decide<|x≠h).length
theorem Cb{l:Z Nat}(hn:l.Nodup){k h:Nat}(hk:l[k]? =some h):l.takeWhile (λx=>decide<|x≠h)=l.take k:=by
 induction l generalizing k with
 |nil=>simp at hk
 |cons a l ih=>
  cases k with
  |zero=>simp_all
  |succ k=>
   grind [List.nodup_cons,dT,List.takeWhile_cons]
theorem sH(bs:Z cL)(n t:Nat)(r:Nat->Nat)(hs:Z Nat):(live bs n t r hs).length<=hs.length:=iW _ _
def SS{bs:Z cL}{n t:Nat}{r:Nat->Nat}{h:Nat}(hh:h∈cC t r)(hne:Lo bs n (cls t r h)=true):gi bs n t r h<(live bs n t r<|cC t r).length/\(live bs n t r<|cC t r)[gi bs n t r h]? =some h:=by
 obtain⟨k,hk⟩:=dD hh;have hkl:=(bP.1 hk).1;unfold gi;rw[Cb (qg t r) hk]
 grind [cC,List.take_append_drop,wh,bP,live]
end
section
variable {N:Nat}
theorem EU{l:Z Nat}(h:l.Nodup){i j a:Nat}(hi:l[i]? =some a)(hj:l[j]? =some a):i=j:=
 by grind [List.getElem_inj,bP]
theorem tE{n i k:Nat}{r:Nat->Nat}:i∈cls n r k↔i<n/\r i=k:=by simp[cls]
def OD(n:Nat)(r:Nat->Nat)(k:Nat):(cls n r k).Nodup:=List.Nodup.sublist List.filter_sublist List.nodup_range
structure VP (bs:Z cL) (n m:Nat) (r:Nat->Nat) (hs:Z Nat) (ofP ofB:Z Int):Prop where
 lp:ofP.length=n
 lb:ofB.length=m
 pc:∀i,i<n->r i∈hs->ofP[i]? =some ((gi bs n (n+m) r (r i):Nat):Int)
 bo:∀j,j<m->r (n+j)∈hs->ofB[j]? =some (if xV bs j=true then((gi bs n (n+m) r (r<|n+j):Nat):Int)else -1)
def Lp{bs:Z cL}{n m:Nat}{r:Nat->Nat}(hm:bs.length=m)(hn:n<=1073741824)(hm2:m<=1073741824){op ob:Z Int}(hop:op.length=n)(hob:ob.length=m)
  {body:Nat->Z bG×Z Int×Z Int->aV (Z bG×Z Int×Z Int)}
  (hbody:body=(λ(k123:Nat)(s124:Z bG×Z Int×Z Int)=>((idx (vM (n+m) r) (k123:Int)).bind λx455=>(mc x455.length (λ(k458:Nat)(s459:Z Int×Z Int×Z Int×Z Int)=>((idx x455 (k458:Int)).bind λx556=>(bif decide (x556<(n:Int))then((idx s459.1 x556).bind λx580=>(app 8 s459.2.2.1 ([x556]:Z Int)).bind λx582=>some (s459.1.set (Int.toNat x556) (s124.1.length:Int),s459.2.1,x582,s459.2.2.2))else((idx bs<|wrap .i64<|x556 -(n:Int)).bind λx584=>(bif x584.il then((idx s459.2.1<|wrap .i64<|x556 -(n:Int)).bind λx594=>(app 8 s459.2.2.2 ([wrap .i64<|x556 -(n:Int)]:Z Int)).bind λx596=>some (s459.2.1.set (Int.toNat<|wrap .i64<|x556 -(n:Int)) (s124.1.length:Int),x596))else((idx s459.2.1<|wrap .i64<|x556 -(n:Int)).bind λx598=>some (s459.2.1.set (Int.toNat<|wrap .i64<|x556 -(n:Int))<|-1,s459.2.2.2))).bind λs592=>some (s459.1,s592.1,s459.2.2.1,s592.2))).bind λs577=>some (s577.1,s577.2.1,s577.2.2.1,s577.2.2.2):aV (Z Int×Z Int×Z Int×Z Int))) (s124.2.1,s124.2.2,([]:Z Int),([]:Z Int))).bind λs459=>(bif decide (wrap .i64 ((s459.2.2.1.length:Int)+(s459.2.2.2.length:Int))>0)then((app 72 s124.1 [(⟨s459.2.2.1,s459.2.2.2,([]:Z bC)⟩:bG)]).bind λx610=>some x610)else some s124.1).bind λs606=>some (s606,s459.1,s459.2.1):aV (Z bG×Z Int×Z Int)))):
  Ok (mc (vM (n+m) r).length body ([],op,ob)) (λst=>st.1=n0 bs n (n+m) r (cC (n+m) r)/\VP bs n m r (cC (n+m) r) st.2.1 st.2.2):=by
 subst hbody;have hsl:(vM (n+m) r).length=(cC (n+m) r).length:=by simp[vM]
 have hhl:=mT (n+m) r;refine Ok.mono (Zk (λ(k:Nat)(st:Z bG×Z Int×Z Int)=>st.1=n0 bs n (n+m) r ((cC (n+m) r).take k)/\VP bs n m r ((cC (n+m) r).take k) st.2.1 st.2.2) (by omega) ⟨rfl,hop,hob,λi hi h=>by simp at h,λj hj h=>by simp at h⟩<|λk st hk hI=>?_) (λst h=>by grind);obtain⟨gs,ofP,ofB⟩:=st;obtain⟨e1,I⟩:=hI;dsimp only at e1 I ⊢;subst e1;rw[hsl]at hk;have hkx:(cC (n+m) r)[k]? =some (cC (n+m) r)[k]:=aM hk;have hts:(cC (n+m) r).take (k+1)=(cC (n+m) r).take k++[(cC (n+m) r)[k]]:=dN hk;have hgk:gi bs n (n+m) r (cC (n+m) r)[k]=(n0 bs n (n+m) r<|(cC (n+m) r).take k).length:=by
  unfold gi;grind [Cb,qg,vP]
 generalize hh:(cC (n+m) r)[k]=h at *;have hsx:(vM (n+m) r)[k]? =some (ints<|cls (n+m) r h):=by unfold vM;rw[kg,hkx];rfl
 refine Yx hsx ?_;have hcl:=D1 (n+m) r h;rw[mz];have hgl:(n0 bs n (n+m) r<|(cC (n+m) r).take k).length<=n+m:=by
  grind [vP,sH,cC,cN]
 have hold:∀i∈cls (n+m) r h,∀i',r i'∈(cC (n+m) r).take k->i≠i':=λi hi i' hi' e=>by
  grind [tE,dD,bP,cN,List.getElem?_take_of_lt,EU,qg]
 refine Ym (P:=λs'=>VP bs n m r ((cC (n+m) r).take (k+1)) s'.1 s'.2.1/\s'.2.2.1=ints (gP n (cls (n+m) r h))/\s'.2.2.2=ints (gB bs n (cls (n+m) r h))) (Ok.mono (Zk
  (λ(t:Nat)(s':Z Int×Z Int×Z Int×Z Int)=>VP bs n m r ((cC (n+m) r).take k) s'.1 s'.2.1/\s'.2.2.1=ints (gP n ((cls (n+m) r h).take t))/\s'.2.2.2=ints (gB bs n ((cls (n+m) r h).take t))/\
   (∀i∈(cls (n+m) r h).take t,i<n->s'.1[i]? =some ((gi bs n (n+m) r h:Nat):Int))/\∀i∈(cls (n+m) r h).take t,¬i<n->s'.2.1[i - n]? =some (if xV bs (i - n)=true then((gi bs n (n+m) r h:Nat):Int)else -1)) (by omega)
   ⟨I,rfl,rfl,λi hi=>by simp at hi,λi hi=>by simp at hi⟩ (λt s' ht hI'=>?_)) ?_) ?_
 ·obtain⟨oP,oB,pp,bb⟩:=s';obtain⟨J,e2,e3,J1,J2⟩:=hI';dsimp only at J e2 e3 J1 J2 ⊢;subst e2;subst e3;have htx:(ints<|cls (n+m) r h)[t]? =some (((cls (n+m) r h)[t]:Nat):Int):=by unfold ints;rw[kg,aM ht];rfl
  refine Yx htx ?_;have htt:(cls (n+m) r h).take (t+1)=(cls (n+m) r h).take t++[(cls (n+m) r h)[t]]:=dN ht;have hcm:=cP ht;have hdist:∀i∈(cls (n+m) r h).take t,i≠(cls (n+m) r h)[t]:=λi hi e=>by
   obtain⟨j,hj⟩:=dD hi;have hjt:j<t:=by have:=(bP.1 hj).1;rw[cN]at this;omega
   rw[List.getElem?_take_of_lt hjt]at hj;have:=EU (OD (n+m) r h) hj (by rw[e];exact aM ht);omega
  generalize (cls (n+m) r h)[t]=c at *;obtain⟨hc1,hc2⟩:=tE.1 hcm;have hgp:=JT n<|(cls (n+m) r h).take t
  have hgb:=JU bs n<|(cls (n+m) r h).take t
  rw[cN]at hgp hgb
  by_cases hcn:c<n
  ·rw[bS (by omega:((c:Nat):Int)<((n:Nat):Int)),aO];refine Ym (P:=λx=>x=(oP.set c ((gi bs n (n+m) r h:Nat):Int),oB,ints (gP n<|(cls (n+m) r h).take t)++[((c:Nat):Int)],ints<|gB bs n<|(cls (n+m) r h).take t)) ?_ ?_
   ·refine Zf (by rw[J.lp];exact hcn)<|Y2 (by rw[mz];simp;omega)<|V_ ?_
    rw[dA,hgk]
   ·rintro _ rfl;refine V_ ⟨⟨by simp[J.lp],J.lb,λi hi hr=>?_,J.bo⟩,?_,?_,λi hi hin=>?_,λi hi hin=>?_⟩
    ·dsimp only;rw[sF (by rw[J.lp];exact hcn),aK<|λe=>hold c hcm i hr e.symm];exact J.pc i hi hr
    ·dsimp only;rw[htt,NP,aG hcn,tW];rfl
    ·dsimp only;rw[htt,NQ,aG hcn]
    ·dsimp only;rw[sF (by rw[J.lp];exact hcn)];split
     ·rfl
     ·rename_i hne;rw[htt]at hi
      rcases dP.1 hi with hi|hi
      ·exact J1 i hi hin
      ·exact absurd (by simpa using hi) hne
    ·rw[htt]at hi
     rcases dP.1 hi with hi|hi
     ·exact J2 i hi hin
     ·have:i=c:=by simpa using hi
      subst this;exact absurd hcn hin
  ·rw[cF (by omega:¬((c:Nat):Int)<((n:Nat):Int)),aR];have hw:wrap .i64 (((c:Nat):Int) -((n:Nat):Int))=((c - n:Nat):Int):=by rw[fC (by omega) (by omega)];omega
   have hcm2:c - n<bs.length:=by omega
   have hpl:xV bs (c - n)=bs[c - n].il:=by unfold xV;rw[aM hcm2];rfl
   rw[hw];refine Ym (P:=λx=>x=(oP,oB.set (c - n) (if xV bs (c - n)=true then((gi bs n (n+m) r h:Nat):Int)else -1),ints<|gP n<|(cls (n+m) r h).take t,ints<|gB bs n<|(cls (n+m) r h).take t++[c])) ?_ ?_
   ·refine Zf hcm2 ?_;rw[NQ,aK hcn,hpl]
    cases hp:bs[c - n].il with
    |true=>
     rw[aO,aG rfl,aG rfl];refine X_ (x:=(oB.set (c - n) ((gi bs n (n+m) r h:Nat):Int),ints<|gB bs n ((cls (n+m) r h).take t)++[c - n])) ?_<|V_ rfl
     rw[kN _ _ (by rw[J.lb];omega),aA,j6 (by rw[mz];simp;omega),aA,dA,hgk,tW];rfl
    |false=>
     rw[aR,aK (by simp),aK (by simp)];refine X_ (x:=(oB.set (c - n)<|-1,ints<|gB bs n<|(cls (n+m) r h).take t)) ?_<|V_ rfl
     rw[kN _ _ (by rw[J.lb];omega),aA,dA]
   ·rintro _ rfl;refine V_ ⟨⟨J.lp,by simp[J.lb],J.pc,λj hj hr=>?_⟩,?_,?_,λi hi hin=>?_,λi hi hin=>?_⟩
    ·dsimp only;rw[sF (by rw[J.lb];omega),aK<|λe=>hold c hcm (n+j) hr (by omega)];exact J.bo j hj hr
    ·dsimp only;rw[htt,NP,aK hcn]
    ·dsimp only;rw[htt]
    ·rw[htt]at hi
     rcases dP.1 hi with hi|hi
     ·exact J1 i hi hin
     ·have:i=c:=by simpa using hi
      subst this;exact absurd hin hcn
    ·dsimp only;rw[sF (by rw[J.lb];omega)];split
     ·rename_i e;rw[e]
     ·rename_i hne;rw[htt]at hi
      rcases dP.1 hi with hi|hi
      ·exact J2 i hi hin
      ·exact absurd (by have:i=c:=(by simpa using hi);rw[this]) hne
 ·rintro⟨oP,oB,pp,bb⟩⟨J,e2,e3,J1,J2⟩;dsimp only at J e2 e3 J1 J2 ⊢;rw[dK]at e2 e3 J1 J2;refine⟨⟨J.lp,J.lb,λi hi hr=>?_,λj hj hr=>?_⟩,e2,e3⟩
  ·rw[hts]at hr
   rcases dP.1 hr with hr|hr
   ·exact J.pc i hi hr
   ·have hr:r i=h:=by simpa using hr
    rw[hr];exact J1 i (tE.2 ⟨by omega,hr⟩) hi
  ·rw[hts]at hr
   rcases dP.1 hr with hr|hr
   ·exact J.bo j hj hr
   ·have hr:r (n+j)=h:=by simpa using hr
    rw[hr];have:=J2 (n+j) (tE.2 ⟨by omega,hr⟩) (by omega);rwa[Nat.add_sub_cancel_left]at this
 ·rintro⟨oP,oB,pp,bb⟩⟨J,e2,e3⟩;dsimp only at J e2 e3 ⊢;subst e2;subst e3;have hgp:=JT n<|cls (n+m) r h
  have hgb:=JU bs n<|cls (n+m) r h
  rw[mz,mz,wrap_add (by omega)];have hgs:n0 bs n (n+m) r ((cC (n+m) r).take<|k+1)=if Lo bs n (cls (n+m) r h)=true then n0 bs n (n+m) r ((cC (n+m) r).take k)++[SR bs n<|cls (n+m) r h]else n0 bs n (n+m) r ((cC (n+m) r).take k):=by
   unfold n0;rw[hts,I3];split
   ·rw[fX];rfl
   ·rfl
  refine Ym (P:=λx=>x=n0 bs n (n+m) r ((cC (n+m) r).take<|k+1)) (YW (λhb=>?_)<|λhb=>V_ ?_)<|λx e=>V_ ⟨e,J⟩
  ·have hne:Lo bs n (cls (n+m) r h)=true:=bS (by have:=of_decide_eq_true hb;omega);refine Y2 (by simp;omega)<|V_ ?_
   rw[hgs,aG hne];rfl
  ·have hne:¬Lo bs n (cls (n+m) r h)=true:=λh'=>by
    have h1:=of_decide_eq_true h';have h2:=of_decide_eq_false hb;omega
   rw[hgs,aK hne]
end
section
variable {N:Nat}
def oO(n:Nat)(h:ld):Nat:=if h.cL=true then n+h.Number.toNat else h.Number.toNat
structure SU (bs:Z cL) (n m:Nat) (h:ld):Prop where
 num:∃k:Nat,h.Number=((k:Nat):Int)/\(h.cL=true->k<m/\xV bs k=true)/\(h.cL=false->k<n)
def Qx{bs:Z cL}{pcs:Z aL}{l:eQ}{h:ld}(hh:FZ bs pcs l=some h):SU bs pcs.length bs.length h:=by
 unfold FZ at hh
 cases hf:bs.findIdx? (pr l)with
 |some k=>
  rw[hf]at hh;injection hh with hh;subst hh
  obtain⟨hk,hp,_⟩:=List.findIdx?_eq_some_iff_getElem.1 hf;refine⟨k,rfl,λ_=>⟨hk,?_⟩,λh=>by cases h⟩
  grind [pr,xV,aM]
 |none=>
  rw[hf]at hh;dsimp only at hh;rw[tw]at hh;obtain⟨k,hk,rfl⟩:=hh;obtain⟨hk,_⟩:=List.findIdx?_eq_some_iff_getElem.1 hk;exact⟨k,rfl,λh=>(by cases h),λ_=>hk⟩
def Fx(bs:Z cL)(pcs:Z aL)(r:Nat->Nat)(l:eQ):aV Nat:=(FZ bs pcs l).map λh=>gi bs pcs.length (pcs.length+bs.length) r<|r<|oO pcs.length h
def MN(bs:Z cL)(pcs:Z aL)(r:Nat->Nat)(l:eQ):Int:=match Fx bs pcs r l with|some g=>((g:Nat):Int)|none=> -1
def ik(gs:Z bG)(lg:eQ->aV Nat)(ls:Z eQ):Z bG:=gs.mapIdx<|λg x=>{x with aT:=(ls.filter<|λl=>decide<|lg l=some g).map j8}
theorem nj{gs:Z bG}{lg:eQ->aV Nat}{ls:Z eQ}{g:Nat}:(ik gs lg ls)[g]? =(gs[g]?).map λx=>{x with aT:=(ls.filter<|λl=>decide<|lg l=some g).map j8}:=by
 simp[ik,List.getElem?_mapIdx]
def yV(gs:Z bG)(lg:eQ->aV Nat)(ls:Z eQ):(ik gs lg ls).length=gs.length:=by simp[ik,List.length_mapIdx]
def Cc{gs:Z bG}{lg:eQ->aV Nat}{ls:Z eQ}{l:eQ}(h:lg l=none):ik gs lg (ls++[l])=ik gs lg ls:=by
 apply List.ext_getElem?
 grind [nj]
def D7{gs:Z bG}{lg:eQ->aV Nat}{ls:Z eQ}{l:eQ}{k:Nat}{x:bG}(h:lg l=some k)(hx:(ik gs lg ls)[k]? =some x):
  (ik gs lg ls).set k {x with aT:=x.aT++[j8 l]}=ik gs lg (ls++[l]):=by
 apply List.ext_getElem?;intro g;have hk:=(bP.1 hx).1;rw[mB]
 by_cases e:k=g
 ·subst e
  grind [nj,tw]
 grind [nj]
theorem Qy{bs:Z cL}{n t:Nat}{r:Nat->Nat}{i:Nat}(hi:i<n)(ht:i<t):Lo bs n (cls t r<|r i)=true:=by
 unfold Lo;rw[cZ];have:i∈gP n (cls t r<|r i):=nC.2 ⟨tE.2 ⟨ht,rfl⟩,by grind⟩
 grind
theorem Qz{bs:Z cL}{n t:Nat}{r:Nat->Nat}{j:Nat}(hp:xV bs j=true)(ht:n+j<t):Lo bs n (cls t r<|r<|n+j)=true:=by
 unfold Lo;rw[cZ];have:j∈gB bs n (cls t r<|r<|n+j):=dU.2 ⟨n+j,nC.2 ⟨tE.2 ⟨ht,rfl⟩,by simp[hp]⟩,by omega⟩
 grind
structure EV (bs:Z cL) (ls:Z eQ) (pcs:Z aL) (r:Nat->Nat) (gs:Z bG) (ofP ofB tZ:Z Int) (u9:Z ld):Prop where
 conn:RZ pcs.length bs.length (l6 bs pcs) r
 gs:gs=ik (n0 bs pcs.length (pcs.length+bs.length) r<|cC (pcs.length+bs.length) r) (Fx bs pcs r) ls
 of:VP bs pcs.length bs.length r (cC (pcs.length+bs.length) r) ofP ofB
 tZ:tZ=ls.map (MN bs pcs r)
 u9:u9=ls.map (λl=>(FZ bs pcs l).getD ⟨false,0⟩)
def Lq{bs:Z cL}{pcs:Z aL}(hp:pcs.length<=1073741824):∀l∈l6 bs pcs,l.length<=1073741824/\∀x∈l,∃i:Nat,i<pcs.length/\x=((i:Nat):Int):=by
 grind [l6,ET,jg,mz,tX,OB]
def JV{bs:Z cL}{ls:Z eQ}{pcs:Z aL}(hb:mU bs)(hp:pcs.length<=1000000000)(hr:∀p∈pcs,p.jw.length<=1073741824)(hl:ls.length<=1073741824)(hN:4398046511104<=N):
  Ok (iB N bs ls pcs (l6 bs pcs) [] [] [] []) (λx=>∃r,EV bs ls pcs r x.1 x.2.1 x.2.2.1 x.2.2.2.1 x.2.2.2.2):=by
 have hbl:=hb.len;unfold iB;rw[wrap_add (by omega)];obtain⟨up0,u1,u2⟩:=Le (N:=N) (n:=pcs.length+bs.length) (by omega);refine X_ u1 ?_;refine Ym (OC (n:=pcs.length) (m:=bs.length) (by simp[l6]) (Lq (by omega)) (by omega) (by omega) u2 hN) ?_;rintro up1⟨r,v1,v2⟩;refine X_ (wx 0 (by omega))<|X_ (wx 0 (by omega)) ?_
 obtain⟨up2,w1,_⟩:=RX (N:=N) v1 (by omega) (by omega);refine X_ w1 ?_;refine Ym (Lp (bs:=bs) (n:=pcs.length) (m:=bs.length) (r:=r) rfl (by omega) (by omega) (op:=List.replicate pcs.length 0) (ob:=List.replicate bs.length 0) (by simp) (by simp) rfl) ?_;rintro⟨gs,ofP,ofB⟩⟨e1,I⟩;dsimp only at e1 I ⊢;subst e1;have hgl:(n0 bs pcs.length (pcs.length+bs.length) r<|cC (pcs.length+bs.length) r).length<=pcs.length+bs.length:=by
  grind [vP,sH,cC,mT]
 refine Ym (Zk (λ(k:Nat)(st:Z bG×Z Int×Z Int×Z Int×Z ld)=>st=(ik (n0 bs pcs.length (pcs.length+bs.length) r<|cC (pcs.length+bs.length) r) (Fx bs pcs r)<|ls.take k,ofP,ofB,(ls.take k).map<|MN bs pcs r,(ls.take k).map<|λl=>(FZ bs pcs l).getD ⟨false,0⟩)) (by omega) ?_<|λk st hk e=>?_) ?_
 ·congr 1;unfold ik;apply List.ext_getElem?;intro g;rw[List.getElem?_mapIdx];unfold n0;rw[kg]
  cases(live bs pcs.length (pcs.length+bs.length) r<|cC (pcs.length+bs.length) r)[g]? <;> rfl
 ·subst e;dsimp only;have hts:ls.take (k+1)=ls.take k++[ls[k]]:=dN hk;refine Zf hk<|X_ (Qw hb (by omega) hr _) ?_
  dsimp only;refine Ym (P:=λx=>x=(ik (n0 bs pcs.length (pcs.length+bs.length) r<|cC (pcs.length+bs.length) r) (Fx bs pcs r)<|ls.take k++[ls[k]],MN bs pcs r ls[k])) ?_ ?_
  ·cases hh:FZ bs pcs ls[k]with
   |none=>
    refine V_ ?_;have h1:Fx bs pcs r ls[k]=none:=by unfold Fx;rw[hh];rfl
    rw[Cc h1];unfold MN;rw[h1]
   |some h=>
    have h1:Fx bs pcs r ls[k]=some (gi bs pcs.length (pcs.length+bs.length) r<|r<|oO pcs.length h):=by unfold Fx;rw[hh];rfl
    have h2:MN bs pcs r ls[k]=((gi bs pcs.length (pcs.length+bs.length) r (r<|oO pcs.length h):Nat):Int):=by unfold MN;rw[h1]
    obtain⟨q,q1,q2,q3⟩:=(Qx hh).num;have hix:oO pcs.length h<pcs.length+bs.length/\Lo bs pcs.length (cls (pcs.length+bs.length) r<|r<|oO pcs.length h)=true/\jz N ofP ofB h=some ((gi bs pcs.length (pcs.length+bs.length) r (r<|oO pcs.length h):Nat):Int):=by
     unfold jz oO;rw[q1,dA]
     cases hbo:h.cL with
     |true=>
      obtain⟨q4,q5⟩:=q2 hbo;rw[aO,aG rfl];refine⟨by omega,Qz q5 (by omega),?_⟩;have:=I.bo q q4<|kD.2 ⟨by have:=v2.le (pcs.length+q) (by omega);omega,v2.rr _ (by omega)⟩
      rw[aG q5]at this;rw[cK this,aA]
     |false=>
      have q4:=q3 hbo;rw[aR,aK (by simp)];refine⟨by omega,Qy q4 (by omega),?_⟩;have:=I.pc q q4<|kD.2 ⟨by have:=v2.le q (by omega);omega,v2.rr _ (by omega)⟩
      rw[cK this,aA]
    obtain⟨i1,i2,i3⟩:=hix;have hgi:=SS (r:=r) (t:=pcs.length+bs.length) (bs:=bs) (n:=pcs.length) (h:=r<|oO pcs.length h) (kD.2 ⟨by have:=v2.le _ i1;omega,v2.rr _ i1⟩) i2;have hgx:gi bs pcs.length (pcs.length+bs.length) r (r<|oO pcs.length h)<(ik (n0 bs pcs.length (pcs.length+bs.length) r<|cC (pcs.length+bs.length) r) (Fx bs pcs r)<|ls.take k).length:=by
     rw[yV,vP];exact hgi.1
    rw[h2];dsimp only[Option.getD,Option.isSome];rw[aO];refine X_ i3 ?_;generalize gi bs pcs.length (pcs.length+bs.length) r (r<|oO pcs.length h)=g at *;refine Zf hgx<|X_ (xU _) ?_
    have hpl:((ik (n0 bs pcs.length (pcs.length+bs.length) r<|cC (pcs.length+bs.length) r) (Fx bs pcs r)<|ls.take k)[g]).aT.length<=ls.length:=by
     have:=nj (gs:=n0 bs pcs.length (pcs.length+bs.length) r<|cC (pcs.length+bs.length) r) (lg:=Fx bs pcs r) (ls:=ls.take k) (g:=g);rw[aM hgx]at this;have:=this.symm;rw[tw]at this;obtain⟨y,_,hy⟩:=this;rw[<-hy,dQ];have:=iW (λl=>decide<|Fx bs pcs r l=some g)<|ls.take k
     rw[cN]at this;omega
    refine Y2 (by simp;omega)<|Zf hgx<|V_ ?_
    rw[dA];congr 1;exact D7 h1<|aM hgx
  ·rintro _ rfl;dsimp only;refine Y2 (by simp;omega)<|Y2 (by simp;omega)<|V_ ?_
   rw[hts,fX,fX];rfl
 ·rintro st rfl;dsimp only;rw[dK];exact V_ ⟨r,v2,rfl,I,rfl,rfl⟩
end
section
variable {N:Nat}
def EW{p:aL}:∀{fU:Z (Z<|Z aB)}{k:Nat},p∈dJ k fU->∃(i:Nat)(ps:Z (Z aB))(q:Z aB),fU[i]? =some ps/\q∈ps/\p= ⟨((k+i:Nat):Int),q,bF q⟩
 | [],k,h=>by cases h
 |ps::fU,k,h=>by
  rcases dP.1 h with h|h
  ·obtain⟨q,hq,rfl⟩:=dU.1 h;exact⟨0,ps,q,rfl,hq,rfl⟩
  ·obtain⟨i,ps',q,h1,h2,h3⟩:=EW h;refine⟨i+1,ps',q,by grind,h2,?_⟩;rw[h3,show k+1+i=k+(i+1)by omega]
structure tF (a:lj):Prop where
 zq:0<a.aP.length/\a.aP.length<=16
 XG:∀r∈a.aP,lY r=0
 out:lY a.dF=0
 many:a.dF.length+(a.aP.map List.length).sum<=2000
 D8:ko a=0
 D9:qm a=0
def tF.gb{a:lj}(h:tF a):mU a.aZ:=⟨(o4 h.D8).1,λb hb=>⟨((o4 h.D8).2 b hb).1,((o4 h.D8).2 b hb).2.1⟩⟩
def tF.cs{a:lj}(h:tF a):∀r∈a.aP,r.length<=2000/\∀x∈r,H3 x:=λr hr=>Hq (AU.1<|h.XG r hr).1
structure Ea (a:lj) (oc:Z (Z aB)) (fU:Z (Z (Z aB))) (p:aL) (i:Nat) (r:Z aJ) (s:Z aB) (ps:Z (Z aB)) (u:Nat->Nat) (j k:Nat):Prop where
 Ye:a.aP[i]? =some r
 oc:oc[i]? =some s
 fU:fU[i]? =some ps
 dr:yT r (my a.aZ ((i:Nat):Int)) s
 pt:wz s u ps
 at_:ps[j]? =some p.Set
 head:(cC (bF s).length u)[j]? =some k
 set:xQ (rl (bF s) (bF s).length u k) p.Set
 lim:C5 (xO r++xO (my a.aZ ((i:Nat):Int))) (kQ r++kQ (my a.aZ ((i:Nat):Int))) (p.Set.map cO)
 VQ:p.dW=((i:Nat):Int)
 VR:p.jw=bF p.Set
def QA{a:lj}{oc:Z (Z aB)}{fU:Z (Z<|Z aB)}(hg:tF a)(hD:CV a.aP a.aZ a.aP.length oc fU){p:aL}(hp:p∈dJ 0 fU):∃i r s ps u j k,Ea a oc fU p i r s ps u j k:=by
 obtain⟨i,ps,q,h1,h2,rfl⟩:=EW hp;have hil:i<a.aP.length:=by have:=(bP.1 h1).1;rw[hD.FY]at this;exact this
 have hc:a.aP[i]? =some a.aP[i]:=aM hil;have hd:oc[i]? =some (oc[i]'(by rw[hD.len];exact hil)):=aM _;have hdr:=hD.dr i _ _ hil hc hd;obtain⟨u,hu⟩:=hD.pt i _ ps hil hd h1;obtain⟨sx,sy⟩:=hdr.small (hg.cs _<|cP hil).2<|λx hx=>(vO hg.gb _ x hx).1
 obtain⟨j,k,g1,g2,g3,g4⟩:=Ht hu hdr.can hdr.lim sx sy h2;exact⟨i,_,_,ps,u,j,k,hc,hd,h1,hdr,hu,g1,g2,g3,g4,by rw[jW],rfl⟩
def Ea.Ll{a:lj}{oc:Z (Z aB)}{fU:Z (Z<|Z aB)}(hg:tF a){p:aL}{i:Nat}{r:Z aJ}{s:Z aB}{ps:Z (Z aB)}{u:Nat->Nat}{j k:Nat}(h:Ea a oc fU p i r s ps u j k):
  p.Set.length<=5000/\(∀b∈p.Set,b.Xs.length<=5000)/\p.jw.length<=5000*5000:=by
 have h1:=(hg.cs r<|dT h.Ye).1;have h2:=ES hg.gb ((i:Nat):Int);rw[h.VR];exact Bt (A:=5000) h.set.can h.lim (by grind [dC,vK]) (by grind [dC,oL])
def Lr(a0 a1 b0 b1:Int):Bool:=decide (b0<a1)&&decide (a0<b1)
def Ls(a b:aJ):Bool:=Lr a.X0 a.X1 b.X0 b.X1&&Lr a.Y0 a.Y1 b.Y0 b.Y1
def Hu{a0 a1 b0 b1:Int}(h1: -1000000<=a0/\a0<=1000000)(h2: -1000000<=a1/\a1<=1000000)(h3: -1000000<=b0/\b0<=1000000)(h4: -1000000<=b1/\b1<=1000000):∃n,oT N a0 a1 b0 b1=some n/\0<=n/\(n=0↔Lr a0 a1 b0 b1=true):=by
 unfold oT Lr
 grind [wrap,fC]
def Tw{a b:aJ}(h1:gQ a=true)(h2:gQ b=true):∃n,xf N a b=some n/\(n=0↔Ls a b=true):=by
 have b1:=ql h1;have b2:=ql h2;obtain⟨n,n1,n2,n3⟩:=Hu (N:=N) (a0:=a.X0) (a1:=a.X1) (b0:=b.X0) (b1:=b.X1) (by omega) (by omega) (by omega) (by omega);obtain⟨m,m1,m2,m3⟩:=Hu (N:=N) (a0:=a.Y0) (a1:=a.Y1) (b0:=b.Y0) (b1:=b.Y1) (by omega) (by omega) (by omega) (by omega);unfold xf Ls;rw[n1,aA,m1,aA]
 grind
def vQ(x y:cL):Bool:=(decide (x.dS<=y.To)&&decide (y.dS<=x.To))&&Ls (AP x) (AP y)
def vR(a:lj):Prop:=∃(i k:Nat)(x y:cL),k<i/\a.aZ[i]? =some x/\a.aZ[k]? =some y/\vQ x y=true
noncomputable def EX(r:Z aJ):aV Int:=if lY r≠0 then some (lY r)else none
noncomputable def Lt(a:lj):Int:=if 2000<a.dF.length+(a.aP.map List.length).sum then 2 else if ko a≠0 then ko a else if qm a≠0 then qm a else if vR a then 12 else 0
noncomputable def QB(a:lj):Int:=match a.aP.findSome? EX with|some e=>e|none=>if lY a.dF≠0 then lY a.dF else Lt a
noncomputable def nk(a:lj):Int:=if a.aP.length=0 then 9 else if 16<a.aP.length then 2 else QB a
def TM(oc:Z (Z aB))(fU:Z (Z<|Z aB)):Prop:=(∀s∈oc,(bF s).length<=2000)/\(dJ 0 fU).length<=2000
abbrev Hv:=Z (Z aJ)×Z aJ×Z cL×Z eQ×Z (Z aB)×Z aL×Z (Z Int)×Z bG×Z Int×Z Int×Z Int×Z ld
def SV(a:lj)(x:aV Hv×Int):Prop:=
 (nk a≠0/\x=(none,nk a))\/(nk a=0/\tF a/\¬vR a/\∃oc fU,CV a.aP a.aZ a.aP.length oc fU/\
  ((¬TM oc fU/\x=(none,2))\/(TM oc fU/\∃r gs ofP ofB tZ u9,EV a.aZ a.bW (dJ 0 fU) r gs ofP ofB tZ u9/\
   x=(some (a.aP,a.dF,a.aZ,a.bW,oc,dJ 0 fU,l6 a.aZ (dJ 0 fU),gs,ofP,ofB,tZ,u9),0))))
structure vS (a:lj):Prop where
 cs:a.aP.length<=1048576
 each:∀r∈a.aP,r.length<=1048576
 out:a.dF.length<=1048576
 bs:a.aZ.length<=1048576
 ls:a.bW.length<=1048576
 nm:Hr a
def Lu{a:lj}(h:bk a<=1048576):vS a:=by
 rw[Qc]at h;have h1:=kB a.aP;have h2:=kB a.dF;have h3:=kB a.aZ;have h4:=kB a.bW;refine⟨by omega,λr hr=>?_,by omega,by omega,by omega,λx hx=>?_⟩
 ·have:=wQ hr
  grind [kB]
 ·have:=wQ hx
  grind [NF,yt]
def I4{a:lj}(hs:vS a)(hN:4398046511104<=N):Ok (kb N a) (SV a):=by
 unfold kb;have pe:∀e:Int,e≠0->nk a=e->Ok (some ((none:aV Hv),e)) (SV a):=λe he h=>V_<|.inl ⟨by omega,by rw[h]⟩
 have c1:=hs.cs;refine YW (λh=>?_)<|λh=>?_
 ·grind [nk]
 have h0:¬a.aP.length=0:=by grind
 refine YW (λh=>?_)<|λh=>?_
 ·grind [nk]
 have h1:¬16<a.aP.length:=by grind
 have pe1:nk a=QB a:=by grind [nk]
 have hso:=hs.out;have sumle:∀k,k<=a.aP.length->((a.aP.take k).map List.length).sum<=k*1048576:=by
  intro k
  induction k with
  |zero=>intro _;simp
  |succ k ih=>
   intro hk;have:=ih (by omega);have h2:=hs.each _<|cP (show k<a.aP.length by omega)
   rw[dN (by omega),fX,List.sum_append]
   grind
 refine Ym (aa8 (Go:=λs:Int=>s=((a.dF.length+(a.aP.map List.length).sum:Nat):Int)/\∀r∈a.aP,lY r=0) (Rt:=λx:aV Hv×Int=>∃e,e≠0/\x=(none,e)/\a.aP.findSome? EX=some e)
  (λ(k:Nat)(s:Int)=>s=((a.dF.length+((a.aP.take k).map List.length).sum:Nat):Int)/\∀r∈a.aP.take k,lY r=0) (by omega) ⟨by simp,λr hr=>by simp at hr⟩ (λk s hk hI=>?_) (λs hI=>by grind)) ?_
 ·obtain⟨e,hI⟩:=hI;subst e;have hkx:a.aP[k]? =some a.aP[k]:=aM hk;have hts:a.aP.take (k+1)=a.aP.take k++[a.aP[k]]:=dN hk;have he:=hs.each _<|cP hk
  refine Yx hkx<|X_ (AR (by omega) hN) ?_
  refine YW (λh=>Zg ?_)<|λh=>YK ?_
  ·have h:lY a.aP[k]≠0:=by simpa using h
   refine⟨_,h,rfl,?_⟩
   grind [List.findSome?_eq_some_iff,EX,wh,List.take_append_drop]
  ·have h:lY a.aP[k]=0:=by simpa using h
   have:=sumle k (by omega);have hk16:k*1048576<=16*1048576:=Nat.mul_le_mul_right _ (by omega);refine⟨?_,λr hr=>?_⟩
   ·rw[wrap_add (by omega),hts,fX,List.sum_append];simp only[fI,List.map_nil,List.sum_cons,List.sum_nil];congr 1;omega
   ·rw[hts]at hr
    rcases dP.1 hr with hr|hr
    ·exact hI r hr
    ·simp at hr;subst hr;exact h
 intro o ho;refine YS ho ?_ ?_
 rotate_left
 ·rintro x⟨e,he,rfl,hf⟩;exact pe e he (by rw[pe1];unfold QB;rw[hf])
 rintro s⟨rfl,hreg⟩;have TW:a.aP.findSome? EX=none:=List.findSome?_eq_none_iff.2 λr hr=>by unfold EX;rw[aK (by simpa using hreg r hr)]
 have pe2:nk a=if lY a.dF≠0 then lY a.dF else Lt a:=by rw[pe1];unfold QB;rw[TW]
 refine X_ (AR (by omega) hN) ?_;refine YW (λh=>?_)<|λh=>?_
 ·have h:lY a.dF≠0:=by simpa using h
  exact pe _ h (by rw[pe2,aG h])
 have hout:lY a.dF=0:=by simpa using h
 have pe3:nk a=Lt a:=by rw[pe2,aK (by simpa using hout)]
 refine YW (λh=>?_)<|λh=>?_
 ·have h:2000<a.dF.length+(a.aP.map List.length).sum:=by have:=of_decide_eq_true h;omega
  exact pe 2 (by omega) (by rw[pe3];unfold Lt;rw[aG h])
 have hmany:¬2000<a.dF.length+(a.aP.map List.length).sum:=by have:=of_decide_eq_false h;omega
 have hbs:=hs.bs;have hls:=hs.ls;refine X_ (Iq (by omega) (by omega) (by omega)) ?_;refine YW (λh=>?_)<|λh=>?_
 ·have h:ko a≠0:=by simpa using h
  exact pe _ h (by rw[pe3];unfold Lt;rw[aK hmany,aG h])
 have hbo:ko a=0:=by simpa using h
 refine X_ (Ir (by omega) (by omega) hs.nm (by omega)) ?_;refine YW (λh=>?_)<|λh=>?_
 ·have h:qm a≠0:=by simpa using h
  exact pe _ h (by rw[pe3];unfold Lt;rw[aK hmany,aK (by simpa using hbo),aG h])
 have hla:qm a=0:=by simpa using h
 have hg:tF a:=⟨by omega,hreg,hout,by omega,hbo,hla⟩;have pe4:nk a=if vR a then 12 else 0:=by rw[pe3];unfold Lt;rw[aK hmany,aK (by simpa using hbo),aK (by simpa using hla)]
 refine Ym (aa8 (Go:=λ_:Unit=>¬vR a) (Rt:=λx:aV Hv×Int=>x=(none,12)/\vR a)
  (λ(k:Nat)(_:Unit)=>∀(i j:Nat)(x y:cL),i<k->j<i->a.aZ[i]? =some x->a.aZ[j]? =some y->¬vQ x y=true) (by omega) (λi j x y h=>by omega) (λk s hk hI=>?_) (λs hI=>?_)) ?_
 ·have hkx:a.aZ[k]? =some a.aZ[k]:=aM hk;refine Yx hkx<|X_ (nT _ k (by omega)) ?_
  have hgk:=hg.gb.ok _<|cP hk
  refine Ym (aa8 (Go:=λ_:Unit=>∀(j:Nat)(y:cL),j<k->a.aZ[j]? =some y->¬vQ a.aZ[k] y=true) (Rt:=λx:aV Hv×Int=>x=(none,12)/\vR a)
   (λ(t:Nat)(_:Unit)=>∀(j:Nat)(y:cL),j<t->a.aZ[j]? =some y->¬vQ a.aZ[k] y=true) (by rw[cN];omega) (λj y h=>by omega) (λt s ht hI2=>?_) (λs hI2 j y hj hy=>hI2 j y (by rw[cN];omega) hy)) ?_
  ·have htk:t<k:=by rw[cN]at ht;omega
   have htx:(a.aZ.take k)[t]? =some a.aZ[t]:=by rw[List.getElem?_take_of_lt htk];exact aM (by omega)
   have hgt:=hg.gb.ok _<|cP (show t<a.aZ.length by omega)
   refine Yx htx ?_;refine X_ (x:=vQ a.aZ[k] a.aZ[t]) ?_ ?_
   ·unfold vQ
    cases hc:(decide (a.aZ[k].dS<=a.aZ[t].To)&&decide (a.aZ[t].dS<=a.aZ[k].To))with
    |false=>rfl
    |true=>
     obtain⟨n,n1,n2⟩:=Tw (N:=N) hgk.2 hgt.2;rw[aO,qj hgk.1,aA,qj hgt.1,aA,n1,aA,Bool.true_and];congr 1;rw[fY,beq_iff_eq];exact n2
   ·refine YW (λh=>Zg ⟨rfl,k,t,_,_,htk,hkx,aM (by omega),h⟩)<|λh=>YK λj y hj hy=>?_
    by_cases e:j<t
    ·exact hI2 j y e hy
    ·have:j=t:=by omega
     subst this;rw[aM (by omega)]at hy;injection hy with hy
     rw[<-hy,h];simp
  ·intro o ho;refine YS ho (λs hI2=>YK λi j x y hi hj hx hy=>?_)<|λx hx=>Zg hx
   by_cases e:i<k
   ·exact hI i j x y e hj hx hy
   ·have:i=k:=by omega
    subst this;rw[hkx]at hx;injection hx with hx
    rw[<-hx];exact hI2 j y hj hy
 ·rintro⟨i,j,x,y,hj,hx,hy,hc⟩;exact hI i j x y (bP.1 hx).1 hj hx hy hc
 intro o ho;refine YS ho ?_ ?_
 rotate_left
 ·rintro x⟨rfl,hc⟩;exact pe 12 (by omega) (by rw[pe4,aG hc])
 intro _ hncl;have pe5:nk a=0:=by rw[pe4,aK hncl]
 refine Ym (MM (N:=N) (by omega) hg.cs hg.gb hN) ?_;rintro⟨okk,oc,pcs⟩⟨fU,D,e1,e2⟩;dsimp only at D e1 e2 ⊢;subst e1;refine YW (λh=>V_<|.inr ⟨pe5,hg,hncl,oc,fU,D, .inl ⟨λhf=>?_,rfl⟩⟩)<|λh=>?_
 ·have:=e2.2 hf;rw[this]at h;cases h
 ·have hf:TM oc fU:=e2.1 (by cases okk <;> simp_all);have hpr:∀p∈dJ 0 fU,p.jw.length<=1073741824:=λp hp=>by
   obtain⟨i,r,s,ps,u,j,k,hP⟩:=QA hg D hp;have:=(hP.Ll hg).2.2;omega
  have hf2:=hf.2;refine X_ (Qv hg.gb (by omega) hpr) ?_;refine Ym (JV (N:=N) hg.gb (by omega) hpr (by omega) hN) ?_;rintro⟨gs,ofP,ofB,tZ,u9⟩⟨r,hC⟩;exact V_<|.inr ⟨pe5,hg,hncl,oc,fU,D, .inr ⟨hf,r,gs,ofP,ofB,tZ,u9,hC,rfl⟩⟩
end
section
variable {N:Nat}
def NR{w:Nat}{g:Nat->Nat}{a:Nat}:∀{ks:Z Nat},ks.Nodup->a∈ks->(ks.map<|λk=>(if a=k then w else 0)+g k).sum=w+(ks.map g).sum
 | [],_,h=>by cases h
 |k::ks,hn,h=>by
  have hn':=List.nodup_cons.1 hn;simp only[fI,List.sum_cons]
  by_cases e:a=k
  ·subst e;rw[aG rfl];have:ks.map (λk=>(if a=k then w else 0)+g k)=ks.map g:=List.map_congr_left λx hx=>by
    rw[aK<|λe=>hn'.1 (by rw[e];exact hx),jW]
   rw[this];omega
  ·rw[aK e,NR hn'.2 (by rcases eJ.1 h with h|h;exact absurd h e;exact h)];omega
def Lv{α:Type}{ks:Z Nat}(hn:ks.Nodup)(f w:α->Nat):∀{l:Z α},(∀x∈l,f x∈ks)->(ks.map<|λk=>((l.filter<|λx=>decide<|f x=k).map w).sum).sum=(l.map w).sum
 | [],_=>by
  have:∀ks:Z Nat,(ks.map<|λ_=>0).sum=0:=λks=>by
   induction ks with
   |nil=>rfl
   |cons k ks ih=>simp only[fI,List.sum_cons,ih]
  simpa using this ks
 |x::l,h=>by
  have ih:=Lv hn f w (l:=l) λy hy=>h y<|kh _ hy
  have:ks.map (λk=>(((x::l).filter<|λx=>decide<|f x=k).map w).sum)=ks.map (λk=>(if f x=k then w x else 0)+((l.filter<|λx=>decide<|f x=k).map w).sum):=List.map_congr_left λk _=>by
   rw[List.filter_cons]
   by_cases e:f x=k
   ·rw[aG (by simpa using e),aG e,fI,List.sum_cons]
   ·rw[aK (by simpa using e),aK e,jW]
  rw[this,NR hn<|h x (by simp),ih,fI,List.sum_cons]
def NS(s:Z aB):kF:=match s with|b::_=>⟨b.Xs.headD 0,b.Y0⟩| []=>⟨0,0⟩
def Ea.ne{a:lj}{oc:Z (Z aB)}{fU:Z (Z<|Z aB)}{p:aL}{i:Nat}{r:Z aJ}{s:Z aB}{ps:Z (Z aB)}{u:Nat->Nat}{j k:Nat}(h:Ea a oc fU p i r s ps u j k):p.Set≠[]:=by
 intro e;have hh:=kD.1<|dT h.head
 have hx:(bF s)[k]? =some (bF s)[k]:=aM hh.1;have hm:(bF s)[k]∈rl (bF s) (bF s).length u k:=oM.2 ⟨k,hh.1,hh.2,hx⟩;obtain⟨b,hb,q,hq,hr⟩:=u7<|dT hx
 have hbm:cO b∈s.map cO:=dU.2 ⟨b,hb,rfl⟩;have hq1:=MG (h.dr.can.each _ hbm).2.2.1 q hq;have hb1:=(h.dr.can.each _ hbm).1;have hc:=h.set.cover q.1 b.Y0;rw[e]at hc;have:xJ (rl (bF s) (bF s).length u k) q.1 b.Y0=true:=lX.2 ⟨_,hm,by rw[hr];exact⟨⟨Int.le_refl _,hq1⟩,Int.le_refl _,hb1⟩⟩;rw[this]at hc
 cases hc
structure sI (a:lj) (oc:Z (Z aB)) (fU:Z (Z (Z aB))) (r:Nat->Nat) (gs:Z bG) (ofP ofB tZ:Z Int) (u9:Z ld):Prop where
 Eb:tF a
 Yh:¬vR a
 dr:CV a.aP a.aZ a.aP.length oc fU
 zq:TM oc fU
 QC:EV a.aZ a.bW (dJ 0 fU) r gs ofP ofB tZ u9
inductive Tx (N:Nat) (a:lj):Prop
 |err (e:Int) (he:e≠0) (h:kb N a=some (none,e))
 |ok {oc:Z (Z aB)} {fU:Z (Z (Z aB))} {r:Nat->Nat} {gs:Z bG} {ofP ofB tZ:Z Int} {u9:Z ld} (b:sI a oc fU r gs ofP ofB tZ u9)
  (h:kb N a=some (some (a.aP,a.dF,a.aZ,a.bW,oc,dJ 0 fU,l6 a.aZ<|dJ 0 fU,gs,ofP,ofB,tZ,u9),0))
def opened{a:lj}(hs:vS a)(hN:4398046511104<=N):Tx N a:=by
 obtain⟨x,hx,hI⟩:=I4 (N:=N) hs hN
 rcases hI with⟨he,rfl⟩|⟨_,hg,hcl,oc,fU,D,⟨_,rfl⟩|⟨hf,r,gs,ofP,ofB,tZ,u9,hC,rfl⟩⟩
 ·exact .err _ he hx
 ·exact .err 2 (by omega) hx
 ·exact .ok ⟨hg,hcl,D,hf,hC⟩ hx
end
section
variable {S R:Type}
def Zc{body:S->aV (Fl S R)}{N n:Nat}{s:S}(ι:S->Int)(Inv:Nat->S->Prop){Go:S->Prop}{Rt:R->Prop}
  (h1:∀k s,k<n->ι s=((k:Nat):Int)->Inv k s->Ok (body s) (Pb (λs'=>ι s'=((k+1:Nat):Int)/\Inv (k+1) s') Go Rt))
  (h2:∀s,ι s=((n:Nat):Int)->Inv n s->Ok (body s) (Pb (λ_=>False) Go Rt))
  {k0:Nat} (hk:k0<=n) (hi:ι s=((k0:Nat):Int)) (h0:Inv k0 s) (hn:n<N):Ok (Gk.iL body N s) (Ra Go Rt):=by
 refine Zl (λs=>∃k:Nat,k<=n/\ι s=((k:Nat):Int)/\Inv k s) (λs=>n -(ι s).toNat) ?_ ⟨k0,hk,hi,h0⟩ (by omega);rintro s⟨k,hk,e,hI⟩
 by_cases hlt:k<n
 ·refine(h1 k s hlt e hI).mono ?_;rintro(s'|s'|r)hp
  ·have hp1:ι s'=((k+1:Nat):Int):=hp.1;exact⟨⟨k+1,hlt,hp.1,hp.2⟩,by omega⟩
  ·exact hp
  ·exact hp
 grind
theorem jT{k n:Nat}(h:k<n):decide (((k:Nat):Int)<((n:Nat):Int))=true:=bS (by omega)
def pI(n:Nat):decide (((n:Nat):Int)<((n:Nat):Int))=false:=cF (by omega)
theorem AV{k n:Nat}(h:n<=k):decide (((k:Nat):Int)<((n:Nat):Int))=false:=cF (by omega)
end
theorem uK{α:Type}{p:α->Bool}:∀{l:Z α}{k:Nat},(∀(j:Nat)x,j<k->l[j]? =some x->p x=true)->(∀x,l[k]? =some x->p x=false)->l.takeWhile p=l.take k/\l.dropWhile p=l.drop k
 | [],k,_,_=>by simp
 |y::l,0,_,h2=>by
  have:=h2 y rfl;rw[List.takeWhile_cons,List.dropWhile_cons,this];simp
 |y::l,k+1,h1,h2=>by
  have h:=h1 0 y (by omega) rfl;obtain⟨e1,e2⟩:=uK (l:=l) (k:=k) (λj x hj hx=>h1 (j+1) x (by omega) hx)<|λx hx=>h2 x hx
  rw[List.takeWhile_cons,List.dropWhile_cons,h,aG rfl,aG rfl,e1,e2];simp
section
variable {N:Nat}
def uL(l:Z Int)(c:Int):Z Int:=if c∈l then l else l.takeWhile (λx=>decide<|x<c)++c::l.dropWhile (λx=>decide<|x<c)
def Ec(l:Z Int)(c:Int):(uL l c).length<=l.length+1:=by
 grind [uL,decide,dC,List.takeWhile_append_dropWhile,dO]
def Hx{l:Z Int}{c x:Int}:x∈uL l c↔x∈l\/x=c:=by
 grind [uL,decide,List.takeWhile_append_dropWhile]
def R0{l:Z Int}(h:k6 l)(c:Int):∀x∈l.dropWhile (λx=>decide<|x<c),c<=x:=by
 induction l with
 |nil=>simp
 |cons a l ih=>
  rw[List.dropWhile_cons]
  by_cases ha:a<c
  ·rw[aG (by grind)];exact ih h.tail
  ·rw[aK (by grind)];intro x hx
   rcases eJ.1 hx with rfl|hx
   ·omega
   ·have:=h.head x hx;omega
def R1(l:Z Int)(c:Int):∀x∈l.takeWhile (λx=>decide<|x<c),x<c:=by
 induction l with
 |nil=>simp
 |cons a l ih=>
  rw[List.takeWhile_cons]
  grind
def xW{l:Z Int}{c:Int}(h:k6 l):k6 (uL l c):=by
 unfold uL;split
 ·exact h
 ·rename_i hc;have hs:=h;rw[<-List.takeWhile_append_dropWhile (p:=λx=>decide<|x<c) (l:=l)]at hs;unfold k6 at hs ⊢;rw[nD]at hs ⊢;refine⟨hs.1,r6.2 ⟨λx hx=>?_,hs.2.1⟩,λx hx y hy=>?_⟩
  ·have h1:=R0 h c x hx
   grind [List.takeWhile_append_dropWhile,decide,List.mem_append_right]
  ·have h1:=R1 l c x hx
   grind
def mI(l:Z Int):Z Int:=l.foldl uL []
def yW:∀(cs l:Z Int),k6 l->k6 (cs.foldl uL l)/\(∀x,x∈cs.foldl uL l↔x∈l\/x∈cs)/\(cs.foldl uL l).length<=l.length+cs.length
 | [],l,h=>⟨h,λx=>by simp,by simp⟩
 |c::cs,l,h=>by
  obtain⟨h1,h2,h3⟩:=yW cs (uL l c)<|xW h
  refine⟨h1,λx=>?_,?_⟩
  ·rw[List.foldl_cons,h2,Hx,eJ,or_assoc]
  ·rw[List.foldl_cons,dO];have:=Ec l c;omega
def qH(l:Z Int):k6 (mI l):=(yW l [] lf).1
theorem I5{l:Z Int}{x:Int}:x∈mI l↔x∈l:=by
 have:=(yW l [] lf).2.1 x
 grind [mI]
theorem xX(l:Z Int):(mI l).length<=l.length:=by
 have:=(yW l [] lf).2.2
 grind [mI]
def AW(l:Z Int)(c d:Int):mI (l++[c,d])=uL (uL (mI l) c) d:=by simp[mI,List.foldl_append]
def MO{a b:Nat}(h:a+b<=4611686018427387904):wrap .i64 (Int.tdiv (wrap .i64<|((a:Nat):Int)+((b:Nat):Int)) 2)=(((a+b) / 2:Nat):Int):=by
 grind [wrap_add,Int.tdiv_eq_ediv_of_nonneg,fC]
def Bu{l:Z Int}{c:Int}(h:k6 l)(hl:l.length<=1099511627776)(hN:4398046511104<=N):gE N l c=some (uL l c):=by
 refine Y9 ?_;unfold gE
 refine Ym (Zl (Go:=λst:Int×Int=>∃a:Nat,st.1=((a:Nat):Int)/\a<=l.length/\(∀(j:Nat)x,j<a->l[j]? =some x->x<c)/\(∀(j:Nat)x,a<=j->l[j]? =some x->c<=x)) (Rt:=λ_=>True)
  (λst=>∃a b:Nat,st=(((a:Nat):Int),((b:Nat):Int))/\a<=b/\b<=l.length/\(∀(j:Nat)x,j<a->l[j]? =some x->x<c)/\(∀(j:Nat)x,b<=j->l[j]? =some x->c<=x))
  (λst=>(st.2 - st.1).toNat) ?_ ⟨0,l.length,rfl,by omega,cG _,λj x hj=>by omega,λj x hj hx=>by grind⟩ (by omega)) ?_
 ·rintro st⟨a,b,rfl,hab,hb,h1,h2⟩;dsimp only
  by_cases hlt:a<b
  ·have hm:(a+b) / 2<l.length:=by omega
   have hx:l[(a+b) / 2]? =some l[(a+b) / 2]:=aM hm;rw[jT hlt,aO,MO (by omega)];refine Yx hx ?_
   by_cases hc:l[(a+b) / 2]<c
   ·rw[bS hc,aO,aA];refine YK ⟨⟨(a+b) / 2+1,b,?_,by omega,hb,λj x hj hx'=>?_,h2⟩,?_⟩
    ·rw[bR (by omega)]
    ·by_cases e:j=(a+b) / 2
     ·grind
     ·have:=h.lt (i:=j) (j:=(a+b) / 2) (by omega) hx' hx;omega
    ·rw[bR (by omega)];omega
   ·rw[cF hc,aR,aA];refine YK ⟨⟨a,(a+b) / 2,rfl,by omega,by omega,h1,λj x hj hx'=>?_⟩,by simp only;omega⟩
    by_cases e:j=(a+b) / 2
    ·subst e;rw[hx]at hx';injection hx' with hx';omega
    ·have:=h.lt (i:=(a+b) / 2) (j:=j) (by omega) hx hx';omega
  ·rw[AV (by omega),aR];exact YO ⟨a,rfl,by omega,h1,λj x hj hx=>h2 j x (by omega) hx⟩
 intro o ho;refine YS ho ?_<|λr hr=>r.elim
 rintro⟨st1,st2⟩⟨a,ha,hle,h1,h2⟩;dsimp only at ha ⊢;subst ha;have hin:l[a]? =some c->uL l c=l:=λhx=>by unfold uL;rw[aG<|dT hx]
 have hout:l[a]? ≠some c->uL l c=l.take a++c::l.drop a:=λhx=>by
  have hc:c∉l:=λhc=>by
   obtain⟨j,hj⟩:=dD hc
   by_cases h3:j<a
   ·have:=h1 j c h3 hj;omega
   ·by_cases e:j=a
    ·subst e;exact hx hj
    ·have h5:a<l.length:=by have:=(bP.1 hj).1;omega
     have h6:l[a]? =some l[a]:=aM h5;have h7:=h.lt (i:=a) (j:=j) (by omega) h6 hj;have h8:=h2 a _ (cG _) h6;omega
  unfold uL;rw[aK hc];obtain⟨e1,e2⟩:=uK (p:=λx=>decide<|x<c) (l:=l) (k:=a) (λj x hj hx'=>bS<|h1 j x hj hx')<|λx hx'=>cF (by have:=h2 a x (cG _) hx';omega)
  rw[e1,e2]
 have hrest:l[a]? ≠some c->Ok ((ui l 0 ((a:Nat):Int)).bind λx49=>(app 8 ([]:Z Int) x49).bind λx51=>(app 8 x51 ([c]:Z Int)).bind λx54=>(ui l ((a:Nat):Int) ((l.length:Nat):Int)).bind λx56=>(app 8 x54 x56).bind λx58=>some x58) (λr=>r=uL l c):=λhx=>by
  have htk:(l.take a).length=a:=by rw[cN];omega
  refine X_ (nT l a hle)<|Y2 (by simp only[List.length_nil];omega)<|Y2 (by rw[List.nil_append];simp only[dO,List.length_nil];omega)<|X_ (q7 l a hle)<|Y2 ?_<|V_ ?_
  ·rw[List.nil_append,dC,lS];simp only[dO,List.length_nil];omega
  ·rw[hout hx];simp
 by_cases hlt:a<l.length
 ·have hx:l[a]? =some l[a]:=aM hlt;rw[jT hlt,aO,cK hx,aA,aA];refine YW (λhb=>V_ ?_)<|λhb=>hrest ?_
  ·rw[beq_iff_eq]at hb;rw[hin (by rw[hx,hb])]
  ·rw[beq_eq_false_iff_ne]at hb;rw[hx];intro e;injection e with e;exact hb e
 ·rw[AV (by omega),aR,aA,aR];exact hrest (by rw[List.getElem?_eq_none (by omega)];intro e;cases e)
def Lw(l m:Z aJ):kQ (l++m)=kQ l++kQ m:=List.flatMap_append
def Hy{l:Z aJ}(hl:l.length<=268435456)(hN:4398046511104<=N):i6 N l=some (mI<|kQ l):=by
 refine Y9 ?_;unfold i6;refine Ym (Zc (n:=l.length) (λs=>s.2) (λk s=>s.1=mI (kQ<|l.take k)) (Go:=λs=>s.1=mI (kQ l)) (Rt:=λ_=>False) ?_ ?_ (dH _) rfl rfl (by omega)) ?_
 ·rintro k⟨out,i⟩hk e hI;dsimp only at e hI ⊢;subst e;subst hI;rw[jT hk,aO];have hx:l[k]? =some l[k]:=aM hk;have h1:=xX<|kQ<|l.take k
  rw[oL,cN]at h1;have h2:=Ec (mI<|kQ<|l.take k) l[k].Y0;refine Yx hx<|Yx hx<|X_ (Bu (qH _) (by omega) hN)<|X_ (Bu (xW<|qH _) (by omega) hN)<|YK ⟨bR (by omega),?_⟩
  rw[dN hk,Lw];exact(AW _ _ _).symm
 ·rintro⟨out,i⟩e hI;dsimp only at e hI ⊢;subst e;rw[pI,aR];exact YO (by rw[dK]at hI;exact hI)
 intro o ho;exact YS ho (λs hs=>V_ hs)<|λr hr=>hr.elim
def sp(s:aF):Int×Int:=(s.from_,s.to)
theorem QD:∀{l m:Z aF},l.map sp=m.map sp->l=m
 | [],[],_=>rfl
 | [],_::_,h=>by cases h
 |_::_,[],h=>by cases h
 |⟨a,b⟩::l,⟨c,d⟩::m,h=>by
  rw[fI,fI]at h;injection h with h1 h2
  unfold sp at h1;injection h1 with h3 h4
  simp only at h3 h4;rw[h3,h4,QD h2]
theorem Bv(a b:Int):(if b<a then b else a)=min a b:=by omega
theorem Bw(a b:Int):(if a<b then b else a)=max a b:=by omega
def I6{l:Z aF}{s:aF}(hl:l.length<=268435456)(hN:4398046511104<=N):Ok (jF N l s) (λr=>r.map sp=oz (l.map sp) (sp s)):=by
 unfold jF;have hget:∀(j:Nat)(x:Int×Int),(l.map sp)[j]? =some x->∃y,l[j]? =some y/\x=sp y:=λj x h=>by
  grind
 refine Ym (Zl (Go:=λst:Z aF×Int=>∃k:Nat,st=(l.take k,((k:Nat):Int))/\k<=l.length/\(∀(j:Nat)x,j<k->l[j]? =some x->x.to<s.from_)/\(∀x,l[k]? =some x->¬x.to<s.from_)) (Rt:=λ_=>False)
  (λst=>∃k:Nat,st=(l.take k,((k:Nat):Int))/\k<=l.length/\∀(j:Nat)x,j<k->l[j]? =some x->x.to<s.from_) (λst=>l.length - st.2.toNat) ?_ ⟨0,by simp,by omega,λj x hj=>by omega⟩ (by simp;omega)) ?_
 ·rintro st⟨k,rfl,hk,hI⟩;dsimp only
  by_cases hlt:k<l.length
  ·have hx:l[k]? =some l[k]:=aM hlt;rw[jT hlt,aO,cK hx,aA,aA];refine YW (λhb=>?_)<|λhb=>?_
   ·have hb:=of_decide_eq_true hb;refine X_ rfl<|Y2 ?_<|YK ⟨⟨k+1,?_,hlt,?_⟩,?_⟩
    ·grind
    all_goals grind [bR,dN,dA]
   grind [of_decide_eq_false,YO]
  grind [AV,aA,YO,bP]
 intro o ho;refine YS ho ?_<|λr hr=>hr.elim
 rintro st⟨k,rfl,hk,hI,hE⟩;dsimp only
 obtain⟨e1,e2⟩:=uK (p:=λa:Int×Int=>decide (a.2<(sp s).1)) (l:=l.map sp) (k:=k) (λj x hj hx=>by
  obtain⟨y,hy,rfl⟩:=hget j x hx
  exact bS (hI j y hj hy)) (λx hx=>by
  obtain⟨y,hy,rfl⟩:=hget k x hx
  exact cF (hE y hy))
 refine Ym (Zl (Go:=λst:aF×Int=>∃i:Nat,st.2=((i:Nat):Int)/\i<=l.length/\mN (sp s) ((l.drop k).map sp)=(sp st.1,(l.drop i).map sp)) (Rt:=λ_=>False)
  (λst=>∃i:Nat,st.2=((i:Nat):Int)/\i<=l.length/\mN (sp s) ((l.drop k).map sp)=mN (sp st.1) ((l.drop i).map sp)) (λst=>l.length - st.2.toNat) ?_ ⟨k,rfl,hk,rfl⟩ (by omega)) ?_
 ·rintro⟨s',i'⟩⟨i,e,hi,hm⟩;dsimp only at e hm ⊢;subst e
  by_cases hlt:i<l.length
  ·have hx:l[i]? =some l[i]:=aM hlt;have hd:(l.drop i).map sp=sp l[i]::(l.drop<|i+1).map sp:=by rw[wh hlt,fI]
   rw[jT hlt,aO,cK hx,aA,aA];refine YW (λhb=>?_)<|λhb=>?_
   ·have hb:=of_decide_eq_true hb;refine X_ rfl<|X_ rfl<|YK ⟨⟨i+1,bR (by omega),hlt,?_⟩,?_⟩
    ·rw[hm,hd]
     conv=>lhs;unfold mN
     rw[aG (show(sp l[i]).1<=(sp s').2 from hb),Bv,Bw];rfl
    ·dsimp only;rw[bR (by omega)];simp only[dA];omega
   ·have hb:=of_decide_eq_false hb;refine YO ⟨i,rfl,hi,?_⟩;rw[hm,hd]
    conv=>lhs;unfold mN
    rw[aK (show ¬(sp l[i]).1<=(sp s').2 from hb)]
  ·rw[AV (by omega),aR,aA,aR];refine YO ⟨i,rfl,hi,?_⟩;rw[hm,List.drop_eq_nil_of_le (by omega)];rfl
 intro o ho;refine YS ho ?_<|λr hr=>hr.elim
 rintro⟨s',i'⟩⟨i,e,hi,hm⟩;dsimp only at e hm ⊢;subst e;refine Y2 ?_<|X_ (q7 l i hi)<|Y2 ?_<|V_ ?_
 ·rw[cN];simp only[dO,List.length_nil];omega
 ·rw[dC,cN,lS];simp only[dO,List.length_nil];omega
 ·unfold oz;rw[e1,e2,<-List.map_take,<-List.map_drop,hm];simp
theorem Hz:∀(l:Z (Int×Int))(s:Int×Int),(mN s l).2.length<=l.length
 | [],s=>cG _
 |a::l,s=>by
  unfold mN;split
  ·have:=Hz l (min s.1 a.1,max s.2 a.2);rw[dO];omega
  ·exact cG _
def Fy(l:Z (Int×Int))(s:Int×Int):(oz l s).length<=l.length+1:=by
 grind [oz,Hz,decide,dC,List.takeWhile_append_dropWhile,dO]
def lC(y:Int)(out:Z (Int×Int))(r:aJ):Z (Int×Int):=if r.Y0<=y/\y<r.Y1 then oz out (r.X0,r.X1)else out
def oD(l:Z aJ)(y:Int):Z (Int×Int):=l.foldl (lC y) []
def OE(l:Z aJ)(r:aJ)(y:Int):oD (l++[r]) y=lC y (oD l y) r:=by simp[oD,List.foldl_append]
theorem Fz(y:Int):∀(l:Z aJ)(out:Z (Int×Int)),(l.foldl (lC y) out).length<=out.length+l.length
 | [],out=>by simp
 |r::l,out=>by
  rw[List.foldl_cons,dO];have h1:=Fz y l<|lC y out r
  have h2:(lC y out r).length<=out.length+1:=by
   unfold lC;split
   ·exact Fy _ _
   ·omega
  omega
theorem xY(l:Z aJ)(y:Int):(oD l y).length<=l.length:=by
 grind [Fz,oD]
def Ed(y:Int):∀(l:Z aJ)(out:Z (Int×Int)),(∀r∈l,r.X0<r.X1)->k6 (dV out)->k6 (dV<|l.foldl (lC y) out)/\∀x,kP (l.foldl (lC y) out) x=(kP out x||xJ l x y)
 | [],out,_,h=>⟨h,λx=>by simp[xJ]⟩
 |r::l,out,hr,h=>by
  have h0:=hr r (by simp);rw[List.foldl_cons];have hst:k6 (dV<|lC y out r)/\∀x,kP (lC y out r) x=(kP out x||((decide (r.X0<=x)&&decide (x<r.X1))&&(decide (r.Y0<=y)&&decide (y<r.Y1)))):=by
   unfold lC
   by_cases hy:r.Y0<=y/\y<r.Y1
   ·rw[aG hy];obtain⟨j1,j2⟩:=DZ (l:=out) (s:=(r.X0,r.X1)) h h0;refine⟨j1,λx=>?_⟩;rw[j2,bS hy.1,bS hy.2,Bool.or_comm];simp
   ·rw[aK hy];refine⟨h,λx=>?_⟩;have:(decide (r.Y0<=y)&&decide (y<r.Y1))=false:=by rw[Bool.and_eq_false_iff,decide_eq_false_iff_not,decide_eq_false_iff_not];omega
    rw[this];simp
  obtain⟨m1,m2⟩:=Ed y l (lC y out r) (λr' hr'=>hr r'<|kh _ hr') hst.1;refine⟨m1,λx=>?_⟩;rw[m2,hst.2,Bool.or_assoc];rfl
theorem Bx{l:Z aJ}(h:∀r∈l,r.X0<r.X1)(y:Int):k6 (dV<|oD l y)/\∀x,kP (oD l y) x=xJ l x y:=by
 obtain⟨h1,h2⟩:=Ed y l [] h lf
 grind [kP,oD]
def Cd{y y':Int}:∀(l:Z aJ)(out:Z (Int×Int)),(∀r∈l,(r.Y0<=y/\y<r.Y1)↔(r.Y0<=y'/\y'<r.Y1))->l.foldl (lC y) out=l.foldl (lC y') out
 | [],out,_=>rfl
 |r::l,out,h=>by
  rw[List.foldl_cons,List.foldl_cons,Cd l _<|λr' hr'=>h r'<|kh _ hr'];congr 1;unfold lC;have:=h r (by simp)
  by_cases h1:r.Y0<=y/\y<r.Y1
  ·rw[aG h1,aG<|this.1 h1]
  ·rw[aK h1,aK<|λh2=>h1<|this.2 h2]
def MP{l:Z aJ}{y y':Int}(h:∀r∈l,(r.Y0<=y/\y<r.Y1)↔(r.Y0<=y'/\y'<r.Y1)):oD l y=oD l y':=Cd l [] h
theorem QE{l:Z aJ}{y:Int}(h:∀r∈l,¬(r.Y0<=y/\y<r.Y1)):oD l y= []:=by
 have:∀(l:Z aJ)(out:Z (Int×Int)),(∀r∈l,¬(r.Y0<=y/\y<r.Y1))->l.foldl (lC y) out=out:=by
  intro l
  induction l with
  |nil=>simp
  |cons r l ih=>
   grind [kh,lC]
 exact this l [] h
theorem JW{l:Z aJ}{y:Int}(hl:l.length<=134217728)(hN:4398046511104<=N):Ok (iY N l y) (λr=>r.map sp=oD l y):=by
 unfold iY;refine Ym (Zc (n:=l.length) (λs=>s.2) (λk s=>s.1.map sp=oD (l.take k) y) (Go:=λs=>s.1.map sp=oD l y) (Rt:=λ_=>False) ?_ ?_ (dH _) rfl rfl (by omega)) ?_
 ·rintro k⟨out,i⟩hk e hI;dsimp only at e hI ⊢;subst e;rw[jT hk,aO];have hx:l[k]? =some l[k]:=aM hk;have hlen:out.length<=l.length:=by
   grind [xY,dQ,cN]
  rw[cK hx,aA];have hst:oD (l.take<|k+1) y=lC y (oD (l.take k) y) l[k]:=by rw[dN hk,OE]
  have hno:¬(l[k].Y0<=y/\y<l[k].Y1)->Ok ((some out).bind λs141=>some (Fl.nx (s141,wrap .i64<|((k:Nat):Int)+1):Fl (Z aF×Int) Empty)) (Pb (λs'=>s'.2=((k+1:Nat):Int)/\s'.1.map sp=oD (l.take<|k+1) y) (λs=>s.1.map sp=oD l y)<|λ_=>False):=λhy=>by
   grind [aA,YK,bR,lC]
  by_cases h1:l[k].Y0<=y
  ·rw[bS h1,aO,aA,aA]
   by_cases h2:y<l[k].Y1
   ·rw[bS h2,aO];refine Ym (P:=λr:Z aF=>r.map sp=oD (l.take<|k+1) y) (X_ rfl<|X_ rfl<|Ym (I6 (by omega) hN)<|λr hr=>V_ ?_)<|λr hr=>YK ⟨bR (by omega),hr⟩
    rw[hr,hI,hst];unfold lC;rw[aG ⟨h1,h2⟩];rfl
   ·rw[cF h2,aR];exact hno<|λh=>h2 h.2
  ·rw[cF h1,aR,aA,aR];exact hno<|λh=>h1 h.1
 ·rintro⟨out,i⟩e hI;dsimp only at e hI ⊢;subst e;rw[pI,aR];exact YO (by rw[dK]at hI;exact hI)
 intro o ho;exact YS ho (λs hs=>V_ hs)<|λr hr=>hr.elim
theorem EY{l:Z aF}{x:Int}(hl:l.length<=1099511627776)(hN:4398046511104<=N):iE N l x=some (kP (l.map sp) x):=by
 refine Y9 ?_;unfold iE;have hm:∀b:Bool,(kP (l.map sp) x=b↔(l.any λs=>decide (s.from_<=x)&&decide (x<s.to))=b):=λb=>by unfold kP;rw[List.any_map];rfl
 refine Ym (Zc (n:=l.length) (λs=>s) (λk s=>∀(j:Nat)y,j<k->l[j]? =some y->¬(y.from_<=x/\x<y.to)) (Go:=λs=>kP (l.map sp) x=false) (Rt:=λr=>r=kP (l.map sp) x) ?_ ?_ (dH _) rfl (λj y hj=>by omega) (by omega)) ?_
 ·rintro k i hk e hI;subst e;rw[jT hk,aO];have hx:l[k]? =some l[k]:=aM hk;rw[cK hx,aA]
  have hno:¬(l[k].from_<=x/\x<l[k].to)->Ok (some (Fl.nx (wrap .i64 (((k:Nat):Int)+1)):Fl Int Bool)) (Pb (λs'=>s'=((k+1:Nat):Int)/\∀(j:Nat)y,j<k+1->l[j]? =some y->¬(y.from_<=x/\x<y.to)) (λs=>kP (l.map sp) x=false) (λr=>r=kP (l.map sp) x)):=λhy=>YK ⟨bR (by omega),λj y hj hjy=>by
   grind⟩
  by_cases h1:l[k].from_<=x
  ·rw[bS h1,aO,aA,aA]
   by_cases h2:x<l[k].to
   ·rw[bS h2,aO];refine Zg ?_;symm;rw[hm,iN]
    grind
   grind
  grind
 ·rintro i e hI;subst e;rw[pI,aR];refine YO ?_;rw[hm,List.any_eq_false]
  grind [dD,bP,Bool.and_eq_false_iff,decide_eq_false_iff_not]
 intro o ho;exact YS ho (λs hs=>V_ hs.symm)<|λr hr=>V_ hr
end
section
variable {α:Type}[DecidableEq α]{N:Nat}
def SW(N:Nat)(p0 p1:Z α):aV Bool:=
 bif(p0.length:Int) != (p1.length:Int)then some false else((iL (λ(s32:Int)=>(bif decide (s32<(p0.length:Int))then((idx p0 s32).bind λx45=>(idx p1 s32).bind λx48=>bif(!(decide<|x45=x48))then some (.rt false)else some (.nx<|wrap .i64<|s32+1))else(some<|.br s32):aV (Fl Int Bool))) N 0).bind λo51=>o51.cs (λ(s32:Int)=>some true)<|λr=>some r)
def Lx{l m:Z α}(hl:l.length<=1099511627776)(hN:4398046511104<=N):SW N l m=some (decide<|l=m):=by
 refine Y9 ?_;unfold SW
 by_cases he:l.length=m.length
 ·rw[show(((l.length:Nat):Int) != ((m.length:Nat):Int))=false by rw[he];simp,aR];refine Ym (Zc (n:=l.length) (λs=>s) (λk s=>∀j,j<k->l[j]? =m[j]?) (Go:=λs=>l=m) (Rt:=λr=>r=false/\l≠m) ?_ ?_ (dH _) rfl (λj hj=>by omega) (by omega)) ?_
  ·rintro k i hk e hI;subst e;have hx:l[k]? =some l[k]:=aM hk
   grind [aM,jT,Yx,Zg,YK,bR]
  ·rintro i e hI;subst e;rw[pI,aR];refine YO<|List.ext_getElem? λj=>?_
   grind
  intro o ho;exact YS ho (λs hs=>V_ (bS hs).symm)<|λr hr=>V_ (by grind)
 grind [V_,cF]
end
section
variable {N:Nat}
def JX{l m:Z aJ}(hl:l.length<=1099511627776)(hN:4398046511104<=N):lx N l m=some (decide<|l=m):=Lx hl hN
def JY{l m:Z aF}(hl:l.length<=1099511627776)(hN:4398046511104<=N):lu N l m=some (decide<|l=m):=Lx hl hN
def AX(b:aQ):Bd:=⟨b.from_,b.to,dV<|b.kG.map sp⟩
def OG{l:Z (Int×Int)}:dV l= []↔l= []:=by
 cases l with
 |nil=>exact⟨λ_=>rfl,λ_=>rfl⟩
 |cons s l=>exact⟨λh=>(by cases h),λh=>(by cases h)⟩
def OH{l m:Z aF}:dV (l.map sp)=dV (m.map sp)↔l=m:=by grind [QD,IY]
def MQ{l:Z aQ}{b:aQ}(hlt:b.from_<b.to)(hl:l.length<=1073741824)(hs:∀c∈l,c.kG.length<=1099511627776)(hN:4398046511104<=N):
  Ok (gW N l b) (λr=>r.map AX=lA (l.map AX) (AX b)):=by
 unfold gW lA
 by_cases h0:b.kG= []
 ·rw[show(((b.kG.length:Nat):Int)==0)=true by rw[h0];rfl,aO,aG<|.inl (by unfold AX;rw[h0];rfl)];exact V_ rfl
 ·rw[show(((b.kG.length:Nat):Int)==0)=false by simp_all,aR];have hne:¬((AX b).xs= []\/(AX b).y1<=(AX b).y0):=by
   rintro(h|h)
   ·have h:=OG.1 h
    simp_all
   ·have h:b.to<=b.from_:=h;omega
  rw[aK hne]
  rcases List.eq_nil_or_concat l with rfl|⟨A,c,hA⟩
  ·grind [decide,aA,Y2,V_]
  ·rw[List.concat_eq_append]at hA;subst hA;have hlen:(A++[c]).length=A.length+1:=by simp
   have hwp:wrap .i64 ((((A++[c]).length:Nat):Int) - 1)=((A.length:Nat):Int):=by grind [G6]
   have hlast:(A++[c])[A.length]? =some c:=by simp
   rw[hwp,bS (by omega),aO,cK hlast,aA,aA,JY (by grind) hN,aA,aA,dA];have hl2:((A++[c]).map AX).getLast? =some (AX c):=by simp
   have hd2:((A++[c]).map AX).dropLast=A.map AX:=by simp
   rw[hl2,hd2];dsimp only
   by_cases h1:c.to=b.from_/\c.kG=b.kG
   ·grind [AX,bS,aA,V_,List.set_append_right]
   ·rw[aK (show ¬((AX c).y1=(AX b).y0/\(AX c).xs=(AX b).xs)from λh=>h1 ⟨h.1,OH.1 h.2⟩)];have e2:(bif c.to==b.from_ then some (decide<|c.kG=b.kG)else some false)=some false:=by
     by_cases h2:c.to=b.from_
     ·rw[show(c.to==b.from_)=true by rw[h2];simp,aO,cF<|λh=>h1 ⟨h2,h⟩]
     ·rw[show(c.to==b.from_)=false by simpa using h2,aR]
    rw[e2,aA,aR];exact Y2 (by rw[hlen];simp;omega)<|V_ (by simp)
def QF{s:Z Bd}{b c:Bd}(h:c∈lA s b):c.xs=b.xs\/∃d∈s,c.xs=d.xs:=by
 grind [lA,List.dropLast_subset,List.mem_of_getLast?]
def uM{f:Int->Z Int}{B:Nat}(hf:∀y,(f y).length<=B):∀(ss:Z (Int×Int))(out:Z Bd),(∀c∈out,c.xs.length<=B)->(∀c∈po f ss out,c.xs.length<=B)/\(po f ss out).length<=out.length+ss.length
 | [],out,h=>⟨h,by simp[po]⟩
 |s::ss,out,h=>by
  obtain⟨h1,h2⟩:=uM hf ss (lA out ⟨s.1,s.2,f s.1⟩) (λc hc=>by
   rcases QF hc with h3|⟨d,hd,h3⟩
   ·grind
   grind)
  refine⟨h1,?_⟩;have:=Oo out ⟨s.1,s.2,f s.1⟩;show(po f ss<|lA out ⟨s.1,s.2,f s.1⟩).length<=_;rw[dO];omega
theorem rm:∀(ys:Z Int),(mO ys).length=ys.length - 1
 | []=>rfl
 | [_]=>rfl
 |a::b::l=>by
  show(mO<|b::l).length+1=_;rw[rm<|b::l];simp
def HA:∀(ys:Z Int)(k:Nat)(h:k+1<ys.length),(mO ys)[k]? =some (ys[k],ys[k+1])
 | [],k,h=>by simp at h
 | [_],k,h=>by simp at h
 |a::b::l,0,h=>rfl
 |a::b::l,k+1,h=>by
  have:=HA (b::l) k (by grind);show(mO<|b::l)[k]? =_;rw[this];rfl
theorem Ly(f:Int->Z Int)(ss:Z (Int×Int))(s:Int×Int)(out:Z Bd):po f (ss++[s]) out=lA (po f ss out) ⟨s.1,s.2,f s.1⟩:=by simp[po,List.foldl_append]
def HB{ys:Z Int}(hy:k6 ys){f:Int->Z Int}{B:Nat}(hf:∀y,(f y).length<=B)(hB:B<=1099511627776)(hys:ys.length<=1073741824){out:Z aQ}{k:Nat}(h1:1<=k)(hk:k<ys.length)
  (hI:out.map AX=po f ((mO ys).take<|k - 1) []) {r:Z aF} (hr:dV (r.map sp)=f (ys[k - 1]'(by omega))) (hN:4398046511104<=N):
  Ok (gW N out ⟨ys[k - 1]'(by omega),ys[k],r⟩) (λo=>o.map AX=po f ((mO ys).take k) []):=by
 have hlt:ys[k - 1]'(by omega)<ys[k]:=og.1 hy (k - 1) k (by omega) hk (by omega);obtain⟨s1,s2⟩:=uM hf ((mO ys).take<|k - 1) [] (λc hc=>by cases hc);have hol:out.length<=ys.length:=by
  grind
 refine(MQ hlt (by omega) (λc hc=>?_) hN).mono λo ho=>?_
 ·have h3:(AX c).xs.length<=B:=s1 _ (by grind)
  grind [AX,ma,dQ]
 ·have hg:=HA ys (k - 1) (by omega)
  grind [mO,rm,dN,aM,Ly,AX]
def vT(b:aQ):Z aJ:=b.kG.map λs=>⟨s.from_,b.from_,s.to,b.to⟩
def qS(l:Z aQ):Z aJ:=l.flatMap vT
def Lz:∀(l:Z (Int×Int)),G8 (dV l)=l
 | []=>rfl
 |s::l=>by rw[lH];show(s.1,s.2)::G8 (dV l)=_;rw[Lz l]
def EZ:∀{l:Z aQ}{s:Z aB},l.map AX=s.map cO->qS l=bF s
 | [],[],_=>rfl
 | [],_::_,h=>by cases h
 |_::_,[],h=>by cases h
 |b::l,c::s,h=>by
  rw[fI,fI]at h;injection h with h1 h2
  have e:=EZ h2;show vT b++qS l=qe c++bF s;rw[e];congr 1;unfold AX cO at h1;injection h1 with g1 g2 g3
  unfold vT qe;rw[<-g3,Lz,g1,g2,List.map_map];rfl
def LA(l:Z aQ)(b:aQ):qS (l++[b])=qS l++vT b:=by simp[qS,List.flatMap_append]
def NT{l:Z aQ}(hl:l.length<=1099511627776)(hs:∀b∈l,b.kG.length<=1099511627776)(hr:(qS l).length<=1099511627776)(hN:4398046511104<=N):kr N l=some (qS l):=by
 refine Y9 ?_;unfold kr;refine Ym (Zc (n:=l.length) (λs=>s.2) (λk s=>s.1=qS (l.take k)) (Go:=λs=>s.1=qS l) (Rt:=λ_=>False) ?_ ?_ (dH _) rfl rfl (by omega)) ?_
 ·rintro k⟨out,i⟩hk e hI;dsimp only at e hI ⊢;subst e;subst hI;rw[jT hk,aO];have hx:l[k]? =some l[k]:=aM hk;have hsl:=hs _<|cP hk
  have hts:qS (l.take<|k+1)=qS (l.take k)++vT l[k]:=by rw[dN hk,LA]
  have hlen:(qS<|l.take k).length+l[k].kG.length<=(qS l).length:=by
   grind [qS,dC,List.take_append_drop,vT,dQ]
  refine Ym (Zc (n:=l[k].kG.length) (λs=>s.2) (λj s=>s.1=qS (l.take k)++(vT l[k]).take j) (Go:=λs=>s.1=qS (l.take<|k+1)) (Rt:=λ_=>False) ?_ ?_ (dH _) rfl (by simp) (by omega)) ?_
  ·rintro j⟨o2,i2⟩hj e hI;dsimp only at e hI ⊢;subst e;subst hI;have hy:l[k].kG[j]? =some l[k].kG[j]:=aM hj;have hjr:j<(vT l[k]).length:=by grind [vT,dQ]
   refine Yx hx ?_;rw[jT hj,aO];refine Yx hx<|Yx hy<|Yx hx<|Yx hx<|Yx hy<|Yx hx<|Y2 ?_<|YK ⟨bR (by omega),?_⟩
   ·grind
   grind [kK,dN,vT]
  ·grind [Yx,YO,oe,vT,dQ]
  intro o ho;exact YS ho (λs hs=>YK ⟨bR (by omega),hs⟩)<|λr hr=>hr.elim
 ·rintro⟨out,i⟩e hI;dsimp only at e hI ⊢;subst e;rw[pI,aR];exact YO (by rw[dK]at hI;exact hI)
 intro o ho;exact YS ho (λs hs=>V_ hs)<|λr hr=>hr.elim
theorem I7{l:Z aJ}{ys:Z Int}(hm:∀r∈l,r.Y0∈ys/\r.Y1∈ys){s:Int×Int}{y:Int}(hs:s∈mO ys)(hy:k6 ys)(h1:s.1<=y)(h2:y<s.2):oD l y=oD l s.1:=MP λr hr=>by
 obtain⟨m1,m2⟩:=hm r hr;obtain⟨_,_,_,h⟩:=u6 hy s hs
 rcases h _ m1 with h3|h3 <;> rcases h _ m2 with h4|h4 <;> constructor <;> intro h5 <;> omega
def JZ{l:Z aJ}{ys:Z Int}(hm:∀r∈l,r.Y0∈ys/\r.Y1∈ys){y:Int}(h:(∀c∈ys,y<c)\/(∀c∈ys,c<=y)):oD l y= []:=by grind [QE]
def J0{l:Z aJ}:∀r∈l,r.Y0∈mI (kQ l)/\r.Y1∈mI (kQ l):=by grind [I5,qd]
def QG(l:Z aJ):(mI<|kQ l).length<=2*l.length:=by
 grind [xX,kQ,oL]
def yX{l:Z aJ}{s:Z aB}(hc:fT (s.map cO))(hcov:∀x y,zU (s.map cO) x y=xJ l x y)(hl:l.length<=10000000)(hok:∀r∈l,r.X0<r.X1)(hr:(bF s).length<=1099511627776)(hN:4398046511104<=N):
  gA N l=some (bF s):=by
 refine Y9 ?_;unfold gA;refine X_ (Hy (by omega) hN) ?_;have hyl:=QG l;have hyi:=qH<|kQ l
 have hf:∀y,k6 (dV<|oD l y)/\(dV<|oD l y).length % 2=0:=λy=>⟨(Bx hok y).1,by simp[ma]⟩;have hfl:∀y,(dV<|oD l y).length<=20000000:=λy=>by grind [ma,xY]
 obtain⟨b1,b2⟩:=Ft (f:=λy=>dV<|oD l y) hf hyi (λt ht y h1 h2=>by(try dsimp only);rw[I7 J0 ht hyi h1 h2]) (λy h=>by(try dsimp only);rw[JZ J0 h];rfl);have hsame:po (λy=>dV<|oD l y) (mO<|mI<|kQ l) []=s.map cO:=yP b1 hc λx y=>by
  grind [zU,xL,Bx]
 have hmy:= @J0 l;generalize mI (kQ l)=ys at *;refine Ym (Zc (n:=max 1 ys.length) (λs=>s.2) (λk st=>1<=k/\st.1.map AX=po (λy=>dV<|oD l y) ((mO ys).take<|k - 1) []) (Go:=λst=>st.1.map AX=s.map cO) (Rt:=λ_=>False) ?_ ?_ (k0:=1) (by omega) rfl ⟨cG _,rfl⟩ (by omega)) ?_
 ·rintro k⟨out,i⟩hk e⟨hk1,hI⟩;dsimp only at e hI ⊢;subst e;have hk2:k<ys.length:=by omega
  rw[jT hk2,aO,iv hk1 (by omega)];refine Zf (by omega)<|Zf hk2<|Zf (by omega)<|Ym (JW (by omega) hN) λr hr=>Ym (HB hyi (f:=λy=>dV<|oD l y) hfl (by omega) (by omega) hk1 hk2 hI (by grind) hN) λo ho=>YK ⟨bR (by omega),by omega,?_⟩
  grind
 ·grind [AV,YO,oe,rm]
 intro o ho;refine YS ho (λst hs=>?_)<|λr hr=>hr.elim
 have e:=EZ hs;obtain⟨s1,s2⟩:=uM (f:=λy=>dV<|oD l y) hfl (mO ys) [] (λc hc=>by cases hc);refine X_ (NT (l:=st.1) ?_ ?_ (by rw[e];exact hr) hN)<|V_ e
 ·have:(st.1.map AX).length<=ys.length:=by rw[hs,<-hsame];have:=rm ys;simp only[List.length_nil]at s2;omega
  rw[dQ]at this;omega
 ·intro b hb;have h3:=s1 (AX b) (by rw[hsame,<-hs];exact dU.2 ⟨b,hb,rfl⟩);have h4:(AX b).xs.length=2*b.kG.length:=by unfold AX;rw[ma,dQ]
  omega
def wC(w:Int)(p q:Bool):Bool:=((((w==1)&&(p||q))||(((w==2)&&p)&&q))||(((w==3)&&p)&&(!q)))
def QH(w:Int):wC w false false=false:=by simp[wC]
def FA(iV:Bool->Bool->Bool)(a b ss:Z (Int×Int))(s:Int×Int)(out:Z (Int×Int)):pj iV a b (ss++[s]) out=if iV (kP a s.1) (kP b s.1)=true then oz (pj iV a b ss out) s else pj iV a b ss out:=by simp[pj,List.foldl_append]
theorem CX(iV:Bool->Bool->Bool)(a b:Z (Int×Int)):∀(ss out:Z (Int×Int)),(pj iV a b ss out).length<=out.length+ss.length
 | [],out=>by simp[pj]
 |s::ss,out=>by
  have h1:=CX iV a b ss (if iV (kP a s.1) (kP b s.1)=true then oz out s else out);have h2:(if iV (kP a s.1) (kP b s.1)=true then oz out s else out).length<=out.length+1:=by
   split
   ·exact Fy _ _
   ·omega
  show(pj iV a b ss (if iV (kP a s.1) (kP b s.1)=true then oz out s else out)).length<=_;rw[dO];omega
def FB(a b:Z (Int×Int)):Z Int:=mI<|dV a++dV b
theorem I8(a b:Z (Int×Int)):(FB a b).length<=2*a.length+2*b.length:=by
 have:=xX<|dV a++dV b
 rw[dC,ma,ma]at this;exact this
def QI{a b:Z aF}{w:Int}(ha:a.length<=10000000)(hb:b.length<=10000000)(hN:4398046511104<=N):
  Ok (lM N a b w) (λr=>r.map sp=pj (wC w) (a.map sp) (b.map sp) (mO<|FB (a.map sp)<|b.map sp) []):=by
 unfold lM;have hfl:∀(l:Z aF),(mI<|dV<|l.map sp).length<=2*l.length:=λl=>by
  grind [xX,dV,ma,dQ]
 refine Ym (Zc (n:=a.length) (λs=>s.2) (λk s=>s.1=mI (dV<|(a.take k).map sp)) (Go:=λs=>s.1=mI (dV<|a.map sp)) (Rt:=λ_=>False) ?_ ?_ (dH _) rfl rfl (by omega)) ?_
 ·rintro k⟨out,i⟩hk e hI;dsimp only at e hI ⊢;subst e;subst hI;rw[jT hk,aO];have hx:a[k]? =some a[k]:=aM hk;have h1:=hfl<|a.take k
  rw[cN]at h1;have h2:=Ec (mI<|dV<|(a.take k).map sp) a[k].from_;refine Yx hx<|Yx hx<|X_ (Bu (qH _) (by omega) hN)<|X_ (Bu (xW<|qH _) (by omega) hN)<|YK ⟨bR (by omega),?_⟩
  rw[dN hk,fX,yQ];exact(AW _ _ _).symm
 ·simp[pI,aR,YO,dK]
 intro o ho;refine YS ho ?_<|λr hr=>hr.elim
 rintro⟨xa,ia⟩hxa;dsimp only at hxa ⊢;subst hxa;refine Ym (Zc (n:=b.length) (λs=>s.2) (λk s=>s.1=mI (dV (a.map sp)++dV ((b.take k).map sp))) (Go:=λs=>s.1=FB (a.map sp) (b.map sp)) (Rt:=λ_=>False) ?_ ?_ (dH _) rfl (by simp[dV]) (by omega)) ?_
 ·rintro k⟨out,i⟩hk e hI;dsimp only at e hI ⊢;subst e;subst hI;rw[jT hk,aO];have hx:b[k]? =some b[k]:=aM hk;have h1:=xX<|dV (a.map sp)++dV ((b.take k).map sp)
  rw[dC,ma,ma,dQ,dQ,cN]at h1;have h2:=Ec (mI<|dV (a.map sp)++dV ((b.take k).map sp)) b[k].from_;refine Yx hx<|Yx hx<|X_ (Bu (qH _) (by omega) hN)<|X_ (Bu (xW<|qH _) (by omega) hN)<|YK ⟨bR (by omega),?_⟩
  rw[dN hk,fX,yQ,<-kK];exact(AW _ _ _).symm
 ·rintro⟨out,i⟩e hI;dsimp only at e hI ⊢;subst e;rw[pI,aR];exact YO (by rw[dK]at hI;exact hI)
 intro o ho;refine YS ho ?_<|λr hr=>hr.elim
 rintro⟨xs,ix⟩hxs;dsimp only at hxs ⊢;have hxl:=I8 (a.map sp)<|b.map sp
 rw[<-hxs,dQ,dQ]at hxl;rw[<-hxs];clear hxs;refine Ym (Zc (n:=max 1 xs.length) (λs=>s.2) (λk st=>1<=k/\st.1.map sp=pj (wC w) (a.map sp) (b.map sp) ((mO xs).take<|k - 1) []) (Go:=λst=>st.1.map sp=pj (wC w) (a.map sp) (b.map sp) (mO xs) []) (Rt:=λ_=>False) ?_ ?_ (k0:=1) (by omega) rfl ⟨cG _,rfl⟩ (by omega)) ?_
 ·rintro k⟨out,i⟩hk e⟨hk1,hI⟩;dsimp only at e hI ⊢;subst e;have hk2:k<xs.length:=by omega
  rw[jT hk2,aO,iv hk1 (by omega)];have hx:xs[k - 1]? =some (xs[k - 1]'(by omega)):=aM _;have hy:xs[k]? =some xs[k]:=aM hk2;have hg:=HA xs (k - 1) (by omega);have hts:(mO xs).take k=(mO xs).take (k - 1)++[(xs[k - 1]'(by omega),xs[k])]:=by
   grind [mO,rm,dN,aM]
  have hol:out.length<=xs.length:=by
   have h1:=CX (wC w) (a.map sp) (b.map sp) ((mO xs).take<|k - 1) [];rw[<-hI,dQ,cN,rm]at h1;simp only[List.length_nil]at h1;omega
  refine Yx hx<|Yx hx<|X_ (EY (by omega) hN)<|X_ (EY (by omega) hN) ?_
  refine Ym (P:=λr:Z aF=>r.map sp=pj (wC w) (a.map sp) (b.map sp) ((mO xs).take k) []) (YW (λhb=>?_)<|λhb=>?_)<|λr hr=>YK ⟨bR (by omega),by omega,by rw[F2];exact hr⟩
  ·refine Yx hx<|Yx hy<|Ym (I6 (by omega) hN)<|λr hr=>V_ ?_
   rw[hr,hI,hts,FA,aG (show wC w _ _=true from hb)];rfl
  ·refine V_ ?_;rw[hI,hts,FA,aK (show ¬wC w _ _=true by rw[iM];exact hb)]
 ·rintro⟨out,i⟩e⟨hk1,hI⟩;dsimp only at e hI ⊢;subst e;rw[AV (by omega),aR];refine YO ?_;rw[oe (by rw[rm];omega)]at hI;exact hI
 intro o ho;exact YS ho (λs hs=>V_ hs)<|λr hr=>hr.elim
def rH(w:Int)(a b:Z aJ)(y:Int):Z (Int×Int):=pj (wC w) (oD a y) (oD b y) (mO<|FB (oD a y)<|oD b y) []
def LB(a b:Z (Int×Int)):Ends a (FB a b)/\Ends b (FB a b):=by
 constructor <;> intro s hs <;> constructor <;> refine I5.2<|dP.2 ?_
 ·exact .inl<|List.mem_flatMap.2 ⟨s,hs,by simp⟩
 ·exact .inl<|List.mem_flatMap.2 ⟨s,hs,by simp⟩
 ·exact .inr<|List.mem_flatMap.2 ⟨s,hs,by simp⟩
 ·exact .inr<|List.mem_flatMap.2 ⟨s,hs,by simp⟩
theorem FC{a b:Z aJ}(ha:∀r∈a,r.X0<r.X1)(hb:∀r∈b,r.X0<r.X1)(w y:Int):k6 (dV<|rH w a b y)/\∀x,kP (rH w a b y) x=wC w (xJ a x y) (xJ b x y):=by
 obtain⟨h1,h2⟩:=K9 (iV:=wC w) (QH w) (a:=oD a y) (b:=oD b y) (xs:=FB (oD a y)<|oD b y) (qH _) (LB _ _).1 (LB _ _).2
 grind [kP,rH,Bx]
theorem MR(w:Int)(a b:Z aJ)(y:Int):(rH w a b y).length<=2*a.length+2*b.length:=by
 grind [CX,wC,oD,mO,FB,I8,xY,rm,rH,List.length_nil]
def LC{a b:Z aJ}{w:Int}{s:Z aB}(hc:fT (s.map cO))(hcov:∀x y,zU (s.map cO) x y=wC w (xJ a x y) (xJ b x y))(hla:a.length<=10000000)(hlb:b.length<=10000000)
  (ha:∀r∈a,r.X0<r.X1) (hb:∀r∈b,r.X0<r.X1) (hr:(bF s).length<=1099511627776) (hN:4398046511104<=N):iP N a b w=some (bF s):=by
 refine Y9 ?_;unfold iP;refine Y2 (by grind)<|Y2 (by grind) ?_
 rw[List.nil_append];refine X_ (Hy (by grind) hN) ?_;have hyl:=QG<|a++b
 rw[dC]at hyl;have hyi:=qH<|kQ<|a++b
 have hmy:= @J0<|a++b
 have hma:∀r∈a,r.Y0∈mI (kQ<|a++b)/\r.Y1∈mI (kQ<|a++b):=λr hr=>hmy r<|List.mem_append_left _ hr
 have hmb:∀r∈b,r.Y0∈mI (kQ<|a++b)/\r.Y1∈mI (kQ<|a++b):=λr hr=>hmy r<|List.mem_append_right _ hr
 have hf:∀y,k6 (dV<|rH w a b y)/\(dV<|rH w a b y).length % 2=0:=λy=>⟨(FC ha hb w y).1,by simp[ma]⟩;have hfl:∀y,(dV<|rH w a b y).length<=80000000:=λy=>by grind [ma,MR]
 obtain⟨b1,b2⟩:=Ft (f:=λy=>dV (rH w a b y)) hf hyi (λt ht y h1 h2=>by grind [rH,I7]) (λy h=>by
  (try dsimp only);unfold rH;rw[JZ hma h,JZ hmb h];rfl)
 have hsame:po (λy=>dV<|rH w a b y) (mO<|mI<|kQ<|a++b) []=s.map cO:=yP b1 hc λx y=>by
  grind [zU,xL,FC]
 clear hmy hma hmb;generalize mI (kQ<|a++b)=ys at *;refine Ym (Zc (n:=max 1 ys.length) (λs=>s.2) (λk st=>1<=k/\st.1.map AX=po (λy=>dV<|rH w a b y) ((mO ys).take<|k - 1) []) (Go:=λst=>st.1.map AX=s.map cO) (Rt:=λ_=>False) ?_ ?_ (k0:=1) (by omega) rfl ⟨cG _,rfl⟩ (by omega)) ?_
 ·rintro k⟨out,i⟩hk e⟨hk1,hI⟩;dsimp only at e hI ⊢;subst e;have hk2:k<ys.length:=by omega
  rw[jT hk2,aO,iv hk1 (by omega)];refine Zf (by omega)<|Zf hk2<|Zf (by omega)<|Zf (by omega)<|Ym (JW (by omega) hN) λr1 hr1=>Ym (JW (by omega) hN) λr2 hr2=>?_
  have l1:r1.length<=10000000:=by grind [xY,dQ]
  have l2:r2.length<=10000000:=by grind [xY,dQ]
  refine Ym (QI l1 l2 hN) λr hr=>Ym (HB hyi (f:=λy=>dV<|rH w a b y) hfl (by omega) (by omega) hk1 hk2 hI (by(try dsimp only);rw[hr,hr1,hr2];rfl) hN) λo ho=>YK ⟨bR (by omega),by omega,?_⟩;rw[F2];exact ho
 ·rintro⟨out,i⟩e⟨hk1,hI⟩;dsimp only at e hI ⊢;subst e;rw[AV (by omega),aR];refine YO ?_;rw[oe (by rw[rm];omega),hsame]at hI;exact hI
 intro o ho;refine YS ho (λst hs=>?_)<|λr hr=>hr.elim
 have e:=EZ hs;obtain⟨s1,s2⟩:=uM (f:=λy=>dV<|rH w a b y) hfl (mO ys) [] (λc hc=>by cases hc);refine X_ (NT (l:=st.1) ?_ ?_ (by rw[e];exact hr) hN)<|V_ e
 ·have:(st.1.map AX).length<=ys.length:=by rw[hs,<-hsame];have:=rm ys;simp only[List.length_nil]at s2;omega
  rw[dQ]at this;omega
 ·intro b hb;have h3:=s1 (AX b) (by rw[hsame,<-hs];exact dU.2 ⟨b,hb,rfl⟩);have h4:(AX b).xs.length=2*b.kG.length:=by unfold AX;rw[ma,dQ]
  omega
def J3(n:Int):dI N n=some (qh n):=rfl
def HC{l:Z aJ}(hl:l.length<=1099511627776)(hN:4398046511104<=N):jc N l=some (oN l):=by
 refine Y9 ?_;unfold jc oN
 by_cases h:2000<l.length
 ·grind [bS,V_]
 ·rw[cF (by omega),aR,aK h];refine Ym (Zc (n:=l.length) (λs=>s) (λk s=>∀(j:Nat)x,j<k->l[j]? =some x->oA x=none) (Go:=λs=>l.findSome? oA=none) (Rt:=λr=>l.findSome? oA=some r) ?_ ?_ (dH _) rfl (λj x hj=>by omega) (by omega)) ?_
  ·rintro k i hk e hI;subst e;rw[jT hk,aO];have hx:l[k]? =some l[k]:=aM hk;have hrt:∀c,oA l[k]=some c->l.findSome? oA=some c:=λc hc=>by
    rw[List.findSome?_eq_some_iff];refine⟨l.take k,l[k],l.drop<|k+1,?_,hc,λx hx'=>?_⟩
    ·rw[List.getElem_cons_drop,List.take_append_drop]
    grind [dD,bP,cN,List.getElem?_take_of_lt]
   refine Yx hx ?_;have hb:((dI N l[k].X0).bind λx110=>bif(!x110)then some true else((dI N l[k].Y0).bind λx112=>bif(!x112)then some true else((dI N l[k].X1).bind λx114=>bif(!x114)then some true else((dI N l[k].Y1).bind λx116=>some<|!x116))))=some (!gQ l[k]):=by
    rw[J3,J3,J3,J3];unfold gQ
    grind
   refine X_ hb<|YW (λh1=>Zg<|hrt 1 ?_)<|λh1=>YW (λh2=>Zg<|hrt 13 ?_)<|λh2=>YK ⟨bR (by omega),λj x hj hjx=>?_⟩
   all_goals grind [oA]
  ·grind [YO,List.findSome?_eq_none_iff,dD,bP]
  intro o ho;exact YS ho (λs hs=>V_ (by rw[hs];rfl))<|λr hr=>V_ (by rw[hr];rfl)
theorem MS{l:Z aJ}{s:Z aB}(hs:xQ l s):JS l↔bF s=l:=⟨λ⟨t,h1,h2⟩=>by rw[hs.unique h1];exact h2,λh=>⟨s,hs,h⟩⟩
def zu{l:Z aJ}(hl:l.length<=1073741824)(hN:4398046511104<=N):gH N l=some (lY l):=by
 refine Y9 ?_;unfold gH;refine X_ (HC (by omega) hN) ?_;unfold lY;refine YW (λh=>V_ ?_)<|λh=>?_
 ·grind
 ·have h0:oN l=0:=by simpa using h
  rw[aK (by omega)];obtain⟨hlen,hok⟩:=Hq h0;have hbf:∀a b:aJ,((decide (a.Y0<b.Y0)||((a.Y0==b.Y0)&&decide (a.X0<b.X0)))=true)↔¬(b.Y0<a.Y0\/(b.Y0=a.Y0/\b.X0<=a.X0)):=λa b=>by
   grind
  refine Ym (Zl (Go:=λ_=>TL l) (Rt:=λr=>r=8/\¬TL l) (λs=>∃k:Nat,s=((k:Nat):Int)/\1<=k/\∀(j:Nat)a b,j+1<k->l[j]? =some a->l[j+1]? =some b->¬(b.Y0<a.Y0\/(b.Y0=a.Y0/\b.X0<=a.X0))) (λs=>l.length - s.toNat) ?_ ⟨1,rfl,cG _,λj a b hj=>by omega⟩ (by simp;omega)) ?_
  ·rintro s⟨k,rfl,hk,hI⟩;refine YW (λh=>?_)<|λh=>YO λj a b ha hb=>hI j a b ?_ ha hb
   ·have hk2:k<l.length:=by grind
    rw[iv hk (by omega)];have hx:l[k - 1]? =some (l[k - 1]'(by omega)):=aM _;have hy:l[k]? =some l[k]:=aM hk2;refine Yx hx<|Yx hy ?_
    unfold jE;rw[aA];refine YW (λhb=>Zg ⟨rfl,λhu=>?_⟩)<|λhb=>YK ⟨⟨k+1,by grind [bR],by omega,λj a b hj ha hb'=>?_⟩,by grind [bR,dA]⟩
    ·have:=(hbf _ _).2<|hu (k - 1) _ _ hx (by rw[show k - 1+1=k by omega];exact hy)
     grind
    grind
   grind
  ·rintro o ho;refine YS ho (λs hu=>?_)<|λr hr=>V_ (by grind)
   rw[aG hu];obtain⟨s,_,hs⟩:=tq (N:=N) (l:=l) (by omega) hok (by omega);obtain⟨z1,z2,z3⟩:=hs.Ll;have z4:2*l.length*(2*l.length)<=4000*4000:=Nat.mul_le_mul (by omega) (by omega);refine X_ (yX hs.can hs.cover (by omega) (λr hr=>(hok r hr).x) (by omega) hN)<|X_ (JX (by omega) hN) ?_
   grind [MS,V_,bF]
end
theorem HD(n:Nat)(g:Nat->Nat):((List.range<|n+1).map g).sum=((List.range n).map g).sum+g n:=by
 simp[List.range_succ,fX,List.sum_append]
def V3(r:aJ)(x y:Int):Bool:=(decide (r.X0<=x)&&decide (x<r.X1))&&(decide (r.Y0<=y)&&decide (y<r.Y1))
def VS(a b:aJ):Prop:=∀x y,¬(V3 a x y=true/\V3 b x y=true)
def R2{r:aJ}{x y:Int}:V3 r x y=true↔(r.X0<=x/\x<r.X1)/\r.Y0<=y/\y<r.Y1:=by simp[V3]
def Ee:∀{xs:Z Int},k6 xs->(G8 xs).Pairwise (λp q=>p.2<q.1)
 | [],_=>lf
 | [a],_=>lf
 |a::b::l,h=>by
  unfold G8;rw[r6];exact⟨λq hq=>h.tail.head q.1 (JM q hq).1,Ee h.tail.tail⟩
def w5(a b:aJ):Prop:=a.Y1<=b.Y0\/(a.Y0=b.Y0/\a.Y1=b.Y1/\a.X1<b.X0)
def w5.apart{a b:aJ}(h:w5 a b):VS a b:=λx y⟨h1,h2⟩=>by
 rw[R2]at h1 h2
 rcases h with h|h <;> omega
def uN:∀{s:Z aB},fT (s.map cO)->(bF s).Pairwise w5
 | [],_=>lf
 |b::s,h=>by
  rw[qf,nD];refine⟨?_,uN h.tail,λx hx y hy=>?_⟩
  ·unfold qe;rw[List.pairwise_map];exact List.Pairwise.imp (λhpq=> .inr ⟨rfl,rfl,hpq⟩)<|Ee (h.each (cO b) (by simp)).2.2.1
  ·unfold qe at hx;obtain⟨p,_,rfl⟩:=dU.1 hx;obtain⟨c,hc,q,_,rfl⟩:=u7 hy;exact .inl<|h.G3 (cO c)<|dU.2 ⟨c,hc,rfl⟩
def xZ{s:Z aB}(h:fT (s.map cO)):∀r∈bF s,r.X0<r.X1/\r.Y0<r.Y1:=λr hr=>by
 obtain⟨b,hb,p,hp,rfl⟩:=u7 hr;have hc:=h.each (cO b)<|dU.2 ⟨b,hb,rfl⟩
 exact⟨MG hc.2.2.1 p hp,hc.1⟩
def LD{s:Z aB}(h:fT (s.map cO)):(bF s).Nodup:=by
 have h1:=uN h;have h2:=xZ h;refine List.Pairwise.imp_of_mem (λ{a b}ha hb hab e=>?_) h1;subst e;have:=h2 a ha
 rcases hab with h|h <;> omega
def x6(s:Z Bd):Nat:=(s.map<|λb=>b.xs.length / 2).sum
theorem LF(s t:Z Bd):x6 (s++t)=x6 s+x6 t:=by simp[x6,fX,List.sum_append]
def OI(s:Z Bd)(b:Bd):x6 (lA s b)<=x6 s+b.xs.length / 2:=by
 unfold lA
 grind [vJ,x6,LF]
structure XN (t:Z Bd):Prop where
 each:∀b∈t,b.y0<b.y1/\k6 b.xs/\b.xs.length % 2=0
 ord:t.Pairwise (λb c=>b.y1<=c.y0)
def fold_push:∀(t out:Z Bd),XN t->fT out->(∀c∈out,∀b∈t,c.y1<=b.y0)->fT (t.foldl lA out)/\x6 (t.foldl lA out)<=x6 out+x6 t/\
  ∀y,rowAt (t.foldl lA out) y=if(∃b∈t,b.y0<=y/\y<b.y1)then rowAt t y else rowAt out y
 | [],out,_,hc,_=>⟨hc,by simp[x6],λy=>by simp⟩
 |b::t,out,hl,hc,ho=>by
  have hb:=hl.each b (by simp);have hord:=r6.1 hl.ord;have ho1:∀c∈out,c.y1<=b.y0:=λc h=>ho c h b (by simp);have h1:=Bm hc ho1 hb.2.1 hb.2.2;have htop:=Bn ho1 (show b.y0<=b.y1 by omega);obtain⟨f1,f2,f3⟩:=fold_push t (lA out b) ⟨λc hcm=>hl.each c<|kh _ hcm,hord.2⟩ h1 (λc hcm d hd=>by grind);refine⟨f1,?_,λy=>?_⟩
  ·have:=OI out b;have e:x6 (b::t)=b.xs.length / 2+x6 t:=by simp[x6]
   rw[List.foldl_cons,e];omega
  ·rw[List.foldl_cons,f3 y,Bl ho1 (λc hcm=>(hc.each c hcm).1)<|λh=>absurd h (by omega),p9]
   by_cases hy:b.y0<=y/\y<b.y1
   ·have hn:¬∃c∈t,c.y0<=y/\y<c.y1:=λ⟨c,hcm,h⟩=>by have:=hord.1 c hcm;omega
    rw[aK hn,aG hy,aG ⟨b,by simp,hy⟩,aG hy]
   ·rw[aK hy]
    by_cases h:∃c∈t,c.y0<=y/\y<c.y1
    ·obtain⟨c,hcm,h⟩:=h;rw[aG ⟨c,hcm,h⟩,aG ⟨c,kh _ hcm,h⟩,aK hy]
    ·rw[aK h,aK hy,aK (show ¬∃c∈b::t,c.y0<=y/\y<c.y1 from λ⟨c,hcm,h2⟩=>by
      grind)]
noncomputable def uq(C:Z aJ)(b:aB):Bd:=⟨b.Y0,b.Y1,dV<|(G8 b.Xs).filter<|λp=>decide<|(⟨p.1,b.Y0,p.2,b.Y1⟩:aJ)∈C⟩
def OJ{l m:Z (Int×Int)}(h:l.Sublist m):(dV l).Sublist (dV m):=by
 induction h with
 |slnil=>exact List.Sublist.refl _
 |cons a _ ih=>grind [lH]
 |cons_cons a _ ih=>grind [lH]
def HE(l:Z (Int×Int)):(dV l).length % 2=0/\(dV l).length / 2=l.length:=by simp[ma]
def I9{s p:Z aB}{C:Z aJ}(hs:fT (s.map cO))(hp:fT (p.map cO))(hC:∀r∈C,r∈bF s)(hcov:∀x y,zU (p.map cO) x y=xJ C x y):(bF p).length<=C.length:=by
 have hinc:∀b∈s,k6 (uq C b).xs:=λb hb=>by
  have h1:=NO hs b hb;have h2:=OJ<|List.filter_sublist (l:=G8 b.Xs) (p:=λp=>decide<|(⟨p.1,b.Y0,p.2,b.Y1⟩:aJ)∈C)
  rw[G9<|xS hs b hb]at h2;exact List.Pairwise.sublist h2 h1
 have hlow:XN (s.map<|uq C):=by
  refine⟨λb hb=>?_,?_⟩
  ·obtain⟨c,hc,rfl⟩:=dU.1 hb;exact⟨(hs.each (cO c)<|dU.2 ⟨c,hc,rfl⟩).1,hinc c hc,(HE _).1⟩
  ·have:=hs.ord;rw[List.pairwise_map]at this ⊢;exact List.Pairwise.imp (λh=>h.1) this
 obtain⟨f1,f2,f3⟩:=fold_push (s.map<|uq C) [] hlow fT.nil (λc hc=>by cases hc);have hrow:∀{t:Z aB},(∀b∈t,b∈s)->∀x y,sZ (rowAt (t.map<|uq C) y) x=true->xJ C x y=true:=by
  intro t ht x y h
  induction t with
  |nil=>cases h
  |cons b t ih=>
   rw[fI,p9]at h;split at h
   ·rename_i hy;have hbm:=ht b (by simp);have h1:=hinc b hbm;have h:sZ (dV<|(G8 b.Xs).filter<|λp=>decide<|(⟨p.1,b.Y0,p.2,b.Y1⟩:aJ)∈C) x=true:=h;rw[xL h1,xK]at h;obtain⟨q,hq,h2⟩:=h;have hq:=nC.1 hq;exact lX.2 ⟨_,of_decide_eq_true hq.2,h2,hy⟩
   grind
 have hrow2:∀x y,xJ C x y=true->sZ (rowAt (s.map<|uq C) y) x=true:=by
  intro x y h;obtain⟨r,hr,h1,h2⟩:=lX.1 h;obtain⟨b,hb,q,hq,rfl⟩:=u7<|hC r hr
  dsimp only at h1 h2;have key:∀{t:Z aB},(∀c∈t,c∈s)->fT (t.map cO)->b∈t->rowAt (t.map<|uq C) y=(uq C b).xs:=by
   intro t ht hc hbt
   induction t with
   |nil=>cases hbt
   |cons c t ih=>
    rw[fI,p9]
    by_cases hy:c.Y0<=y/\y<c.Y1
    ·rw[aG (show(uq C c).y0<=y/\y<(uq C c).y1 from hy)]
     rcases eJ.1 hbt with rfl|hbt
     ·rfl
     ·have:=hc.G3 (cO b)<|dU.2 ⟨b,hbt,rfl⟩
      grind [cO]
    ·rw[aK (show ¬((uq C c).y0<=y/\y<(uq C c).y1)from hy)]
     rcases eJ.1 hbt with rfl|hbt
     ·exact absurd h2 hy
     ·exact ih (λd hd=>ht d<|kh _ hd) hc.tail hbt
  rw[key (λc hc=>hc) hs hb];have h1':=hinc b hb;show sZ (dV<|(G8 b.Xs).filter<|λp=>decide<|(⟨p.1,b.Y0,p.2,b.Y1⟩:aJ)∈C) x=true;rw[xL h1',xK];exact⟨q,nC.2 ⟨hq,bS hr⟩,h1⟩
 have hsame:p.map cO=(s.map<|uq C).foldl lA []:=yP hp f1 λx y=>by
  rw[hcov,fY];have e:rowAt ((s.map<|uq C).foldl lA []) y=rowAt (s.map<|uq C) y:=by
   rw[f3]
   by_cases h:∃b∈s.map (uq C),b.y0<=y/\y<b.y1
   ·rw[aG h]
   ·rw[aK h]
    exact(oy λb hb=>by
     have:¬(b.y0<=y/\y<b.y1):=λh2=>h ⟨b,hb,h2⟩
     omega).symm
  unfold zU;rw[e];exact⟨hrow2 x y,hrow (λb hb=>hb) x y⟩
 have hc1:(bF p).length=x6 (p.map cO):=by
  have:∀p:Z aB,(bF p).length=x6 (p.map cO):=λp=>by
   induction p with
   |nil=>rfl
   |cons b p ih=>rw[qf,dC,tr,ih];unfold x6;rw[fI,fI,List.sum_cons];rfl
  exact this p
 have hc2:∀s:Z aB,x6 (s.map<|uq C)=((bF s).filter<|λr=>decide<|r∈C).length:=λs=>by
  induction s with
  |nil=>rfl
  |cons b s ih=>
   rw[qf,List.filter_append,dC,<-ih];unfold x6;rw[fI,fI,List.sum_cons];congr 1;show(dV _).length / 2=_;rw[(HE _).2];unfold qe;rw[List.filter_map,dQ];rfl
 have hc3:((bF s).filter<|λr=>decide<|r∈C).length<=C.length:=gS (List.Nodup.sublist List.filter_sublist<|LD hs) λr hr=>of_decide_eq_true (nC.1 hr).2;rw[hc1,hsame];have e0:x6 ([]:Z Bd)=0:=rfl;have:=hc2 s;omega
section
variable {N:Nat}
def Ce{all:Z aJ}(w:aJ->Nat):∀(c:Z Nat),((c.filterMap<|λi=>all[i]?).map w).sum=(c.map<|λi=>(all[i]?).elim 0 w).sum
 | []=>rfl
 |i::c=>by
  rw[fI,List.sum_cons,<-Ce w c]
  cases h:all[i]? with
  |none=>rw[List.filterMap_cons_none (f:=λi=>all[i]?) h];simp
  |some x=>rw[List.filterMap_cons_some (f:=λi=>all[i]?) h,fI,List.sum_cons];rfl
def R3{all:Z aJ}{u:Nat->Nat}(h:∀i,i<all.length->u i∈cC all.length u)(w:aJ->Nat):((cC all.length u).map<|λk=>((rl all all.length u k).map w).sum).sum=(all.map w).sum:=by
 have e:(λk=>((rl all all.length u k).map w).sum)=λk=>(((List.range all.length).filter<|λx=>decide<|u x=k).map<|λi=>(all[i]?).elim 0 w).sum:=by
  funext k;unfold rl;rw[Ce];rfl
 rw[e,Lv (qg _ _) u _<|λx hx=>h x<|A6.1 hx];have:∀m,m<=all.length->((List.range m).map<|λi=>(all[i]?).elim 0 w).sum=((all.take m).map w).sum:=by
  intro m
  induction m with
  |zero=>intro _;rfl
  |succ m ih=>
   grind [HD,dN,aM]
 grind
def HF:∀{l m:Z Nat},l.length=m.length->(∀(j x y:Nat),l[j]? =some x->m[j]? =some y->x<=y)->l.sum<=m.sum
 | [],[],_,_=>cG _
 | [],_::_,h,_=>by simp at h
 |_::_,[],h,_=>by simp at h
 |a::l,b::m,h,hle=>by
  have h1:=hle 0 a b rfl rfl;have h2:=HF (l:=l) (m:=m) (by simpa using h) λj x y hx hy=>hle (j+1) x y (by grind) (by grind);rw[List.sum_cons,List.sum_cons];omega
def NU{r hs:Z aJ}{s:Z aB}(h1:∀x∈r,gQ x=true)(h2:∀x∈hs,gQ x=true)(hc:fT (s.map cO))(hl:C5 (xO r++xO hs) (kQ r++kQ hs) (s.map cO)):∀q∈bF s,gQ q=true/\q.X0<q.X1/\q.Y0<q.Y1:=by
 intro q hq;have hp:=xZ hc q hq;obtain⟨b,hb,p,hpm,rfl⟩:=u7 hq;have hll:=hl (cO b)<|dU.2 ⟨b,hb,rfl⟩
 have hm:=JM p hpm;have bx:∀c∈xO r++xO hs,-1000000<=c/\c<=1000000:=λc hcm=>by
  rcases dP.1 hcm with h|h
  ·obtain⟨x,hx,h⟩:=xP.1 h;have:=ql<|h1 x hx
   omega
  ·obtain⟨x,hx,h⟩:=xP.1 h;have:=ql<|h2 x hx
   omega
 have by':∀c∈kQ r++kQ hs,-1000000<=c/\c<=1000000:=λc hcm=>by
  rcases dP.1 hcm with h|h
  ·obtain⟨x,hx,h⟩:=qd.1 h;have:=ql<|h1 x hx
   omega
  ·obtain⟨x,hx,h⟩:=qd.1 h;have:=ql<|h2 x hx
   omega
 have g1:=bx _<|hll.2.2 p.1 hm.1
 have g2:=bx _<|hll.2.2 p.2 hm.2
 have g3:=by' _ hll.1
 have g4:=by' _ hll.2.1
 exact⟨Hp ⟨g1,g3,g2,g4⟩,hp⟩
structure ue (r hs:Z aJ) (s:Z aB) (u:Nat->Nat) (ps:Z (Z aB)):Prop where
 r1:∀x∈r,gQ x=true
 r2:∀x∈hs,gQ x=true
 k1:∀x∈r,H3 x
 k2:∀x∈hs,H3 x
 dr:yT r hs s
 pt:wz s u ps
 zq:(bF s).length<=2000
def ue.part{r hs:Z aJ}{s:Z aB}{u:Nat->Nat}{ps:Z (Z aB)}(h:ue r hs s u ps){p:Z aB}(hp:p∈ps):fT (p.map cO)/\(bF p).length<=2000/\∀q∈bF p,gQ q=true/\q.X0<q.X1/\q.Y0<q.Y1:=by
 obtain⟨sx,sy⟩:=h.dr.small h.k1 h.k2;obtain⟨j,k,g1,g2,g3,g4⟩:=Ht h.pt h.dr.can h.dr.lim sx sy hp
 have:=I9 h.dr.can g3.can (λx hx=>by
  grind [oM,dT]) g3.cover
 have h2:=Hi (bF s) (bF s).length u k;have:=h.zq;exact⟨g3.can,by omega,NU h.r1 h.r2 g3.can g4⟩
def ue.cC{r hs:Z aJ}{s:Z aB}{u:Nat->Nat}{ps:Z (Z aB)}(h:ue r hs s u ps):∀i,i<(bF s).length->u i∈Gk.cC (bF s).length u:=λi hi=>kD.2 ⟨by have:=h.pt.join.le i hi;omega,h.pt.join.rr i hi⟩
def ue.total{r hs:Z aJ}{s:Z aB}{u:Nat->Nat}{ps:Z (Z aB)}(h:ue r hs s u ps):(ps.map<|λp=>(bF p).length).sum<=(bF s).length:=by
 have h1:=R3 h.cC<|λ_=>1
 have one:∀l:Z aJ,(l.map<|λ_=>1).sum=l.length:=λl=>by
  induction l with
  |nil=>rfl
  |cons x l ih=>grind
 simp only[one]at h1;rw[<-h1];refine HF (by simp[h.pt.len]) λj x y hx hy=>?_;rw[kg,tw]at hx hy;obtain⟨p,hp,rfl⟩:=hx;obtain⟨k,hk,rfl⟩:=hy;have hs:=h.pt.each j k p hk hp
 exact I9 h.dr.can hs.can (λx hx=>by
  grind [oM,dT]) hs.cover
def FD{ps:Z (Z aB)}{x y:Int}:xJ (ps.flatMap bF) x y=true↔∃p∈ps,xJ (bF p) x y=true:=by
 grind [lX]
def ue.cover{r hs:Z aJ}{s:Z aB}{u:Nat->Nat}{ps:Z (Z aB)}(h:ue r hs s u ps)(x y:Int):xJ (ps.flatMap bF) x y=zU (s.map cO) x y:=by
 rw[<-tt h.dr.can,fY,FD];constructor
 ·rintro⟨p,hp,hc⟩;obtain⟨j,hj⟩:=dD hp;have hjl:=(bP.1 hj).1;have hk:(Gk.cC (bF s).length u)[j]? =some ((Gk.cC (bF s).length u)[j]'(by rw[<-h.pt.len];exact hjl)):=aM _;have hs:=h.pt.each j _ _ hk hj;rw[tt hs.can,hs.cover]at hc
  grind [lX,oM,dT]
 ·intro hc;obtain⟨q,hq,h2⟩:=lX.1 hc;obtain⟨i,hi⟩:=dD hq;have hil:=(bP.1 hi).1;obtain⟨j,hj⟩:=dD<|h.cC i hil
  have hjl:j<ps.length:=by rw[h.pt.len];grind
  have hs:=h.pt.each j _ _ hj<|aM hjl
  refine⟨_,cP hjl,?_⟩;rw[tt hs.can,hs.cover]
  grind [lX,oM]
section
variable {a:lj}{oc:Z (Z aB)}{fU:Z (Z (Z aB))}{r:Nat->Nat}{gs:Z bG}{ofP ofB tZ:Z Int}{u9:Z ld}
def FE(b:sI a oc fU r gs ofP ofB tZ u9){i:Nat}(hi:i<a.aP.length):∃s ps u,oc[i]? =some s/\fU[i]? =some ps/\ue a.aP[i] (my a.aZ ((i:Nat):Int)) s u ps:=by
 have hd:oc[i]? =some (oc[i]'(by rw[b.dr.len];exact hi)):=aM _;have hp:fU[i]? =some (fU[i]'(by rw[b.dr.FY];exact hi)):=aM _;have hdr:=b.dr.dr i _ _ hi (aM hi) hd;obtain⟨u,hu⟩:=b.dr.pt i _ _ hi hd hp;have hreg:=AU.1<|b.Eb.XG _<|cP hi
 exact⟨_,_,u,hd,hp,λx hx=>((w4.1 hreg.1).2 x hx).1,λx hx=>(vO b.Eb.gb _ x hx).2,(Hq hreg.1).2,λx hx=>(vO b.Eb.gb _ x hx).1,hdr,hu,b.zq.1 _<|dT hd⟩
end
end
def HG(a b:aJ):Prop:=(0<min a.X1 b.X1 - max a.X0 b.X0/\0<=min a.Y1 b.Y1 - max a.Y0 b.Y0)\/(0<=min a.X1 b.X1 - max a.X0 b.X0/\0<min a.Y1 b.Y1 - max a.Y0 b.Y0)
def OK{all:Z aJ}(hB:all.Pairwise w5)(hp:∀r∈all,r.X0<r.X1/\r.Y0<r.Y1){i j:Nat}{a c:aJ}(ha:all[i]? =some a)(hc:all[j]? =some c):HG a c↔i=j\/El all i j\/El all j i:=by
 have h1:El all i j↔JQ a c:=⟨λ⟨a',c',e1,e2,h⟩=>by grind,λh=>⟨a,c,ha,hc,h⟩⟩;have h2:El all j i↔JQ c a:=⟨λ⟨a',c',e1,e2,h⟩=>by grind,λh=>⟨c,a,hc,ha,h⟩⟩
 grind [dT,bP,HG,JQ,Nat.lt_trichotomy,og,w5]
def E0{α:Type}{q q':Z α}(h:q <+:q'){t:Nat}{x:α}(hx:q[t]? =some x):q'[t]? =some x:=by
 obtain⟨r,rfl⟩:=h
 grind
def yY(f:Int->Int->Bool)(x y:Int):Prop:=f x y=true/\∀x' y',f x' y'=true->y<y'\/(y=y'/\x<=x')
def yY.unique{f:Int->Int->Bool}{x y x' y':Int}(h:yY f x y)(h':yY f x' y'):x=x'/\y=y':=by
 have h1:=h.2 _ _ h'.1;have h2:=h'.2 _ _ h.1;omega
def MT{a:aJ}{l:Z aJ}(hp:∀r∈a::l,r.X0<r.X1/\r.Y0<r.Y1)(hB:∀r∈l,w5 a r):yY (xJ<|a::l) a.X0 a.Y0:=by
 have pa:=hp a (by simp);refine⟨lX.2 ⟨a,by simp,by omega,by omega⟩,λx' y' h=>?_⟩
 grind [lX,w5]
def MU{s:Z aB}(hc:fT (s.map cO))(hne:s≠[]):∃r t,bF s=r::t/\yY (λx y=>zU (s.map cO) x y) r.X0 r.Y0/\NS s= ⟨r.X0,r.Y0⟩:=by
 cases s with
 |nil=>grind
 |cons b s=>
  have hx:=hc.each (cO b) (by simp);have hxs:b.Xs≠[]:=hx.2.1;have he:b.Xs.length % 2=0:=hx.2.2.2;obtain⟨x0,x1,xs,e⟩:∃x0 x1 xs,b.Xs=x0::x1::xs:=by
   match hb:b.Xs with
   | []=>grind
   | [x0]=>grind
   |x0::x1::xs=>simp
  have hr:bF (b::s)= ⟨x0,b.Y0,x1,b.Y1⟩::((G8 xs).map (λp=>(⟨p.1,b.Y0,p.2,b.Y1⟩:aJ))++bF s):=by
   rw[qf];unfold qe;rw[e];rfl
  have hB:=uN hc;have hpos:=xZ hc;rw[hr]at hB hpos;refine⟨_,_,hr,?_,by grind [NS]⟩;have:=MT hpos (r6.1 hB).1;rw[<-hr]at this;refine⟨?_,λx' y' h=>this.2 x' y' ?_⟩
  ·show zU _ _ _=true;rw[<-tt hc];exact this.1
  grind [tt]
def Ja{all:Z aJ}{u:Nat->Nat}(hB:all.Pairwise w5)(hp:∀r∈all,r.X0<r.X1/\r.Y0<r.Y1)(hJ:Joined all u){h:Nat}{a:aJ}(ha:all[h]? =some a)(hu:u h=h):yY (xJ<|rl all all.length u h) a.X0 a.Y0:=by
 obtain⟨hl,e⟩:=bP.1 ha;have pa:=hp a<|dT ha
 refine⟨lX.2 ⟨a,oM.2 ⟨h,hl,hu,ha⟩,by omega,by omega⟩,λx' y' hc=>?_⟩;obtain⟨r,hr,hx,hy⟩:=lX.1 hc;obtain⟨k,hk,huk,hrk⟩:=oM.1 hr;have hle:=hJ.le k hk
 grind [bP,og,w5]
def yZ{u:Nat->Nat}:∀(d i:Nat),∃t,cC (i+d) u=cC i u++t
 | 0,i=>⟨[],by simp⟩
 |d+1,i=>by
  obtain⟨t,ht⟩:=yZ (u:=u) d i;rw[<-Nat.add_assoc,iI,ht];split
  ·exact⟨t++[i+d],by simp⟩
  ·exact⟨t,rfl⟩
def QJ{u:Nat->Nat}{i n:Nat}(hi:i<n)(hu:u i=i):(cC n u)[(cC i u).length]? =some i:=by
 obtain⟨t,ht⟩:=yZ (u:=u) (n -(i+1))<|i+1
 rw[show i+1+(n -(i+1))=n by omega]at ht
 grind [iI]
section
variable {N:Nat}
def OL{a b:aJ}(ha:H3 a)(hb:H3 b):j9 N a b=some (decide<|HG a b):=by
 have a1:=ha.s1;have a2:=ha.s2;have a3:=ha.s3;have a4:=ha.s4;have b1:=hb.s1;have b2:=hb.s2;have b3:=hb.s3;have b4:=hb.s4;unfold small at a1 a2 a3 a4 b1 b2 b3 b4;unfold j9;rw[Bv,Bv,Bw,Bw,fC (x:=min a.X1 b.X1 - max a.X0 b.X0) (by omega) (by omega),fC (x:=min a.Y1 b.Y1 - max a.Y0 b.Y0) (by omega) (by omega)]
 grind [HG,gt_iff_lt,ge_iff_le]
def insert_eq{l:Z (Z aJ)}{r0:aJ}{t:Z aJ}(hl:l.length<=1000000)(hN:4398046511104<=N)(h:∀x,l[l.length - 1]? =some x->∃x0 t',x=x0::t'/\¬(r0.Y0<x0.Y0\/(r0.Y0=x0.Y0/\r0.X0<x0.X0))):kX N l (r0::t)=some (l++[r0::t]):=by
 refine Y9 ?_;unfold kX;refine Ym (Zl (Go:=λs=>s=((l.length:Nat):Int)) (Rt:=λ_=>False) (λs=>s=((l.length:Nat):Int)) (λs=>0) ?_ rfl (by omega)) ?_
 ·rintro s rfl
  by_cases h0:l.length=0
  ·grind [cF,aA,YO]
  ·rw[bS (by omega),aO,iv (by omega) (by omega)];have hx:l[l.length - 1]? =some (l[l.length - 1]'(by omega)):=aM _;obtain⟨x0,t',e,hn⟩:=h _ hx;have i1:idx (r0::t) 0=some r0:=rfl;have i2:idx (l[l.length - 1]'(by omega)) 0=some x0:=by rw[e];rfl
   rw[i1,aA,cK hx,aA,i2,aA]
   grind [jE,aA,decide,YO]
 intro o ho;refine YS ho ?_<|λr hr=>hr.elim
 rintro s rfl;refine X_ (nT l l.length<|cG _)<|Y2 ?_<|Y2 ?_<|X_ (q7 l l.length<|cG _)<|Y2 ?_<|V_ ?_
 all_goals grind
structure BI (all:Z aJ) (u:Nat->Nat) (i:Nat) (q:Z Nat) (done:Z Bool) (own:Z aJ):Prop where
 len:done.length=all.length
 nd:q.Nodup
 lt:∀k∈q,k<all.length/\u k=i
 hd:i∈q
 dn:∀k,k<all.length->done[k]? =some (decide<|u k<i\/k∈q)
 ow:own.map some=q.map (λk=>all[k]?)
def BI.VT{all:Z aJ}{u:Nat->Nat}{i:Nat}{q:Z Nat}{done:Z Bool}{own:Z aJ}(h:BI all u i q done own):own.length=q.length:=by
 have:=congrArg List.length h.ow
 grind
def BI.zq{all:Z aJ}{u:Nat->Nat}{i:Nat}{q:Z Nat}{done:Z Bool}{own:Z aJ}(h:BI all u i q done own):q.length<=all.length:=by
 have:=gS h.nd (m:=List.range all.length) (λk hk=>by rw[A6];exact(h.lt k hk).1)
 grind
def BI.at_{all:Z aJ}{u:Nat->Nat}{i:Nat}{q:Z Nat}{done:Z Bool}{own:Z aJ}(h:BI all u i q done own){p k:Nat}(hk:q[p]? =some k):own[p]? =all[k]? :=by
 have e:=congrArg (λl=>l[p]?) h.ow
 grind
def BI.mem{all:Z aJ}{u:Nat->Nat}{i:Nat}{q:Z Nat}{done:Z Bool}{own:Z aJ}(h:BI all u i q done own){r:aJ}:r∈own↔∃k∈q,all[k]? =some r:=by
 have:r∈own↔some r∈own.map some:=by simp
 rw[this,h.ow,dU]
def LG{s:Z aB}{u:Nat->Nat}{ps:Z (Z aB)}(hc:fT (s.map cO))(hP:wz s u ps)(hn:(bF s).length<=2000)(hok:∀r∈bF s,H3 r)(hps:∀p∈ps,(bF p).length<=2000)(hN:4398046511104<=N):
  gM N (bF s)=some (ps.map bF):=by
 refine Y9 ?_;have hB:=uN hc;have hpos:=xZ hc;have hJ:=hP.join;have hlen:=hP.len;have heach:=hP.each;clear hP hc;generalize bF s=all at *;unfold gM;refine X_ (wx false (by omega)) ?_;have hadj:∀a b,(El all a b\/El all b a)->u a=u b:=λa b h=>h.elim (λh=>hJ.co a b h)<|λh=>(hJ.co b a h).symm
 refine Ym (Zc (n:=all.length) (λst=>st.2.2) (λi st=>st.1.length=all.length/\(∀k,k<all.length->st.1[k]? =some (decide (u k<i)))/\st.2.1=(ps.take (cC i u).length).map bF) (Go:=λst=>st.2.1=ps.map bF) (Rt:=λ_=>False) ?_ ?_ (dH _) rfl
  ⟨by simp,λk hk=>by simp[hk],by simp[cC]⟩ (by omega)) ?_
 ·rintro i⟨done,out,ii⟩hi e⟨hdl,hdn,hout⟩;dsimp only at e hdl hdn hout ⊢;subst e;rw[jT hi,aO];refine Yx (hdn i hi)<|YW (λhb=>?_)<|λhb=>?_
  ·have hlt:u i<i:=of_decide_eq_true hb;refine YK ⟨bR (by omega),hdl,λk hk=>?_,?_⟩
   ·rw[hdn k hk];congr 1;rw[decide_eq_decide];have hne:u k≠i:=λe=>by have:=hJ.rr k hk;grind
    omega
   grind [iI]
  ·have hge:¬u i<i:=of_decide_eq_false hb;have hui:u i=i:=by have:=hJ.le i hi;omega
   have hx:all[i]? =some all[i]:=aM hi;refine Yx (hdn i hi)<|Yx hx ?_
   refine Ym (Zl (Go:=λst=>st.1.length=all.length/\(∀k,k<all.length->st.1[k]? =some (decide (u k<i+1)))/\(∀r,r∈st.2.1↔r∈rl all all.length u i)/\st.2.1.length<=all.length) (Rt:=λ_=>False)
    (λst=>∃(q:Z Nat)(t:Nat),st.2.2=((t:Nat):Int)/\t<=q.length/\BI all u i q st.1 st.2.1/\∀(p k j:Nat),p<t->q[p]? =some k->j<all.length->(El all k j\/El all j k)->j∈q)
    (λst=>all.length+1 - st.2.2.toNat) ?_ ⟨[i],0,rfl,by simp,?_,λp k j hp=>by omega⟩ (by simp;omega)) ?_
   ·rintro⟨d1,o1,t'⟩⟨q,t,e,ht,hI,hcl⟩;dsimp only at e hI ⊢;subst e;have hql:=hI.zq;have hol:=hI.VT
    by_cases hlt:t<q.length
    ·rw[jT (by omega:t<o1.length),aO];have hqt:q[t]? =some q[t]:=aM hlt;have hkt:=hI.lt _<|cP hlt
     have hya:all[q[t]]? =some all[q[t]]:=aM hkt.1
     refine Ym (Zc (n:=all.length) (λst=>st.2.2) (λj st=>∃q',q <+:q'/\BI all u i q' st.1 st.2.1/\∀j',j'<j->(El all q[t] j'\/El all j' q[t])->j'∈q')
      (Go:=λst=>∃q',q <+:q'/\BI all u i q' st.1 st.2.1/\∀j',j'<all.length->(El all q[t] j'\/El all j' q[t])->j'∈q') (Rt:=λ_=>False) ?_ ?_ (dH _) rfl ⟨q,List.prefix_refl _,hI,λj' hj=>by omega⟩ (by omega)) ?_
     ·rintro j⟨d2,o2,jj⟩hj e⟨q',hpre,hI',hc'⟩;dsimp only at e hI' ⊢;subst e;rw[jT hj,aO];have hq't:q'[t]? =some q[t]:=by rw[E0 hpre hqt]
      have hy2:o2[t]? =some all[q[t]]:=by rw[hI'.at_ hq't];exact hya
      have hz:all[j]? =some all[j]:=aM hj;have htc:=OK hB hpos hya hz;have hcond:((idx d2 ((j:Nat):Int)).bind λx1054=>bif(!x1054)then((idx o2 ((t:Nat):Int)).bind λx1056=>(idx all ((j:Nat):Int)).bind λx1058=>(j9 N x1056 x1058).bind λx1061=>some x1061)else some false)=some (!decide (u j<i\/j∈q')&&decide (HG all[q[t]] all[j])):=by
       rw[cK<|hI'.dn j hj,aA]
       cases decide (u j<i\/j∈q')with
       |true=>rfl
       |false=>rw[qp,aO,cK hy2,aA,cK hz,aA,OL (hok _ (cP hkt.1)) (hok _ (cP hj)),aA,Bool.true_and]
      refine X_ hcond ?_;refine Ym (P:=λst:Z Bool×Z aJ=>∃q',q <+:q'/\BI all u i q' st.1 st.2/\∀j',j'<j+1->(El all q[t] j'\/El all j' q[t])->j'∈q') (YW (λhb=>?_)<|λhb=>?_)<|λst hst=>YK ⟨bR (by omega),hst⟩
      ·rw[dB,Bool.not_eq_true',decide_eq_false_iff_not,cZ]at hb;have hju:u j=i:=by
        rcases htc.1 hb.2 with h|h
        ·rw[<-h];exact hkt.2
        ·rw[<-hadj _ _ h];exact hkt.2
       have hjq:j∉q':=λh=>hb.1<|.inr h
       have hol2:=hI'.VT;have hql2:=hI'.zq;refine Yx (hI'.dn j hj)<|Yx hz<|Y2 (by simp only[dO,List.length_nil];omega)<|V_ ⟨q'++[j],hpre.trans<|List.prefix_append _ _,⟨?_,?_,?_,?_,?_,?_⟩,?_⟩
       ·rw[jV];exact hI'.len
       ·rw[List.nodup_append];exact⟨hI'.nd,by simp,λa ha b hb=>by simp at hb;subst hb;exact λe=>hjq<|e▸ha⟩
       ·intro k hk
        rcases dP.1 hk with hk|hk
        ·exact hI'.lt k hk
        ·simp at hk;subst hk;exact⟨hj,hju⟩
       ·exact List.mem_append_left _ hI'.hd
       ·intro k hk;rw[dA,mB]
        by_cases e:j=k
        ·subst e;rw[aG rfl,aG (by rw[hI'.len];exact hj)];congr 1;exact(bS<|.inr (by simp)).symm
        ·rw[aK e,hI'.dn k hk];congr 1;rw[decide_eq_decide,dP];simp only[mA];constructor
         ·exact λh=>h.elim .inl<|λh=> .inr<|.inl h
         ·exact λh=>h.elim .inl<|λh=>h.elim .inr<|λh=>absurd h.symm e
       ·rw[fX,fX,hI'.ow];simp[hz]
       ·intro j' hj' ha
        by_cases e:j'=j
        ·subst e;simp
        ·exact List.mem_append_left _<|hc' j' (by omega) ha
      ·refine V_ ⟨q',hpre,hI',λj' hj' ha=>?_⟩
       by_cases e:j'=j
       ·subst e;have hj2:u j'=i:=by rw[<-hadj _ _ ha];exact hkt.2
        rw[bS<|htc.2<|.inr ha,Bool.and_true,Bool.not_eq_false',cZ]at hb
        rcases hb with hb|hb
        ·omega
        ·exact hb
       ·exact hc' j' (by omega) ha
     ·rintro⟨d2,o2,jj⟩e hI2;dsimp only at e hI2 ⊢;subst e;rw[pI,aR];exact YO hI2
     intro o ho;refine YS ho ?_<|λr hr=>hr.elim
     rintro⟨d2,o2,jj⟩⟨q',hpre,hI',hc'⟩;dsimp only at hI' ⊢;refine YK ⟨⟨q',t+1,bR (by omega),?_,hI',λp k j hp hk hj ha=>?_⟩,?_⟩
     ·have:=hpre.length_le;omega
     ·by_cases e:p=t
      ·subst e;rw[E0 hpre hqt]at hk;injection hk with hk;subst hk
       exact hc' j hj ha
      ·have hpq:q[p]? =some (q[p]'(by omega)):=aM _;rw[E0 hpre hpq]at hk;injection hk with hk;subst hk
       exact hpre.subset<|hcl p _ j (by omega) hpq hj ha
     ·rw[bR (by omega)];simp only[dA];omega
    ·rw[AV (by omega:o1.length<=t),aR];have htq:t=q.length:=by omega
     have hcls:∀k,k<all.length->(k∈q↔u k=i):=λk hk=>⟨λh=>(hI.lt k h).2,λh=>by
      have hstep:∀a b,El all a b->(a∈q↔b∈q):=λa b hab=>by
       have hab':=hab;obtain⟨ra,rb,e1,e2,_⟩:=hab';have hla:=(bP.1 e1).1;have hlb:=(bP.1 e2).1;constructor
       ·intro h';obtain⟨p,hp⟩:=dD h';exact hcl p a b (by rw[htq];exact(bP.1 hp).1) hp hlb<|.inl hab
       ·intro h';obtain⟨p,hp⟩:=dD h';exact hcl p b a (by rw[htq];exact(bP.1 hp).1) hp hla<|.inr hab
      exact hJ.fi (λk=>k∈q) hstep i k hi hk (by rw[hui,h]) hI.hd⟩
     refine YO ⟨hI.len,λk hk=>?_,λr=>?_,by rw[hol];exact hql⟩
     ·rw[hI.dn k hk];congr 1;rw[decide_eq_decide,hcls k hk];omega
     ·rw[hI.mem,oM];constructor
      ·rintro⟨k,hk,h⟩;exact⟨k,(hI.lt k hk).1,(hI.lt k hk).2,h⟩
      ·rintro⟨k,hk,h1,h2⟩;exact⟨k,(hcls k hk).2 h1,h2⟩
   ·refine⟨by rw[jV];exact hdl,by simp,λk hk=>by simp at hk;subst hk;exact⟨hi,hui⟩,by simp,λk hk=>?_,by simp[hx]⟩;rw[dA,mB]
    by_cases e:i=k
    ·subst e;rw[aG rfl,aG (by rw[hdl];exact hi)];congr 1;exact(bS<|.inr (by simp)).symm
    ·rw[aK e,hdn k hk];congr 1;rw[decide_eq_decide];simp only[mA];omega
   intro o ho;refine YS ho ?_<|λr hr=>hr.elim
   rintro⟨d1,o1,t'⟩⟨g1,g2,g3,g4⟩;dsimp only at g1 g2 g3 g4 ⊢;have hh:=QJ hi hui;have hml:(cC i u).length<ps.length:=by rw[hlen];exact(bP.1 hh).1
   have hpp:ps[(cC i u).length]? =some ps[(cC i u).length]:=aM hml;have qq:=heach _ _ _ hh hpp;have hcov:∀x y,zU (ps[(cC i u).length].map cO) x y=xJ o1 x y:=λx y=>by rw[qq.cover];exact(RS g3 x y).symm
   have hpl:=hps _<|cP hml
   refine X_ (yX qq.can hcov (by omega) (λr hr=>?_) (by omega) hN) ?_
   ·obtain⟨k,_,_,hk⟩:=oM.1<|(g3 r).1 hr
    exact(hpos r<|dT hk).1
   have hfirst:∀(j h:Nat)p,(cC all.length u)[j]? =some h->ps[j]? =some p->∃r t a,bF p=r::t/\all[h]? =some a/\r.X0=a.X0/\r.Y0=a.Y0:=λj h p hj hp=>by
    have hs:=heach j h p hj hp;obtain⟨hhl,hhu⟩:=kD.1<|dT hj
    have ha:all[h]? =some all[h]:=aM hhl;have hne:p≠[]:=λe=>by
     have hL:=(Ja hB hpos hJ ha hhu).1;rw[<-hs.cover,e]at hL
     cases hL
    obtain⟨r,t,e1,e2,_⟩:=MU hs.can hne;have e2':yY (xJ<|rl all all.length u h) r.X0 r.Y0:=⟨by rw[<-hs.cover];exact e2.1,λx' y' hxy=>e2.2 x' y' (by simp only;rw[hs.cover];exact hxy)⟩;obtain⟨e3,e4⟩:=e2'.unique<|Ja hB hpos hJ ha hhu
    exact⟨r,t,all[h],e1,ha,e3,e4⟩
   obtain⟨r,t,a,e1,e2,e3,e4⟩:=hfirst _ _ _ hh hpp;have hheads:(cC i u).length<=i:=mT i u;rw[e1];refine X_ (insert_eq (by rw[hout,dQ,cN];omega) hN<|λx hxl=>?_)<|YK ⟨bR (by omega),g1,g2,?_⟩
   ·have hol:out.length=(cC i u).length:=by rw[hout,dQ,cN];omega
    have hpos2:0<(cC i u).length:=by
     have:=(bP.1 hxl).1;omega
    rw[hout,kg,dQ,cN,show min (cC i u).length ps.length=(cC i u).length by omega,List.getElem?_take_of_lt (by omega)]at hxl;have hp2:ps[(cC i u).length - 1]? =some (ps[(cC i u).length - 1]'(by omega)):=aM _;rw[hp2]at hxl;injection hxl with hxl
    have hh2:(cC i u)[(cC i u).length - 1]? =some ((cC i u)[(cC i u).length - 1]'(by omega)):=aM _;have hm2:=kD.1<|dT hh2
    obtain⟨tl,htl⟩:=yZ (u:=u) (all.length - i) i;rw[show i+(all.length - i)=all.length by omega]at htl;have hh3:(cC all.length u)[(cC i u).length - 1]? =some ((cC i u)[(cC i u).length - 1]'(by omega)):=by rw[htl,kI (by omega)];exact hh2
    obtain⟨r',t',a',f1,f2,f3,f4⟩:=hfirst _ _ _ hh3 hp2;refine⟨r',t',by rw[<-hxl];exact f1,?_⟩;obtain⟨l1,q1⟩:=bP.1 f2;obtain⟨l2,q2⟩:=bP.1 e2;have hbh:=og.1 hB _ _ l1 l2 hm2.1;rw[q1,q2]at hbh;have p1:=hpos a'<|dT f2
    unfold w5 at hbh;rw[e3,e4,f3,f4];omega
   ·dsimp only;rw[iI,aG hui,dC,hout];simp only[dO,List.length_nil];rw[dN hml,fX,fI,List.map_nil,e1]
 ·rintro⟨done,out,ii⟩e⟨_,_,hout⟩;dsimp only at e hout ⊢;subst e;rw[pI,aR];refine YO ?_;dsimp only;rw[hout,oe (by rw[hlen];omega)]
 intro o ho;exact YS ho (λs hs=>V_ hs)<|λr hr=>hr.elim
end
section
variable {α β:Type}
def QK{N:Nat}{l:Z α}{s:β}{φ:α->β->aV Int}(c:α->Int)(hφ:∀x,φ x s=some (c x))(hs:∀(i j:Nat)(x y:α),i<j->l[i]? =some x->l[j]? =some y->0<=c x->0<c y)
  (hl:l.length<=1048576) (hN:4194304<=N):∃r,Ii N l s φ=some r/\r.2=l.any (λx=>c x==0)/\(r.2=true->r.1=Kj l (λx=>c x==0)):=by
 show Ok (Ii N l s φ) (λr=>r.2=l.any (λx=>c x==0)/\(r.2=true->r.1=Kj l (λx=>c x==0)));unfold Ii
 refine Ym (Zl (Go:=λst:Int×Int=>∃a:Nat,st.1=((a:Nat):Int)/\a<=l.length/\(∀j x,j<a->l[j]? =some x->c x<0)/\(∀j x,a<=j->l[j]? =some x->0<=c x)) (Rt:=λ_=>True)
  (λst=>∃a b:Nat,st=(((a:Nat):Int),((b:Nat):Int))/\a<=b/\b<=l.length/\(∀j x,j<a->l[j]? =some x->c x<0)/\(∀j x,b<=j->l[j]? =some x->0<=c x))
  (λst=>(st.2 - st.1).toNat) ?_ ⟨0,l.length,rfl,by omega,cG _,λj x hj=>by omega,λj x hj hx=>by grind⟩ (by omega)) ?_
 ·rintro st⟨a,b,rfl,hab,hb,h1,h2⟩;dsimp only
  by_cases hlt:a<b
  ·have hm:(a+b) / 2<l.length:=by omega
   have hx:l[(a+b) / 2]? =some l[(a+b) / 2]:=aM hm;rw[show decide (((a:Nat):Int)<((b:Nat):Int))=true by grind,aO,IQ hlt (by omega)];refine Yx hx<|X_ (hφ _) ?_
   by_cases hc:c l[(a+b) / 2]<0
   ·rw[bS hc,aO,aA];refine YK ⟨⟨(a+b) / 2+1,b,?_,by omega,hb,λj x hj hx'=>?_,h2⟩,?_⟩
    ·rw[bR (by omega)]
    ·by_cases e:j=(a+b) / 2
     ·subst e;rw[hx]at hx';injection hx' with hx';rw[<-hx'];exact hc
     ·by_cases h0:c x<0
      ·exact h0
      ·have:=hs j _ x _ (by omega) hx' hx (by omega);omega
    ·rw[bR (by omega)];simp only;omega
   ·rw[cF hc,aR,aA];refine YK ⟨⟨a,(a+b) / 2,rfl,by omega,by omega,h1,λj x hj hx'=>?_⟩,by simp only;omega⟩
    by_cases e:j=(a+b) / 2
    ·subst e;rw[hx]at hx';injection hx' with hx';rw[<-hx'];omega
    ·have:=hs _ j _ x (by omega) hx hx' (by omega);omega
  ·rw[show decide (((a:Nat):Int)<((b:Nat):Int))=false by rw[decide_eq_false_iff_not];omega,aR];exact YO ⟨a,rfl,by omega,h1,λj x hj hx=>h2 j x (by omega) hx⟩
 intro o ho;refine YS ho ?_<|λr hr=>r.elim
 rintro⟨st1,st2⟩⟨a,ha,hle,h1,h2⟩;dsimp only at ha ⊢;subst ha
 by_cases hlt:a<l.length
 ·have hx:l[a]? =some l[a]:=aM hlt;rw[show decide (((a:Nat):Int)<((l.length:Nat):Int))=true by rw[cZ];omega,aO,cK hx,aA,hφ,aA,aA];refine V_ ?_
  by_cases he:c l[a]=0
  ·have hb:(c l[a]==0)=true:=by rw[beq_iff_eq];exact he
   rw[hb];refine⟨(iN.2 ⟨_,cP hlt,hb⟩).symm,λ_=>?_⟩;rw[GP hx hb (λj y hj hy=>by have:=h1 j y hj hy;rw[beq_eq_false_iff_ne];omega)]
  ·have hb:(c l[a]==0)=false:=by rw[beq_eq_false_iff_ne];exact he
   rw[hb];refine⟨?_,λh=>by cases h⟩;symm;rw[List.any_eq_false];intro x hx';obtain⟨j,hj⟩:=dD hx';rw[iM,beq_eq_false_iff_ne]
   by_cases hja:j<a
   ·have:=h1 j x hja hj;omega
   ·by_cases e:j=a
    ·subst e;rw[hx]at hj;injection hj with hj;rw[<-hj];exact he
    ·have h3:=h2 a _ (cG _) hx;have:=hs a j _ x (by omega) hx hj h3;omega
 ·rw[show decide (((a:Nat):Int)<((l.length:Nat):Int))=false by rw[decide_eq_false_iff_not];omega,aR,aA];refine V_ ⟨?_,λh=>by cases h⟩;symm;rw[List.any_eq_false];intro x hx';obtain⟨j,hj⟩:=dD hx';have:=(bP.1 hj).1;have:=h1 j x (by omega) hj;rw[iM,beq_eq_false_iff_ne];omega
end
def E1(p q:bC):Prop:=cD.lt p.Part q.Part\/(p.Part=q.Part/\cD.lt p.bC q.bC)
theorem NV{p q:bC}(h1:p.Part=q.Part)(h2:p.bC=q.bC):p=q:=by cases p;simp_all
theorem E1.irrefl(p:bC):¬E1 p p:=λh=>by
 rcases h with h|⟨_,h⟩
 ·exact cD.lt_irrefl _ h
 ·exact cD.lt_irrefl _ h
def E1.trans{p q r:bC}(h1:E1 p q)(h2:E1 q r):E1 p r:=by
 rcases h1 with h1|⟨e1,h1⟩ <;> rcases h2 with h2|⟨e2,h2⟩
 ·exact .inl<|cD.lt_trans h1 h2
 ·exact .inl (by grind)
 ·exact .inl (by grind)
 ·exact .inr ⟨e1.trans e2,cD.lt_trans h1 h2⟩
def E1.total(p q:bC):E1 p q\/p=q\/E1 q p:=by
 rcases cD.vr p.Part q.Part with h|h|h
 ·exact .inl<|.inl h
 ·rcases cD.vr p.bC q.bC with h'|h'|h'
  ·exact .inl<|.inr ⟨h,h'⟩
  ·grind [NV]
  ·exact .inr<|.inr<|.inr ⟨h.symm,h'⟩
 ·exact .inr<|.inr<|.inl h
def E1.asymm{p q:bC}(h:E1 p q):¬E1 q p:=λh'=>E1.irrefl p<|h.trans h'
def E1.ne{p q:bC}(h:E1 p q):p≠q:=by grind [E1.irrefl]
theorem E2{a b:cD}:Lib.compareBytes a.cY b.cY=0↔a=b:=by grind [cD.ext',mq]
theorem sJ{p q:bC}:lB p q=0↔p=q:=by
 grind [lB,Lib.compareBytes,E2,NV]
def CY{p q:bC}:lB p q<0↔E1 p q:=by
 unfold lB E1
 by_cases h:Lib.compareBytes p.Part.cY q.Part.cY=0
 ·rw[aK (by simpa using h),ti];have e:=E2.1 h;constructor
  ·exact λh'=> .inr ⟨e,h'⟩
  ·rintro(h'|⟨_,h'⟩)
   ·grind [cD.lt_irrefl]
   ·exact h'
 ·rw[aG h,ti];constructor
  ·exact λh'=> .inl h'
  ·rintro(h'|⟨e,_⟩)
   ·exact h'
   grind [E2]
theorem CZ{p q:bC}:0<lB p q↔E1 q p:=by
 constructor
 ·intro h
  rcases E1.total p q with h'|h'|h'
  ·have:=CY.2 h';omega
  all_goals grind [sJ]
 ·intro h
  by_cases h1:lB p q<0
  ·exact absurd (CY.1 h1) h.asymm
  ·by_cases h2:lB p q=0
   ·exact absurd (sJ.1 h2).symm h.ne
   ·omega
section
variable {N:Nat}
structure MV (a:lj) (x:eQ):Prop where
 name:kE x.Part=true/\isWord x.bC=true
 VQ:0<=x.dW/\x.dW<((a.aP.length:Nat):Int)
 at_:vN x.At=true
structure x8 (a:lj):Prop where
 zq:a.bW.length<=1000
 each:∀x∈a.bW,MV a x
 up:a.bW.Pairwise (λx y=>E1 (j8 x)<|j8 y)
def J4{a:lj}{k:Nat}{x:eQ}(hx:a.bW[k]? =some x)(h:mF a k=none):MV a x/\∀y,0<k->a.bW[k - 1]? =some y->E1 (j8 y) (j8 x):=by
 unfold mF at h;rw[hx,Option.bind_some]at h;split at h
 ·rename_i h1;split at h
  ·rename_i h2;split at h
   ·cases h
   ·rename_i h3;rw[dB]at h1 h2;unfold iz at h2;rw[dB,cZ,cZ]at h2;refine⟨⟨h1,⟨by omega,by omega⟩,h2.2⟩,λy hk hy=>?_⟩
    grind [lB,CZ]
  ·cases h
 ·cases h
theorem HH{a:lj}{k:Nat}{e:Int}(h:mF a k=some e):e≠0:=by
 unfold mF at h
 cases hx:a.bW[k]? with
 |none=>grind
 |some x=>
  rw[hx,Option.bind_some]at h
  repeat' split at h
  all_goals grind
def OM{a:lj}(h:qm a=0):x8 a:=by
 unfold qm at h;split at h
 ·omega
 rename_i hl;have hn:ov a.bW.length (mF a)=none:=by
  cases hf:ov a.bW.length (mF a)with
  |none=>rfl
  |some e=>
   grind [lz,HH]
 rw[l9]at hn;have hg:∀(k:Nat)x,a.bW[k]? =some x->MV a x/\∀y,0<k->a.bW[k - 1]? =some y->E1 (j8 y) (j8 x):=λk x hx=>J4 hx<|hn k (bP.1 hx).1
 refine⟨by omega,λx hx=>?_,?_⟩
 ·grind [dD]
 ·have hstep:∀(n i:Nat)x y,a.bW[i]? =some x->a.bW[i+n+1]? =some y->E1 (j8 x) (j8 y):=by
   intro n
   induction n with
   |zero=>grind
   |succ n ih=>
    intro i x y hx hy;have hz:i+n+1<a.bW.length:=by grind
    have h1:=ih i x _ hx<|aM hz
    exact h1.trans<|(hg (i+(n+1)+1) y hy).2 _ (by omega) (by grind)
  rw[og];intro i j hi hj hij;exact hstep (j - i - 1) i _ _ (aM hi) (by rw[show i+(j - i - 1)+1=j by omega];exact aM hj)
def x8.inj{a:lj}(h:x8 a){i j:Nat}{x y:eQ}(hx:a.bW[i]? =some x)(hy:a.bW[j]? =some y)(e:j8 x=j8 y):i=j:=by
 obtain⟨h1,rfl⟩:=bP.1 hx;obtain⟨h2,rfl⟩:=bP.1 hy;have hp:=og.1 h.up
 rcases Nat.lt_trichotomy i j with h3|h3|h3
 ·exact absurd e (hp i j h1 h2 h3).ne
 ·exact h3
 ·exact absurd e.symm (hp j i h2 h1 h3).ne
def LH{l:Z eQ}{p:bC}(hu:l.Pairwise (λx y=>E1 (j8 x)<|j8 y))(hl:l.length<=1048576)(hN:4194304<=N){φ:eQ->bC->aV Int}(hφ:∀x,φ x p=some (lB (j8 x) p)):
  ∃r,Ii N l p φ=some r/\(bif(!r.2)then some (-1)else some r.1)=some (Kj l<|λx=>decide<|j8 x=p):=by
 obtain⟨r,h1,h2,h3⟩:=QK (N:=N) (l:=l) (s:=p) (φ:=φ) (λx=>lB (j8 x) p) hφ (λi j x y hij hx hy hc=>by
  obtain⟨g1,rfl⟩:=bP.1 hx;obtain⟨g2,rfl⟩:=bP.1 hy;have hlt:=og.1 hu i j g1 g2 hij;refine CZ.2 ?_
  by_cases h0:lB (j8 l[i]) p=0
  ·rw[<-sJ.1 h0];exact hlt
  ·exact(CZ.1 (by omega)).trans hlt) hl hN
 have e:(λx=>lB (j8 x) p==0)=(λx=>decide<|j8 x=p):=by
  funext x;rw[fY,beq_iff_eq,cZ,sJ]
 rw[e]at h2 h3;refine⟨r,h1,?_⟩
 cases hr:r.2 with
 |true=>simp only[lT,aR];rw[h3 hr]
 |false=>
  simp only[qp,aO];rw[hr]at h2;rw[DI h2.symm]
def pF(a:lj)(p:bC):Int:=Kj a.bW<|λx=>decide<|j8 x=p
def LI(a:lj)(p:bC):(pF a p = -1/\∀x∈a.bW,j8 x≠p)\/∃(k:Nat)(x:eQ),pF a p=((k:Nat):Int)/\a.bW[k]? =some x/\j8 x=p:=by
 rcases qD a.bW (λx=>decide<|j8 x=p)with⟨h1,h2⟩|⟨k,x,h1,h2,h3,_⟩
 ·exact .inl ⟨h1,λx hx=>of_decide_eq_false<|h2 x hx⟩
 ·exact .inr ⟨k,x,h1,h2,of_decide_eq_true h3⟩
end
theorem AY{α β:Type}{l:Z α}{f:α->aV β}{k:Nat}{x:α}{c:β}(hx:l[k]? =some x)(hn:∀(j:Nat)y,j<k->l[j]? =some y->f y=none)(hc:f x=some c):l.findSome? f=some c:=by
 obtain⟨hk,rfl⟩:=bP.1 hx;rw[List.findSome?_eq_some_iff];refine⟨l.take k,l[k],l.drop<|k+1,?_,hc,λy hy=>?_⟩
 ·rw[List.getElem_cons_drop,List.take_append_drop]
 grind [dD,bP,cN,List.getElem?_take_of_lt]
def FF{α β:Type}{l:Z α}{f:α->aV β}(h:∀(j:Nat)y,j<l.length->l[j]? =some y->f y=none):l.findSome? f=none:=by
 grind [List.findSome?_eq_none_iff,dD,bP]
section
variable {N:Nat}
def VU(c:UInt8):(bif(!(((decide (((c.toNat:Nat):Int)>=97)&&decide (((c.toNat:Nat):Int)<=122))||(decide (((c.toNat:Nat):Int)>=65)&&decide (((c.toNat:Nat):Int)<=90)))||(decide (((c.toNat:Nat):Int)>=48)&&decide (((c.toNat:Nat):Int)<=57))))then((g9 N (⟨[95,43,45,35]⟩) ((c.toNat:Nat):Int)).bind λx50=>some<|decide<|x50<0)else some false)=some (Hl c):=by
 rw[yS,aA];unfold Hl;generalize decide (Lib.indexByte (⟨[95,43,45,35]⟩:cD).cY c<0)=p;have e:(!(((decide (((c.toNat:Nat):Int)>=97)&&decide (((c.toNat:Nat):Int)<=122))||(decide (((c.toNat:Nat):Int)>=65)&&decide (((c.toNat:Nat):Int)<=90)))||(decide (((c.toNat:Nat):Int)>=48)&&decide (((c.toNat:Nat):Int)<=57))))=(((decide (((c.toNat:Nat):Int)<65)||decide (((c.toNat:Nat):Int)>90))&&(decide (((c.toNat:Nat):Int)<97)||decide (((c.toNat:Nat):Int)>122)))&&(decide (((c.toNat:Nat):Int)<48)||decide (((c.toNat:Nat):Int)>57))):=by
  grind
 grind
theorem FG{s:cD}(h:s.cY.length<=2097152)(hN:4194304<=N):iD N s=some (isWord s):=by
 refine Y9 ?_;unfold iD isWord;refine Ym (Zc (n:=s.cY.length) (λs=>s) (λk _=>∀(j:Nat)x,j<k->s.cY[j]? =some x->Hl x=false) (Go:=λ_=>s.cY.any Hl=false) (Rt:=λr=>r=false/\s.cY.any Hl=true) ?_ ?_ (dH _) rfl (λj x hj=>by omega) (by omega)) ?_
 ·rintro k i hk e hI;subst e;rw[jT hk,aO];refine X_ (GL s k hk)<|X_ (VU _)<|YW (λhb=>Zg ⟨rfl,iN.2 ⟨_,cP hk,hb⟩⟩)<|λhb=>YK ⟨bR (by omega),λj x hj hx=>?_⟩
  grind
 ·grind [YO,List.any_eq_false,dD,bP]
 intro o ho;refine YS ho (λs' hs'=>?_)<|λr hr=>V_ (by grind)
 rw[hs'];show Ok ((some _).bind _) _
 grind [V_,qp]
def LJ{s:cD}(h:s.cY.length<=2097152)(hN:4194304<=N):kW N s=some (kE s):=by
 refine Y9 ?_;unfold kW kE;refine X_ (Ho 47 h hN) ?_;have hsn:=ER s 47;refine Ym (Zc (n:=(pq s 47).length) (λs=>s) (λk _=>∀(j:Nat)x,j<k->(pq s 47)[j]? =some x->isWord x=true) (Go:=λ_=>(pq s 47).all isWord=true) (Rt:=λr=>r=false/\(pq s 47).all isWord=false) ?_ ?_ (dH _) rfl (λj x hj=>by omega) (by omega)) ?_
 ·rintro k i hk e hI;subst e;rw[jT hk,aO];have hx:(pq s 47)[k]? =some (pq s 47)[k]:=aM hk;have hl:=EP<|cP hk
  refine Yx hx<|X_ (FG (by omega) hN)<|YW (λhb=>Zg ⟨rfl,?_⟩)<|λhb=>YK ⟨bR (by omega),λj x hj hx'=>?_⟩
  ·grind
  grind
 ·grind [YO,px,dD,bP]
 intro o ho;refine YS ho (λs' hs'=>V_ ?_)<|λr hr=>V_ (by grind)
 grind
def wD(n lo hi:Int):eP N n lo hi=some (iz n lo hi):=rfl
theorem rn{b:cL}(h:uo b=true):cX N b=some (AP b):=qj (N:=N) h
def E3{b:cL}:iR N b=some (pD b).2:=by
 have e1:(bif(!(iz b.eC 1 10000))then some true else some (!(vN b.At)))=some (!uo b):=by unfold uo;cases iz b.eC 1 10000 <;> rfl
 have e2:∀n,dI N n=some (qh n):=λ_=>rfl;unfold iR pD;rw[wD,aA,Fv,aA,e1,aA]
 cases hf:uo b with
 |false=>rfl
 |true=>
  rw[lT,aR,rn hf,aA];simp only[e2,aA];unfold gQ
  cases qh (AP b).X0 <;> cases qh (AP b).Y0 <;> cases qh (AP b).X1 <;> cases qh (AP b).Y1 <;> rfl
def Ty{x y:eQ}:(x.Part.mH y.Part||(x.Part.kj y.Part&&(x.bC.mH y.bC||x.bC.kj y.bC)))=decide (lB (j8 x) (j8 y)<=0):=by
 have hle:lB (j8 x) (j8 y)<=0↔E1 (j8 x) (j8 y)\/j8 x=j8 y:=by
  rw[<-CY,<-sJ];omega
 rw[fY,cZ,hle,gT,dB,gT,rz,rz];unfold E1 j8;simp only[bC.mk.injEq];constructor
 ·rintro(h|⟨h1,h2|h2⟩)
  ·exact .inl<|.inl h
  ·exact .inl<|.inr ⟨h1,h2⟩
  grind
 ·rintro((h|⟨h1,h2⟩)|⟨h1,h2⟩)
  ·exact .inl h
  ·exact .inr ⟨h1, .inl h2⟩
  grind
def HI{a:lj}(hc:a.aP.length<=1073741824)(hl:a.bW.length<=1073741824){k:Nat}{x:eQ}(hx:a.bW[k]? =some x)(hn:x.Part.cY.length<=2097152/\x.bC.cY.length<=2097152)(hN:4194304<=N):jG N a ((k:Nat):Int)=some ((mF a k).getD 0):=by
 have hk:=(bP.1 hx).1;have hw:wrap .i64 (((a.aP.length:Nat):Int) - 1)=((a.aP.length:Nat):Int) - 1:=fC (by omega) (by omega);unfold jG mF;rw[cK hx,aA,LJ hn.1 hN,aA,hx,Option.bind_some];have e1:(bif(!(kE x.Part))then some true else((iD N x.bC).bind λx44=>some<|!x44))=some (!(kE x.Part&&isWord x.bC)):=by
  grind [FG,aA,kE]
 rw[e1,aA]
 cases h1:(kE x.Part&&isWord x.bC)with
 |false=>rfl
 |true=>
  rw[lT,aR,aG rfl,hw,wD,aA];have e2:(bif(!(iz x.dW 0<|((a.aP.length:Nat):Int) - 1))then some true else((gX N x.At).bind λx57=>some<|!x57))=some (!(iz x.dW 0 (((a.aP.length:Nat):Int) - 1)&&vN x.At)):=by
   grind [Fv,aA]
  rw[e2,aA]
  cases h2:(iz x.dW 0 (((a.aP.length:Nat):Int) - 1)&&vN x.At)with
  |false=>rfl
  |true=>
   rw[lT,aR,aG rfl]
   by_cases h0:0<k
   ·have hy:a.bW[k - 1]? =some (a.bW[k - 1]'(by omega)):=aM _;rw[bS (by omega),aO,iv h0 (by omega),cK hy,aA,Ty]
    by_cases h3:lB (j8 x) (j8<|a.bW[k - 1]'(by omega))<=0
    ·rw[bS h3,aO,aG ⟨h0,_,hy,h3⟩];rfl
    grind
   grind
noncomputable def oQ(a:lj):Int:=if a.aP.length=0 then 9 else if 16<a.aP.length then 2 else match a.aP.findSome? EX with
 |some e=>e
 |none=>if lY a.dF≠0 then lY a.dF else if 2000<a.dF.length+(a.aP.map List.length).sum then 2 else if ko a≠0 then ko a else qm a
def LK(a:lj):nk a=if oQ a≠0 then oQ a else if vR a then 12 else 0:=by
 unfold nk oQ QB Lt
 by_cases h0 : a.aP.length = 0
 · rw [if_pos h0, if_pos h0, if_pos (by decide)]
 rw [if_neg h0, if_neg h0]
 by_cases h1 : 16 < a.aP.length
 · rw [if_pos h1, if_pos h1, if_pos (by decide)]
 rw [if_neg h1, if_neg h1]
 cases hf : a.aP.findSome? EX with
 | some e =>
  have he : e ≠ 0 := by
   obtain ⟨_, x, _, _, hx, _⟩ := List.findSome?_eq_some_iff.1 hf
   unfold EX at hx
   split at hx
   · rename_i h; injection hx with hx; rw [← hx]; exact h
   · cases hx
  dsimp only
  rw [if_pos he]
 | none =>
  dsimp only
  by_cases h2 : lY a.dF ≠ 0
  · rw [if_pos h2, if_pos h2, if_pos h2]
  rw [if_neg h2, if_neg h2]
  by_cases h3 : 2000 < a.dF.length + (a.aP.map List.length).sum
  · rw [if_pos h3, if_pos h3, if_pos (by decide)]
  rw [if_neg h3, if_neg h3]
  by_cases h4 : ko a ≠ 0
  · rw [if_pos h4, if_pos h4, if_pos h4]
  rw [if_neg h4, if_neg h4]
def HJ{a:lj}(h:oQ a=0):ko a=0:=by
 unfold oQ at h
 grind [EX,List.findSome?_eq_some_iff,lY,List.length,ko]
def F0{a:lj}(hs:vS a)(hN:4398046511104<=N):jd N a=some (oQ a):=by
 refine Y9 ?_;have c1:=hs.cs;have c2:=hs.out;have c3:=hs.bs;have c4:=hs.ls;unfold jd oQ;refine YW (λh=>V_ ?_)<|λh=>?_
 ·grind
 have h0:¬a.aP.length=0:=by grind
 rw[aK h0];refine YW (λh=>V_ ?_)<|λh=>?_
 ·grind
 have h1:¬16<a.aP.length:=by grind
 rw[aK h1];have sumle:∀k,k<=a.aP.length->((a.aP.take k).map List.length).sum<=k*1048576:=by
  intro k
  induction k with
  |zero=>intro _;simp
  |succ k ih=>
   intro hk;have:=ih (by omega);have h2:=hs.each _<|cP (show k<a.aP.length by omega)
   rw[dN (by omega),fX,List.sum_append]
   grind
 refine Ym (Zc (n:=a.aP.length) (λs=>s.2) (λk s=>s.1=((a.dF.length+((a.aP.take k).map List.length).sum:Nat):Int)/\∀(j:Nat)r,j<k->a.aP[j]? =some r->EX r=none)
  (Go:=λs=>s.1=((a.dF.length+(a.aP.map List.length).sum:Nat):Int)/\a.aP.findSome? EX=none) (Rt:=λr=>a.aP.findSome? EX=some r) ?_ ?_ (dH _) rfl ⟨by simp,λj r hj=>by omega⟩ (by omega)) ?_
 ·rintro k⟨m,i⟩hk e⟨hm,hI⟩;dsimp only at e hm ⊢;subst e;subst hm;have hx:a.aP[k]? =some a.aP[k]:=aM hk;have he:=hs.each _<|cP hk
  have hsl:=sumle k (by omega);rw[jT hk,aO];refine Yx hx<|X_ (zu (by omega) hN)<|YW (λhb=>Zg ?_)<|λhb=>Yx hx<|YK ⟨bR (by omega),?_,λj r hj hr=>?_⟩
  ·grind [AY,EX]
  ·dsimp only;rw[wrap_add (by omega),dN hk,fX,List.sum_append]
   grind
  grind [EX]
 ·rintro⟨m,i⟩e⟨hm,hI⟩;dsimp only at e hm ⊢;subst e;rw[pI,aR];rw[dK]at hm;exact YO ⟨hm,FF hI⟩
 intro o ho;refine YS ho ?_<|λr hr=>V_ (by rw[hr])
 rintro⟨m,i⟩⟨hm,hf⟩;dsimp only at hm ⊢;subst hm;rw[hf];dsimp only;refine X_ (zu (by omega) hN)<|YW (λh=>V_ ?_)<|λh=>?_
 ·rw[aG (by simpa using h)]
 rw[aK (by simpa using h)];have hmr:Ok (bif decide (((a.dF.length+(a.aP.map List.length).sum:Nat):Int)>2000)then some true else some (decide<|((a.aZ.length:Nat):Int)>500)) (λb=>b=decide (2000<a.dF.length+(a.aP.map List.length).sum\/500<a.aZ.length)):=by
  by_cases h2:2000<a.dF.length+(a.aP.map List.length).sum
  ·rw[bS (by omega),aO];exact V_ (bS<|.inl h2).symm
  ·rw[cF (by omega),aR];refine V_ ?_;rw[decide_eq_decide];omega
 refine Ym hmr λb hb=>?_;subst hb;refine YW (λh=>V_ ?_)<|λh=>?_
 ·have h:=of_decide_eq_true h
  by_cases h2:2000<a.dF.length+(a.aP.map List.length).sum
  ·rw[aG h2]
  ·rw[aK h2];have hb:ko a=2:=by unfold ko;rw[aG (by omega)]
   rw[hb,aG (by decide)]
 have h:=of_decide_eq_false h;rw[aK (by omega)];have hbe:ko a=(a.aZ.findSome?<|oC a.aP.length).getD 0:=by unfold ko;rw[aK (by omega)]
 have hw:wrap .i64 (((a.aP.length:Nat):Int) - 1)=((a.aP.length:Nat):Int) - 1:=fC (by omega) (by omega);refine Ym (Zc (n:=a.aZ.length) (λs=>s) (λk _=>∀(j:Nat)b,j<k->a.aZ[j]? =some b->oC a.aP.length b=none) (Go:=λ_=>a.aZ.findSome? (oC a.aP.length)=none) (Rt:=λr=>a.aZ.findSome? (oC a.aP.length)=some r/\r≠0) ?_ ?_ (dH _) rfl (λj b hj=>by omega) (by omega)) ?_
 ·rintro k i hk e hI;subst e;rw[jT hk,aO];have hx:a.aZ[k]? =some a.aZ[k]:=aM hk;refine Yx hx<|X_ E3<|YW (λhb=>Zg ?_)<|λhb=>?_
  ·have hb:(pD a.aZ[k]).2≠0:=by simpa using hb
   exact⟨AY hx hI (by unfold oC;rw[aG hb]),hb⟩
  ·have hb:¬(pD a.aZ[k]).2≠0:=by simpa using hb
   rw[hw];have e2:((eP N a.aZ[k].dS 0<|((a.aP.length:Nat):Int) - 1).bind λx135=>bif(!x135)then some true else((eP N a.aZ[k].To a.aZ[k].dS<|((a.aP.length:Nat):Int) - 1).bind λx138=>some<|!x138))=some (!(iz a.aZ[k].dS 0 (((a.aP.length:Nat):Int) - 1)&&iz a.aZ[k].To a.aZ[k].dS (((a.aP.length:Nat):Int) - 1))):=by
    rw[wD,aA,wD,aA]
    cases iz a.aZ[k].dS 0 (((a.aP.length:Nat):Int) - 1) <;> rfl
   refine X_ e2<|YW (λh3=>Zg ⟨AY hx hI ?_,by decide⟩)<|λh3=>YK ⟨bR (by omega),λj b hj hb'=>?_⟩
   ·unfold oC;rw[aK hb,aK (by rintro⟨g1,g2⟩;rw[g1,g2]at h3;cases h3)]
   ·by_cases e:j=k
    ·subst e;rw[hx]at hb';injection hb' with hb';rw[<-hb']
     rw[Bool.not_eq_false',dB]at h3;unfold oC;rw[aK hb,aG h3]
    ·exact hI j b (by omega) hb'
 ·rintro i e hI;subst e;rw[pI,aR];exact YO<|FF hI
 intro o ho;refine YS ho ?_<|λr hr=>V_ ?_
 rotate_left
 ·rw[hbe,hr.1,Option.getD_some,aG hr.2]
 intro _ hbn;rw[hbe,hbn,Option.getD_none,aK (by decide)];unfold qm;refine YW (λh=>V_ ?_)<|λh=>?_
 ·rw[aG (by have:=of_decide_eq_true h;omega)]
 have h5:¬1000<a.bW.length:=by have:=of_decide_eq_false h;omega
 rw[aK h5];refine Ym (Zc (n:=a.bW.length) (λs=>s) (λk _=>∀j,j<k->mF a j=none) (Go:=λ_=>ov a.bW.length (mF a)=none) (Rt:=λr=>ov a.bW.length (mF a)=some r) ?_ ?_ (dH _) rfl (λj hj=>by omega) (by omega)) ?_
 ·rintro k i hk e hI;subst e;rw[jT hk,aO];have hx:a.bW[k]? =some a.bW[k]:=aM hk;refine X_ (HI (by omega) (by omega) hx (hs.nm _<|cP hk) (by omega))<|YW (λhb=>Zg ?_)<|λhb=>YK ⟨bR (by omega),λj hj=>?_⟩
  ·cases hl:mF a k with
   |none=>rw[hl]at hb;cases hb
   |some e=>exact lz.2 ⟨k,hk,hl,hI⟩
  ·by_cases e:j=k
   ·subst e
    cases hl:mF a j with
    |none=>rfl
    |some e=>rw[hl]at hb;exact absurd (by simpa using hb) (HH hl)
   ·exact hI j (by omega)
 ·rintro i e hI;subst e;rw[pI,aR];exact YO<|l9.2 hI
 intro o ho;exact YS ho (λ_ h=>V_ (by rw[h];rfl))<|λr hr=>V_ (by rw[hr];rfl)
def y4(b:cL)(k:Int):fV N b k=some (nZ b k):=rfl
def AZ{a:lj}{i:Nat}{r:Z aJ}{s:Z aB}(hb:mU a.aZ)(hr:a.aP[i]? =some r)(hrl:r.length<=2000)(hro:∀x∈r,H3 x)(hd:yT r (my a.aZ ((i:Nat):Int)) s)(hN:4398046511104<=N):iq N a ((i:Nat):Int)=some (bF s):=by
 refine Y9 ?_;have hbl:=hb.len;have hhl:=ES hb ((i:Nat):Int);have hho:=vO hb ((i:Nat):Int);unfold iq;refine Ym (Zc (n:=a.aZ.length) (λs=>s.2) (λk st=>st.1=my (a.aZ.take k) ((i:Nat):Int)) (Go:=λst=>st.1=my a.aZ ((i:Nat):Int)) (Rt:=λ_=>False) ?_ ?_ (dH _) rfl rfl (by omega)) ?_
 ·rintro k⟨out,ii⟩hk e hI;dsimp only at e hI ⊢;subst e;subst hI;have hx:a.aZ[k]? =some a.aZ[k]:=aM hk;have hts:my (a.aZ.take<|k+1) ((i:Nat):Int)=if nZ a.aZ[k] ((i:Nat):Int)=true then my (a.aZ.take k) ((i:Nat):Int)++[AP a.aZ[k]]else my (a.aZ.take k) ((i:Nat):Int):=by
   grind [my,dN]
  have hlen:(my (a.aZ.take k) ((i:Nat):Int)).length<=k:=by
   unfold my
   grind
  rw[jT hk,aO];refine Yx hx<|X_ (y4 _ _)<|Ym (P:=λst:Z aJ=>st=my (a.aZ.take<|k+1) ((i:Nat):Int)) (YW (λh=>?_)<|λh=>V_ ?_)<|λst hst=>YK ⟨bR (by omega),hst⟩
  ·refine Yx hx<|X_ (rn (hb.ok _<|cP hk).1)<|Y2 (by grind)<|V_ ?_
   rw[hts,aG h]
  grind
 ·simp[pI,aR,YO,dK]
 intro o ho;refine YS ho ?_<|λr hr=>hr.elim
 rintro⟨hs,ii⟩hI;dsimp only at hI ⊢;subst hI;obtain⟨t,_,ht⟩:=tq (N:=N) (l:=my a.aZ ((i:Nat):Int)) (by omega) (λx hx=>(hho x hx).1) (by omega);obtain⟨z1,z2,z3⟩:=ht.Ll;have z4:2*(my a.aZ ((i:Nat):Int)).length*(2*(my a.aZ ((i:Nat):Int)).length)<=1000*1000:=Nat.mul_le_mul (by omega) (by omega);refine Yx hr<|X_ (yX ht.can ht.cover (by omega) (λx hx=>(hho x hx).1.x) (by omega) hN) ?_
 unfold mE;have hsz:=(Bt (A:=5000) hd.can hd.lim (by grind [dC,vK]) (by grind [dC,oL])).2.2
 have hc:iP N r (bF t) 3=some (bF s):=LC hd.can (λx y=>by
  rw[hd.cover,tt ht.can,ht.cover];rfl) (by omega) (by omega) (λx hx=>(hro x hx).x) (λx hx=>(xZ ht.can x hx).1) (by omega) hN
 grind [aA,V_]
theorem E4:∀(fU:Z (Z<|Z aB))(k:Nat),(dJ k fU).length=(fU.map List.length).sum
 | [],k=>rfl
 |ps::fU,k=>by
  show(ps.map _++dJ (k+1) fU).length=_;rw[dC,dQ,E4 fU<|k+1,fI,List.sum_cons]
def ON{a:lj}{oc:Z (Z aB)}{fU:Z (Z<|Z aB)}(hg:tF a)(hD:CV a.aP a.aZ a.aP.length oc fU){i:Nat}{s:Z aB}(hi:i<a.aP.length)(hd:oc[i]? =some s)(hf:(bF s).length<=2000):∃ps u,fU[i]? =some ps/\ue a.aP[i] (my a.aZ ((i:Nat):Int)) s u ps:=by
 have hp:fU[i]? =some (fU[i]'(by rw[hD.FY];exact hi)):=aM _;have hdr:=hD.dr i _ _ hi (aM hi) hd;obtain⟨u,hu⟩:=hD.pt i _ _ hi hd hp;have hreg:=AU.1<|hg.XG _<|cP hi
 exact⟨_,u,hp,λx hx=>((w4.1 hreg.1).2 x hx).1,λx hx=>(vO hg.gb _ x hx).2,(Hq hreg.1).2,λx hx=>(vO hg.gb _ x hx).1,hdr,hu,hf⟩
def ue.pieces{r hs:Z aJ}{s:Z aB}{u:Nat->Nat}{ps:Z (Z aB)}(h:ue r hs s u ps)(hN:4398046511104<=N):gM N (bF s)=some (ps.map bF):=by
 refine LG h.dr.can h.pt h.zq (λq hq=>?_) (λp hp=>(h.part hp).2.1) hN;obtain⟨h1,h2,h3⟩:=NU h.r1 h.r2 h.dr.can h.dr.lim q hq
 grind [JR]
theorem MW{a b:aJ}(ha:a.X0<a.X1/\a.Y0<a.Y1)(hb:b.X0<b.X1/\b.Y0<b.Y1):gY N a b=some (Ls a b):=by
 unfold gY
 grind [Bv,Bw,decide,Min.min,Max.max,Lr,Ls]
theorem sq_pos{b:cL}(h:uo b=true):(AP b).X0<(AP b).X1/\(AP b).Y0<(AP b).Y1:=by
 obtain⟨h1,_,_⟩:=wA h;simp only[AP];omega
inductive Checked (N:Nat) (a:lj):Prop
 |err (e:Int) (he:e≠0) (h1:kb N a=some (none,e)) (h2:eO N a=some e)
 |ok {oc:Z (Z aB)} {fU:Z (Z (Z aB))} {r:Nat->Nat} {gs:Z bG} {ofP ofB tZ:Z Int} {u9:Z ld} (b:sI a oc fU r gs ofP ofB tZ u9)
  (h1:kb N a=some (some (a.aP,a.dF,a.aZ,a.bW,oc,dJ 0 fU,l6 a.aZ<|dJ 0 fU,gs,ofP,ofB,tZ,u9),0)) (h2:eO N a=some 0)
def NW{a:lj}(hb:mU a.aZ)(hN:4398046511104<=N){f:Int->aV Int}{Q:Int->Prop}(hc:vR a->Q 12)(hn:¬vR a->∀s,Ok (f s) Q):
  Ok ((iL (λ(s35:Int)=>(bif decide (s35<(a.aZ.length:Int))then((iL (λ(s622:Int)=>(bif decide (s622<s35)then(((idx a.aZ s35).bind λx869=>(idx a.aZ s622).bind λx873=>(jH N x869 x873).bind λx876=>bif x876 then((idx a.aZ s35).bind λx879=>(cX N x879).bind λx882=>(idx a.aZ s622).bind λx885=>(cX N x885).bind λx888=>(gY N x882 x888).bind λx890=>some x890)else some false).bind λs867=>bif s867 then some (.rt 12)else some (.nx<|wrap .i64<|s622+1))else(some<|.br s622):aV (Fl Int Int))) N 0).bind λo911=>o911.cs (λ(s622:Int)=>some<|.nx<|wrap .i64<|s35+1)<|λr=>some<|.rt r)else(some<|.br s35):aV (Fl Int Int))) N 0).bind λo933=>o933.cs f<|λr=>some r) Q:=by
 have hbl:=hb.len;refine Ym (Zc (n:=a.aZ.length) (λs=>s) (λk _=>∀(i j:Nat)(x y:cL),i<k->j<i->a.aZ[i]? =some x->a.aZ[j]? =some y->¬vQ x y=true) (Go:=λ_=>¬vR a) (Rt:=λr=>r=12/\vR a) ?_ ?_ (dH _) rfl (λi j x y hi=>by omega) (by omega)) ?_
 ·rintro k s hk e hI;subst e;rw[jT hk,aO];have hx:a.aZ[k]? =some a.aZ[k]:=aM hk;have fx:=(hb.ok _<|cP hk).1;refine Ym (Zc (n:=k) (λs=>s) (λt _=>∀(j:Nat)(y:cL),j<t->a.aZ[j]? =some y->¬vQ a.aZ[k] y=true) (Go:=λ_=>∀(j:Nat)(y:cL),j<k->a.aZ[j]? =some y->¬vQ a.aZ[k] y=true) (Rt:=λr=>r=12/\vR a) ?_ ?_ (dH _) rfl (λj y hj=>by omega) (by omega)) ?_
  ·rintro t s ht e hI2;subst e;rw[jT ht,aO];have hy:a.aZ[t]? =some (a.aZ[t]'(by omega)):=aM _;have fy:=(hb.ok _<|cP (show t<a.aZ.length by omega)).1;have hcond:((idx a.aZ ((k:Nat):Int)).bind λx869=>(idx a.aZ ((t:Nat):Int)).bind λx873=>(jH N x869 x873).bind λx876=>bif x876 then((idx a.aZ ((k:Nat):Int)).bind λx879=>(cX N x879).bind λx882=>(idx a.aZ ((t:Nat):Int)).bind λx885=>(cX N x885).bind λx888=>(gY N x882 x888).bind λx890=>some x890)else some false)=some (vQ a.aZ[k]<|a.aZ[t]'(by omega)):=by
    rw[cK hx,aA,cK hy,aA];unfold jH vQ;rw[aA]
    cases(decide (a.aZ[k].dS<=(a.aZ[t]'(by omega)).To)&&decide ((a.aZ[t]'(by omega)).dS<=a.aZ[k].To))with
    |false=>rfl
    |true=>grind [aA,rn,MW,sq_pos]
   refine X_ hcond<|YW (λh=>Zg ⟨rfl,k,t,_,_,ht,hx,hy,h⟩)<|λh=>YK ⟨bR (by omega),λj y hj hjy=>?_⟩
   grind
  ·grind [YO]
  intro o ho;refine YS ho (λs hs=>YK ⟨bR (by omega),λi j x y hi hj hix hjy=>?_⟩)<|λr hr=>Zg hr
  grind
 ·rintro s e hI;subst e;rw[pI,aR];refine YO ?_;rintro⟨i,j,x,y,hij,hx,hy,hc⟩;exact hI i j x y (bP.1 hx).1 hij hx hy hc
 intro o ho;exact YS ho (λs hs=>hn hs s)<|λr hr=>V_ (by rw[hr.1];exact hc hr.2)
def checked{a:lj}(hs:vS a)(hN:4398046511104<=N):Checked N a:=by
 obtain⟨x,hx,hI⟩:=I4 (N:=N) hs hN;have hbe:=LK a;have hcp:=F0 (N:=N) hs hN
 rcases hI with⟨he,rfl⟩|⟨h0,hg,hcl,oc,fU,D,hI⟩
 ·refine .err _ he hx<|Y9 ?_
  unfold eO;refine X_ hcp ?_
  by_cases h:oQ a≠0
  ·rw[aG h]at hbe;rw[show(oQ a != 0)=true by simpa using h,aO,hbe];exact V_ rfl
  ·rw[aK h]at hbe;have hp0:oQ a=0:=by simpa using h
   have hc:vR a:=by
    by_cases hc:vR a
    ·exact hc
    ·rw[aK hc]at hbe;exact absurd hbe he
   rw[aG hc]at hbe;rw[hp0,show((0:Int) != 0)=false by rfl,aR];have hbo:=HJ hp0;refine NW ⟨(o4 hbo).1,λb hb=>⟨((o4 hbo).2 b hb).1,((o4 hbo).2 b hb).2.1⟩⟩ hN (λ_=>hbe.symm)<|λh=>absurd hc h
 ·have hp0:oQ a=0:=by
   by_cases h:oQ a≠0
   ·rw[aG h]at hbe;rw[hbe]at h0;exact h0
   ·simpa using h
  have key:eO N a=some (if TM oc fU then 0 else 2):=by
   refine Y9 ?_;unfold eO;refine X_ hcp ?_;rw[hp0,show((0:Int) != 0)=false by rfl,aR];refine NW hg.gb hN (λh=>absurd h hcl)<|λ_ _=>?_
   have hc16:=hg.zq.2
   refine Ym (Zc (n:=a.aP.length) (λs=>s.2) (λk st=>st.1=((((fU.take k).map List.length).sum:Nat):Int)/\((fU.take k).map List.length).sum<=k*2000/\∀(j:Nat)s,j<k->oc[j]? =some s->(bF s).length<=2000)
    (Go:=λst=>st.1=(((fU.map List.length).sum:Nat):Int)/\∀s∈oc,(bF s).length<=2000) (Rt:=λr=>r=2/\¬TM oc fU) ?_ ?_ (dH _) rfl ⟨by simp,by simp,λj s hj=>by omega⟩ (by omega)) ?_
   ·rintro k⟨m,i⟩hk e⟨hm,hml,hI2⟩;dsimp only at e hm ⊢;subst e;subst hm;rw[jT hk,aO];have hcx:a.aP[k]? =some a.aP[k]:=aM hk;have hd:oc[k]? =some (oc[k]'(by rw[D.len];exact hk)):=aM _;have hcs:=hg.cs _<|cP hk
    refine X_ (AZ hg.gb hcx hcs.1 hcs.2 (D.dr k _ _ hk hcx hd) hN)<|YW (λh=>Zg ⟨rfl,λhf=>?_⟩)<|λh=>?_
    ·have:=hf.1 _<|dT hd
     have:=of_decide_eq_true h;omega
    ·have hf:(bF<|oc[k]'(by rw[D.len];exact hk)).length<=2000:=by have:=of_decide_eq_false h;omega
     obtain⟨ps,u,hp,L⟩:=ON hg D hk hd hf;have hpl:=L.pt.zq;have hkp:k<fU.length:=by rw[D.FY];exact hk
     have hpe:fU[k]=ps:=by rw[aM hkp]at hp;injection hp
     refine X_ (L.pieces hN)<|YK ⟨bR (by omega),?_,?_,λj s hj hjs=>?_⟩
     ·dsimp only;rw[dQ,wrap_add (by omega),dN hkp,fX,List.sum_append,hpe];simp
     ·rw[dN hkp,fX,List.sum_append,hpe];simp only[fI,List.map_nil,List.sum_cons,List.sum_nil];rw[Nat.add_mul];omega
     ·by_cases e:j=k
      ·subst e;rw[hd]at hjs;injection hjs with hjs;rw[<-hjs];exact hf
      ·exact hI2 j s (by omega) hjs
   ·rintro⟨m,i⟩e⟨hm,hml,hI2⟩;dsimp only at e hm ⊢;subst e;rw[pI,aR];rw[oe (by rw[D.FY];exact cG _)]at hm;refine YO ⟨hm,λs hs'=>?_⟩;obtain⟨j,hj⟩:=dD hs';exact hI2 j s (by have:=(bP.1 hj).1;rw[D.len]at this;exact this) hj
   intro o ho;refine YS ho ?_<|λr hr=>V_ (by rw[hr.1,aK hr.2])
   rintro⟨m,i⟩⟨hm,hf⟩;dsimp only at hm ⊢;subst hm;have hpl:=E4 fU 0;refine YW (λh=>V_ ?_)<|λh=>V_ ?_
   ·rw[aK];rintro⟨_,h2⟩;have:=of_decide_eq_true h;omega
   ·rw[aG];exact⟨hf,by have:=of_decide_eq_false h;omega⟩
  rcases hI with⟨hf,rfl⟩|⟨hf,r,gs,ofP,ofB,tZ,u9,hC,rfl⟩
  ·rw[aK hf]at key;exact .err 2 (by decide) hx key
  ·rw[aG hf]at key;exact .ok ⟨hg,hcl,D,hf,hC⟩ hx key
end
def Gb:∀{l m:Z Int},k6 l->k6 m->(∀x,x∈l↔x∈m)->l=m
 | [],[],_,_,_=>rfl
 | [],b::m,_,_,h=>absurd ((h b).2 (by simp)) (by simp)
 |a::l,[],_,_,h=>absurd ((h a).1 (by simp)) (by simp)
 |a::l,b::m,hl,hm,h=>by
  have h1:a=b:=by
   have ha:=(h a).1 (by simp);have hb:=(h b).2 (by simp)
   rcases eJ.1 ha with e|ha
   ·exact e
   ·rcases eJ.1 hb with e|hb
    ·exact e.symm
    ·have:=hl.head b hb;have:=hm.head a ha;omega
  subst h1;rw[Gb hl.tail hm.tail λx=>?_];have hx:=h x;rw[eJ,eJ]at hx;constructor
  ·intro hxl
   rcases hx.1 (.inr hxl)with e|h'
   ·have:=hl.head x hxl;omega
   ·exact h'
  ·intro hxm
   rcases hx.2 (.inr hxm)with e|h'
   ·have:=hm.head x hxm;omega
   ·exact h'
def LL{l:Z Nat}(h:l.Pairwise (· < ·)):k6 (ints l):=by
 unfold k6 ints
 grind
section
variable {N:Nat}
def HK{l:Z Int}{c:Int}(h:k6 l)(hl:l.length<=1000000000)(hN:4398046511104<=N):jI N l c=some (uL l c):=by
 refine Y9 ?_;unfold jI
 refine Ym (Zl (Go:=λs=>∃a:Nat,s=((a:Nat):Int)/\a<=l.length/\(∀(j:Nat)x,a<=j->l[j]? =some x->c<x)/\(∀x,0<a->l[a - 1]? =some x->¬c<x)) (Rt:=λ_=>False)
  (λs=>∃a:Nat,s=((a:Nat):Int)/\a<=l.length/\∀(j:Nat)x,a<=j->l[j]? =some x->c<x) (λs=>s.toNat) ?_ ⟨l.length,rfl,cG _,λj x hj hx=>by grind⟩ (by omega)) ?_
 ·rintro s⟨a,rfl,ha,hI⟩
  by_cases h0:0<a
  ·have hx:l[a - 1]? =some (l[a - 1]'(by omega)):=aM _;rw[bS (by omega),aO,iv h0 (by omega),cK hx,aA,aA]
   grind [YK,dA,of_decide_eq_false,YO]
  grind [cF,aA,YO]
 intro o ho;refine YS ho ?_<|λr hr=>hr.elim
 rintro s⟨a,rfl,ha,hI,hE⟩;have hlow:∀(j:Nat)x,j<a->l[j]? =some x->x<=c:=λj x hj hx=>by
  have hy:l[a - 1]? =some (l[a - 1]'(by omega)):=aM _;have h1:=hE _ (by omega) hy
  by_cases e:j=a - 1
  ·grind
  ·have:=h.lt (i:=j) (j:=a - 1) (by omega) hx hy;omega
 have hout:c∉l->uL l c=l.take a++c::l.drop a:=λhc=>by
  grind [uL,uK,decide,bS,dT,cF]
 have hrest:c∉l->Ok ((ui l 0 ((a:Nat):Int)).bind λx61=>(app 8 ([]:Z Int) x61).bind λx63=>(app 8 x63 ([c]:Z Int)).bind λx66=>(ui l ((a:Nat):Int) ((l.length:Nat):Int)).bind λx68=>(app 8 x66 x68).bind λx70=>some x70) (λr=>r=uL l c):=λhc=>by
  have htk:(l.take a).length=a:=by rw[cN];omega
  refine X_ (nT l a ha)<|Y2 (by simp only[List.length_nil];omega)<|Y2 (by rw[List.nil_append];simp only[dO,List.length_nil];omega)<|X_ (q7 l a ha)<|Y2 ?_<|V_ ?_
  ·rw[List.nil_append,dC,lS];simp only[dO,List.length_nil];omega
  ·rw[hout hc];simp
 by_cases h0:0<a
 ·have hx:l[a - 1]? =some (l[a - 1]'(by omega)):=aM _;rw[bS (by omega),aO,iv h0 (by omega),cK hx,aA,aA];refine YW (λhb=>V_ ?_)<|λhb=>hrest ?_
  ·rw[beq_iff_eq]at hb;unfold uL;rw[aG (by rw[<-hb];exact dT hx)]
  ·rw[beq_eq_false_iff_ne]at hb;intro hc;obtain⟨j,hj⟩:=dD hc
   by_cases h1:a<=j
   ·have:=hI j c h1 hj;omega
   ·by_cases e:j=a - 1
    ·subst e;rw[hx]at hj;injection hj with hj;exact hb hj
    ·have:=h.lt (i:=j) (j:=a - 1) (by omega) hj hx;have:=hlow (a - 1) _ (by omega) hx;omega
 ·rw[cF (by omega),aR,aA,aR];refine hrest λhc=>?_;obtain⟨j,hj⟩:=dD hc;have:=hI j c (by omega) hj;omega
def y5{l:Z Int}{c:Int}(hl:l.length<=1099511627776)(hN:4398046511104<=N):cQ N l c=some (decide<|c∈l):=by
 refine Y9 ?_;unfold cQ;refine Ym (Zc (n:=l.length) (λs=>s) (λk _=>∀(j:Nat)x,j<k->l[j]? =some x->x≠c) (Go:=λ_=>c∉l) (Rt:=λr=>r=true/\c∈l) ?_ ?_ (dH _) rfl (λj x hj=>by omega) (by omega)) ?_
 ·rintro k s hk e hI;subst e;rw[jT hk,aO];have hx:l[k]? =some l[k]:=aM hk
  grind [Yx,Zg,YK,bR,cP]
 ·grind [YO,dD,bP]
 intro o ho;exact YS ho (λs hs=>V_ (cF hs).symm)<|λr hr=>V_ (by grind)
def QL{p q:aJ}(hp:p.X0<p.X1/\p.Y0<p.Y1)(hq:q.X0<q.X1/\q.Y0<q.Y1):uJ p q=decide ((0<min p.X1 q.X1 - max p.X0 q.X0/\min p.Y1 q.Y1 - max p.Y0 q.Y0=0)\/(min p.X1 q.X1 - max p.X0 q.X0=0/\0<min p.Y1 q.Y1 - max p.Y0 q.Y0)):=by
 unfold uJ
 grind
def R4{l:Z aJ}{q:aJ}(hl:l.length<=1000000000)(ho:∀r∈l,H3 r)(hq:H3 q)(hN:4398046511104<=N):ku N l q=some (l.any<|λr=>uJ r q):=by
 refine Y9 ?_;unfold ku;refine Ym (Zc (n:=l.length) (λs=>s) (λk _=>∀(j:Nat)x,j<k->l[j]? =some x->uJ x q=false) (Go:=λ_=>l.any (λr=>uJ r q)=false) (Rt:=λr=>r=true/\l.any (λr=>uJ r q)=true) ?_ ?_ (dH _) rfl (λj x hj=>by omega) (by omega)) ?_
 ·rintro k s hk e hI;subst e;rw[jT hk,aO];have hx:l[k]? =some l[k]:=aM hk;have hr:=ho _<|cP hk
  have hb:=QL (p:=l[k]) (q:=q) ⟨hr.x,hr.y⟩ ⟨hq.x,hq.y⟩;have a1:=hr.s1;have a2:=hr.s2;have a3:=hr.s3;have a4:=hr.s4;have b1:=hq.s1;have b2:=hq.s2;have b3:=hq.s3;have b4:=hq.s4;unfold small at a1 a2 a3 a4 b1 b2 b3 b4;refine Yx hx<|Yx hx<|Yx hx<|Yx hx ?_
  rw[Bv,Bv,Bw,Bw,fC (x:=min l[k].X1 q.X1 - max l[k].X0 q.X0) (by omega) (by omega),fC (x:=min l[k].Y1 q.Y1 - max l[k].Y0 q.Y0) (by omega) (by omega)];have e:((decide (min l[k].X1 q.X1 - max l[k].X0 q.X0>0)&&(min l[k].Y1 q.Y1 - max l[k].Y0 q.Y0==0))||((min l[k].X1 q.X1 - max l[k].X0 q.X0==0)&&decide (min l[k].Y1 q.Y1 - max l[k].Y0 q.Y0>0)))=uJ l[k] q:=by
   grind
  grind [Zg,iN,cP,YK,bR]
 ·grind [YO,List.any_eq_false,dD,bP]
 intro o ho;exact YS ho (λs hs=>V_ hs.symm)<|λr hr=>V_ (by grind)
theorem E5(r:Z aJ)(p:kF):Fw r p=xJ r p.X p.Y:=by
 grind [Fw,xJ,ge_iff_le]
theorem FH{r:Z aJ}{p:kF}(hl:r.length<=134217728)(hr:∀x∈r,x.X0<x.X1)(hN:4398046511104<=N):fN N r p=some (Fw r p):=by
 refine Y9 ?_;unfold fN
 grind [Ym,JW,xY,dQ,X_,EY,V_,Bx,E5]
def QM(bs:Z cL)(pcs:Z aL)(l:eQ):aV ld:=match pcs.findIdx? (nH l)with
 |some k=>some ⟨false,((k:Nat):Int)⟩
 |none=>(bs.findIdx? (pr l)).map λk=>⟨true,((k:Nat):Int)⟩
def R5{bs:Z cL}{pcs:Z aL}{l:eQ}(hd:∀b∈bs,∀p∈pcs,pr l b=true->nH l p=true->False):QM bs pcs l=FZ bs pcs l:=by
 unfold QM FZ
 grind
theorem HL{α:Type}{l:Z α}{p:α->Bool}{k:Nat}{x:α}(hx:l[k]? =some x)(hp:p x=true)(hn:∀(j:Nat)y,j<k->l[j]? =some y->p y=false):l.findIdx? p=some k:=by
 grind [bP,List.findIdx?_eq_some_iff_getElem,aM]
theorem HM{α:Type}{l:Z α}{p:α->Bool}(hn:∀(j:Nat)y,j<l.length->l[j]? =some y->p y=false):l.findIdx? p=none:=by
 grind [List.findIdx?_eq_none_iff,dD,bP]
def OO{bs:Z cL}{pcs:Z aL}(hb:mU bs)(hp:pcs.length<=1000000)(hr:∀p∈pcs,p.jw.length<=1000000/\∀x∈p.jw,x.X0<x.X1)(l:eQ)(hN:4398046511104<=N):
  gI N bs (pcs.map aL.dW) (pcs.map aL.jw) l=some ((QM bs pcs l).getD ⟨false,0⟩,(QM bs pcs l).isSome):=by
 refine Y9 ?_;have hbl:=hb.len;unfold gI QM;rw[dQ];refine Ym (Zc (n:=pcs.length) (λs=>s) (λk _=>∀(j:Nat)x,j<k->pcs[j]? =some x->nH l x=false) (Go:=λ_=>pcs.findIdx? (nH l)=none) (Rt:=λr=>∃k:Nat,pcs.findIdx? (nH l)=some k/\r=(⟨false,((k:Nat):Int)⟩,true)) ?_ ?_ (dH _) rfl (λj x hj=>by omega) (by omega)) ?_
 ·rintro k s hk e hI;subst e;rw[jT hk,aO];have hx:pcs[k]? =some pcs[k]:=aM hk;have hlx:(pcs.map aL.dW)[k]? =some pcs[k].dW:=by grind
  have hrx:(pcs.map aL.jw)[k]? =some pcs[k].jw:=by grind
  have hrl:=hr _<|cP hk
  have hcond:((idx (pcs.map aL.dW) ((k:Nat):Int)).bind λx88=>bif x88==l.dW then((idx (pcs.map aL.jw) ((k:Nat):Int)).bind λx91=>(fN N x91 l.At).bind λx95=>some x95)else some false)=some (nH l pcs[k]):=by
   grind [cK,aA,FH,nH]
  grind [X_,Zg,HL,YK,bR]
 ·grind [YO,HM]
 intro o ho;refine YS ho ?_ (λr hr=>by grind [V_]);intro _ hno;rw[hno];dsimp only;refine Ym (Zc (n:=bs.length) (λs=>s) (λk _=>∀(j:Nat)x,j<k->bs[j]? =some x->pr l x=false) (Go:=λ_=>bs.findIdx? (pr l)=none) (Rt:=λr=>∃k:Nat,bs.findIdx? (pr l)=some k/\r=(⟨true,((k:Nat):Int)⟩,true)) ?_ ?_ (dH _) rfl (λj x hj=>by omega) (by omega)) ?_
 ·rintro k s hk e hI;subst e;rw[jT hk,aO];have hx:bs[k]? =some bs[k]:=aM hk;have hg:=hb.ok _<|cP hk
  have hcond:((idx bs ((k:Nat):Int)).bind λx301=>bif x301.il then((idx bs ((k:Nat):Int)).bind λx305=>(fV N x305 l.dW).bind λx308=>bif x308 then((idx bs ((k:Nat):Int)).bind λx310=>(cX N x310).bind λx313=>(fN N ([x313]:Z aJ) l.At).bind λx317=>some x317)else some false)else some false)=some (pr l bs[k]):=by
   rw[cK hx,aA,aA,y4,aA,aA,rn hg.1,aA,FH (by simp) (λx hx=>by simp_all[sq_pos]) hN,aA]
   grind [pr]
  grind [X_,Zg,HL,YK,bR]
 ·grind [YO,HM]
 intro o ho;exact YS ho (λ_ h=>V_ (by rw[h];rfl)) (λr hr=>by grind [V_])
end
section
variable {N:Nat}{a:lj}{oc:Z (Z aB)}{fU:Z (Z (Z aB))}{r:Nat->Nat}{gs:Z bG}{ofP ofB tZ:Z Int}{u9:Z ld}
def Ef(b:sI a oc fU r gs ofP ofB tZ u9){p:aL}(hp:p∈dJ 0 fU):p.jw.length<=2000/\(∀q∈p.jw,gQ q=true/\q.X0<q.X1/\q.Y0<q.Y1)/\∃i:Nat,p.dW=((i:Nat):Int)/\∀x y,xJ p.jw x y=true->xJ (my a.aZ ((i:Nat):Int)) x y=false:=by
 obtain⟨i,ps,q,h1,h2,rfl⟩:=EW hp;have hil:i<a.aP.length:=by have:=(bP.1 h1).1;rw[b.dr.FY]at this;exact this
 obtain⟨s,ps',u,g1,g2,L⟩:=FE b hil;rw[h1]at g2;injection g2 with g2;subst g2
 obtain⟨k1,k2,k3⟩:=L.part h2;refine⟨k2,k3,i,by simp,λx y h=>?_⟩;have h3:xJ (ps.flatMap bF) x y=true:=FD.2 ⟨q,h2,h⟩;rw[L.cover,L.dr.cover,dB,Bool.not_eq_true']at h3;exact h3.2
def NX(b:sI a oc fU r gs ofP ofB tZ u9)(l:eQ):∀x∈a.aZ,∀p∈dJ 0 fU,pr l x=true->nH l p=true->False:=λx hx p hp h1 h2=>by
 obtain⟨_,_,i,e,hc⟩:=Ef b hp;unfold pr at h1;unfold nH at h2;rw[dB,dB,E5]at h1;rw[dB,E5,beq_iff_eq]at h2;have h3:=hc _ _ h2.2;rw[<-e,h2.1]at h3;obtain⟨q,hq,hxy⟩:=lX.1 h1.2.2;simp at hq;subst hq;have h4:xJ (my a.aZ l.dW) l.At.X l.At.Y=true:=lX.2 ⟨AP x,dU.2 ⟨x,nC.2 ⟨hx,h1.2.1⟩,rfl⟩,hxy⟩;rw[h3]at h4;cases h4
end
structure PS (n:Nat) (r:Nat->Nat) (h:Nat) (q:Z Nat) (seen:Z Bool) (pieces todo:Z Int):Prop where
 sl:seen.length=n
 sn:∀p,p<n->seen[p]? =some (decide<|r p<h\/p∈q)
 qn:q.Nodup
 qi:∀p∈q,p<n/\r p=h
 q0:h∈q
 td:todo=ints q
 pi:k6 pieces
 pm:∀x,x∈pieces↔∃p∈q,x=((p:Nat):Int)
structure QS (n m:Nat) (tch:Z (Z Int)) (r:Nat->Nat) (h:Nat) (q qb:Z Nat) (D8:Z Int) (used:Z Bool):Prop where
 ul:used.length=m
 un:∀k,k<m->used[k]? =some (decide<|k∈qb)
 bi:k6 D8
 bm:∀x,x∈D8↔∃k∈qb,x=((k:Nat):Int)
 bk:∀k∈qb,k<m/\r (n+k)=h/\∀l,tch[k]? =some l->∀p:Nat,((p:Nat):Int)∈l->p∈q
def PS.zq{n:Nat}{r:Nat->Nat}{h:Nat}{q:Z Nat}{seen:Z Bool}{pieces todo:Z Int}(H:PS n r h q seen pieces todo):q.length<=n/\pieces.length<=n:=by
 have h1:=gS H.qn (m:=List.range n) (λk hk=>by rw[A6];exact(H.qi k hk).1);rw[List.length_range]at h1;have h2:=gS H.pi.nodup (m:=ints q)<|λx hx=>tX.2<|(H.pm x).1 hx
 grind [mz]
def QS.zq{n m:Nat}{tch:Z (Z Int)}{r:Nat->Nat}{h:Nat}{q qb:Z Nat}{D8:Z Int}{used:Z Bool}(H:QS n m tch r h q qb D8 used):D8.length<=m:=by
 have h2:=gS H.bi.nodup (m:=ints (List.range m)) (λx hx=>by
  obtain⟨k,hk,e⟩:=(H.bm x).1 hx
  exact tX.2 ⟨k,A6.2 (H.bk k hk).1,e⟩)
 grind [mz,List.length_range]
def Tz(n t:Nat)(r:Nat->Nat)(h:Nat):k6 (ints<|gP n<|cls t r h):=LL<|List.Pairwise.sublist (List.filter_sublist.trans List.filter_sublist)<|List.pairwise_lt_range (n:=t)
def QN(bs:Z cL)(n t:Nat)(r:Nat->Nat)(h:Nat):k6 (ints<|gB bs n<|cls t r h):=by
 refine LL ?_;unfold gB;rw[List.pairwise_map];have hp:(List.filter (λi=> !decide (i<n)&&xV bs (i - n))<|cls t r h).Pairwise (· < ·):=List.Pairwise.sublist (List.filter_sublist.trans List.filter_sublist)<|List.pairwise_lt_range (n:=t)
 grind
def J5{n t:Nat}{r:Nat->Nat}{h p:Nat}:p∈gP n (cls t r h)↔p<n/\p<t/\r p=h:=by
 unfold gP
 grind [tE]
def E6{bs:Z cL}{n t:Nat}{r:Nat->Nat}{h k:Nat}:k∈gB bs n (cls t r h)↔n+k<t/\r (n+k)=h/\xV bs k=true:=by
 unfold gB;rw[dU];constructor
 ·grind [tE,Bool.not_eq_true',decide_eq_false_iff_not]
 ·rintro⟨h1,h2,h3⟩;refine⟨n+k,?_,by omega⟩
  grind [tE,Bool.not_eq_true',decide_eq_false_iff_not,Nat.add_sub_cancel_left]
section
variable {N:Nat}
def LN{bs:Z cL}{n m:Nat}{tch:Z (Z Int)}{r:Nat->Nat}(hC:RZ n m tch r)(hm:tch.length=m)(ht:∀l∈tch,l.length<=1073741824/\∀x∈l,∃i:Nat,i<n/\x=((i:Nat):Int))(hn:n<=1000000)(hm2:m<=1000000)
  (hpl:∀(k:Nat)l,tch[k]? =some l->l≠[]->xV bs k=true) {h:Nat} (hh:h<n) (hr:r h=h) {seen:Z Bool} (hsl:seen.length=n) (hsn:∀p,p<n->seen[p]? =some (decide<|r p<h)) (hN:4398046511104<=N):
  Ok (iF N tch ((h:Nat):Int) seen) (λx=>x.1.1=ints (gP n<|cls (n+m) r h)/\x.1.2.1=ints (gB bs n<|cls (n+m) r h)/\x.1.2.2= []/\x.2.length=n/\∀p,p<n->x.2[p]? =some (decide<|r p<h+1)):=by
 unfold iF;refine Yx (hsn h hh)<|X_ (wx false (by omega)) ?_
 refine Ym (Zl (Go:=λst=>st.2.1=ints (gP n (cls (n+m) r h))/\st.2.2.1=ints (gB bs n (cls (n+m) r h))/\st.1.length=n/\∀p,p<n->st.1[p]? =some (decide (r p<h+1))) (Rt:=λ_=>False)
  (λst=>∃(q qb:Z Nat)(t:Nat),st.2.2.2.2.2=((t:Nat):Int)/\t<=q.length/\PS n r h q st.1 st.2.1 st.2.2.2.2.1/\QS n m tch r h q qb st.2.2.1 st.2.2.2.1/\∀(j p k:Nat)l,j<t->q[j]? =some p->tch[k]? =some l->((p:Nat):Int)∈l->k∈qb)
  (λst=>n+1 - st.2.2.2.2.2.toNat) ?_ ⟨[h],[],0,rfl,by simp,?_,?_,λj p k l hj=>by omega⟩ (by simp;omega)) ?_
 ·rintro⟨sn,pi,bo,us,td,t'⟩⟨q,qb,t,e,htq,hP,hQ,hcl⟩;dsimp only at e hP hQ ⊢;subst e;have htl:td.length=q.length:=by rw[hP.td,mz]
  have hqf:=hP.zq
  by_cases hlt:t<q.length
  ·rw[jT (by omega),aO];have hqt:q[t]? =some q[t]:=aM hlt;have hqi:=hP.qi _<|cP hlt
   refine Ym (Zc (n:=tch.length) (λst=>st.2.2.2.2.2) (λi st=>∃q' qb',q <+:q'/\(∀k∈qb,k∈qb')/\PS n r h q' st.1 st.2.1 st.2.2.2.2.1/\QS n m tch r h q' qb' st.2.2.1 st.2.2.2.1/\∀k l,k<i->tch[k]? =some l->((q[t]:Nat):Int)∈l->k∈qb')
    (Go:=λst=>∃q' qb',q <+:q'/\(∀k∈qb,k∈qb')/\PS n r h q' st.1 st.2.1 st.2.2.2.2.1/\QS n m tch r h q' qb' st.2.2.1 st.2.2.2.1/\∀k l,tch[k]? =some l->((q[t]:Nat):Int)∈l->k∈qb') (Rt:=λ_=>False) ?_ ?_ (dH _) rfl
    ⟨q,qb,List.prefix_refl _,λk hk=>hk,hP,hQ,λk l hk=>by omega⟩ (by omega)) ?_
   ·rintro k⟨sn1,pi1,bo1,us1,td1,i'⟩hk e⟨q1,qb1,hpre,hsub,hP1,hQ1,hc1⟩;dsimp only at e hP1 hQ1 ⊢;subst e;rw[jT hk,aO];have hkm:k<m:=by omega
    have htk:tch[k]? =some tch[k]:=aM hk;have htk2:=ht _<|cP hk
    have hq1t:td1[t]? =some ((q[t]:Nat):Int):=by
     rw[hP1.td];unfold ints;rw[kg,E0 hpre hqt];rfl
    have hcond:((idx us1 ((k:Nat):Int)).bind λx948=>bif x948 then some true else((idx tch ((k:Nat):Int)).bind λx950=>(idx td1 ((t:Nat):Int)).bind λx953=>(cQ N x950 x953).bind λx954=>some<|!x954))=some (decide (k∈qb1)|| !decide (((q[t]:Nat):Int)∈tch[k])):=by
     rw[cK<|hQ1.un k hkm,aA,cK htk,aA,cK hq1t,aA,y5 (l:=tch[k]) (c:=((q[t]:Nat):Int)) (by have:=htk2.1;omega) hN,aA]
     cases decide (k∈qb1) <;> rfl
    refine X_ hcond<|YW (λhb=>YK ⟨bR (by omega),q1,qb1,hpre,hsub,hP1,hQ1,λk' l hk' hl hm'=>?_⟩)<|λhb=>?_
    ·by_cases e:k'=k
     ·subst e;rw[htk]at hl;injection hl with hl
      rw[hl,bS hm',lT,Bool.or_false,cZ]at hb;exact hb
     ·exact hc1 k' l (by omega) hl hm'
    ·rw[Bool.or_eq_false_iff,decide_eq_false_iff_not,Bool.not_eq_false',cZ]at hb;obtain⟨hkn,hqm⟩:=hb;have hrk:r (n+k)=h:=by rw[<-hC.co q[t] (n+k) ⟨k,_,htk,hqm,rfl⟩];exact hqi.2
     have hbf:=hQ1.zq;refine Yx (hQ1.un k hkm)<|X_ (HK hQ1.bi (by omega) hN) ?_
     refine Ym (Zc (n:=tch[k].length) (λst=>st.2.2.2) (λi st=>∃q2,q1 <+:q2/\PS n r h q2 st.1 st.2.1 st.2.2.1/\∀(j p:Nat),j<i->tch[k][j]? =some ((p:Nat):Int)->p∈q2)
      (Go:=λst=>∃q2,q1 <+:q2/\PS n r h q2 st.1 st.2.1 st.2.2.1/\∀(p:Nat),((p:Nat):Int)∈tch[k]->p∈q2) (Rt:=λ_=>False) ?_ ?_ (dH _) rfl ⟨q1,List.prefix_refl _,hP1,λj p hj=>by omega⟩ (by omega)) ?_
     ·rintro j⟨sn2,pi2,td2,jj⟩hj e⟨q2,hpre2,hP2,hc2⟩;dsimp only at e hP2 ⊢;subst e;have hlj:tch[k][j]? =some tch[k][j]:=aM hj;obtain⟨p,hpn,hpe⟩:=htk2.2 _<|cP hj
      rw[hpe]at hlj;have hpf:=hP2.zq;have hrp:r p=h:=by rw[hC.co p (n+k) ⟨k,_,htk,dT hlj,rfl⟩];exact hrk
      refine Yx htk ?_;rw[jT hj,aO];refine Yx htk<|Yx hlj<|Yx (hP2.sn p hpn) ?_
      refine Ym (P:=λst:Z Bool×Z Int×Z Int=>∃q2,q1 <+:q2/\PS n r h q2 st.1 st.2.1 st.2.2/\∀(j' p:Nat),j'<j+1->tch[k][j']? =some ((p:Nat):Int)->p∈q2) (YW (λhb=>?_)<|λhb=>V_ ⟨q2,hpre2,hP2,λj' p' hj' hp'=>?_⟩)<|λst hst=>YK ⟨bR (by omega),hst⟩
      ·have hpq:p∉q2:=by
        rw[Bool.not_eq_true',decide_eq_false_iff_not]at hb;exact λh=>hb<|.inr h
       refine Yx (hP2.sn p hpn)<|X_ (HK hP2.pi (by omega) hN)<|Y2 (by rw[hP2.td,mz];simp only[dO,List.length_nil];omega)<|V_ ⟨q2++[p],hpre2.trans<|List.prefix_append _ _,⟨?_,?_,?_,?_,?_,?_,?_,?_⟩,?_⟩
       ·rw[jV];exact hP2.sl
       ·intro p' hp';rw[dA,mB]
        by_cases e:p=p'
        ·subst e;rw[aG rfl,aG (by rw[hP2.sl];exact hpn)];congr 1;exact(bS<|.inr (by simp)).symm
        ·rw[aK e,hP2.sn p' hp'];congr 1;rw[decide_eq_decide,dP];simp only[mA];constructor
         ·exact λh=>h.elim .inl<|λh=> .inr<|.inl h
         ·exact λh=>h.elim .inl<|λh=>h.elim .inr<|λh=>absurd h.symm e
       ·rw[List.nodup_append];exact⟨hP2.qn,by simp,λa ha b hb=>by simp at hb;subst hb;exact λe=>hpq<|e▸ha⟩
       ·intro p' hp'
        rcases dP.1 hp' with hp'|hp'
        ·exact hP2.qi p' hp'
        ·simp at hp';subst hp';exact⟨hpn,hrp⟩
       ·exact List.mem_append_left _ hP2.q0
       ·dsimp only;rw[hP2.td,tW];rfl
       ·exact xW hP2.pi
       ·intro x;rw[Hx,hP2.pm];constructor
        ·rintro(⟨p',h1,h2⟩|h1)
         ·exact⟨p',List.mem_append_left _ h1,h2⟩
         ·exact⟨p,by simp,h1⟩
        ·rintro⟨p',h1,h2⟩
         rcases dP.1 h1 with h1|h1
         ·exact .inl ⟨p',h1,h2⟩
         ·simp at h1;subst h1;exact .inr h2
       ·intro j' p' hj' hp'
        by_cases e:j'=j
        ·subst e;rw[hlj]at hp';injection hp' with hp'
         have:p'=p:=by omega
         subst this;simp
        ·exact List.mem_append_left _<|hc2 j' p' (by omega) hp'
      ·by_cases e:j'=j
       ·subst e;rw[hlj]at hp';injection hp' with hp'
        have:p'=p:=by omega
        subst this;rw[Bool.not_eq_false',cZ]at hb
        rcases hb with hb|hb
        ·omega
        ·exact hb
       ·exact hc2 j' p' (by omega) hp'
     ·rintro⟨sn2,pi2,td2,jj⟩e⟨q2,hpre2,hP2,hc2⟩;dsimp only at e hP2 ⊢;subst e;refine Yx htk ?_;rw[pI,aR];refine YO ⟨q2,hpre2,hP2,λp hp=>?_⟩;obtain⟨j,hj⟩:=dD hp;exact hc2 j p (bP.1 hj).1 hj
     intro o ho;refine YS ho ?_<|λr hr=>hr.elim
     rintro⟨sn2,pi2,td2,jj⟩⟨q2,hpre2,hP2,hc2⟩;dsimp only at hP2 ⊢;refine YK ⟨bR (by omega),q2,qb1++[k],hpre.trans hpre2,λk' hk'=>List.mem_append_left _<|hsub k' hk',hP2,⟨?_,?_,?_,?_,?_⟩,λk' l hk' hl hm'=>?_⟩
     ·rw[jV];exact hQ1.ul
     ·intro k' hk';rw[dA,mB]
      by_cases e:k=k'
      ·subst e;rw[aG rfl,aG (by rw[hQ1.ul];exact hkm)];congr 1;exact(bS (by simp)).symm
      ·rw[aK e,hQ1.un k' hk'];congr 1;rw[decide_eq_decide,dP];simp only[mA];exact⟨.inl,λh=>h.elim id<|λh=>absurd h.symm e⟩
     ·exact xW hQ1.bi
     ·intro x;rw[Hx,hQ1.bm];constructor
      ·rintro(⟨p',h1,h2⟩|h1)
       ·exact⟨p',List.mem_append_left _ h1,h2⟩
       ·exact⟨k,by simp,h1⟩
      ·rintro⟨p',h1,h2⟩
       rcases dP.1 h1 with h1|h1
       ·exact .inl ⟨p',h1,h2⟩
       ·simp at h1;subst h1;exact .inr h2
     ·intro k' hk'
      rcases dP.1 hk' with hk'|hk'
      ·obtain⟨h1,h2,h3⟩:=hQ1.bk k' hk';exact⟨h1,h2,λl hl p hp=>hpre2.subset<|h3 l hl p hp⟩
      ·simp at hk';subst hk';refine⟨hkm,hrk,λl hl p hp=>?_⟩;rw[htk]at hl;injection hl with hl
       exact hc2 p (by rw[hl];exact hp)
     ·by_cases e:k'=k
      ·subst e;simp
      ·exact List.mem_append_left _<|hc1 k' l (by omega) hl hm'
   ·rintro⟨sn1,pi1,bo1,us1,td1,i'⟩e⟨q1,qb1,hpre,hsub,hP1,hQ1,hc1⟩;dsimp only at e hP1 hQ1 ⊢;subst e;rw[pI,aR];exact YO ⟨q1,qb1,hpre,hsub,hP1,hQ1,λk l hl=>hc1 k l (bP.1 hl).1 hl⟩
   intro o ho;refine YS ho ?_<|λr hr=>hr.elim
   rintro⟨sn1,pi1,bo1,us1,td1,i'⟩⟨q1,qb1,hpre,hsub,hP1,hQ1,hc1⟩;dsimp only at hP1 hQ1 ⊢;refine YK ⟨⟨q1,qb1,t+1,bR (by omega),by have:=hpre.length_le;omega,hP1,hQ1,λj p k l hj hjp hl hm'=>?_⟩,?_⟩
   ·by_cases e:j=t
    ·subst e;rw[E0 hpre hqt]at hjp;injection hjp with hjp;subst hjp
     exact hc1 k l hl hm'
    ·have hjq:q[j]? =some (q[j]'(by omega)):=aM _;rw[E0 hpre hjq]at hjp;injection hjp with hjp;subst hjp
     exact hsub k<|hcl j _ k l (by omega) hjq hl hm'
   ·rw[bR (by omega)];simp only[dA];omega
  ·rw[AV (by omega:td.length<=t),aR];have htq':t=q.length:=by omega
   have hclosed:∀i j,Lk n tch i j->(((i<n/\i∈q)\/∃k,k∈qb/\i=n+k)↔((j<n/\j∈q)\/∃k,k∈qb/\j=n+k)):=by
    rintro i j⟨k,l,hl,hil,rfl⟩;obtain⟨i',hi',ei⟩:=(ht l<|dT hl).2 _ hil;have:i'=i:=by omega
    subst this;constructor
    ·rintro(⟨_,h1⟩|⟨k',_,h1⟩)
     ·obtain⟨p,hp⟩:=dD h1;exact .inr ⟨k,hcl p i' k l (by rw[htq'];exact(bP.1 hp).1) hp hl hil,rfl⟩
     ·omega
    ·rintro(⟨h1,_⟩|⟨k',h1,h2⟩)
     ·omega
     ·have:k'=k:=by omega
      subst this;exact .inl ⟨hi',(hQ.bk k' h1).2.2 l hl i' hil⟩
   have hall:∀x,x<n+m->r x=h->(x<n/\x∈q)\/∃k,k∈qb/\x=n+k:=λx hx hrx=>hC.fi _ hclosed h x (by omega) hx (by rw[hr,hrx])<|.inl ⟨hh,hP.q0⟩
   refine YO ⟨?_,?_,hP.sl,λp hp=>?_⟩
   ·refine Gb hP.pi (Tz _ _ _ _) λx=>?_;rw[hP.pm,tX];constructor
    ·rintro⟨p,h1,h2⟩;exact⟨p,J5.2 ⟨(hP.qi p h1).1,by have:=(hP.qi p h1).1;omega,(hP.qi p h1).2⟩,h2⟩
    ·rintro⟨p,h1,h2⟩;obtain⟨g1,g2,g3⟩:=J5.1 h1
     rcases hall p g2 g3 with⟨_,g4⟩|⟨k,_,g4⟩
     ·exact⟨p,g4,h2⟩
     ·omega
   ·refine Gb hQ.bi (QN _ _ _ _ _) λx=>?_;rw[hQ.bm,tX];constructor
    ·rintro⟨k,h1,h2⟩;obtain⟨g1,g2,g3⟩:=hQ.bk k h1;refine⟨k,E6.2 ⟨by omega,g2,?_⟩,h2⟩;have hk:tch[k]? =some (tch[k]'(by omega)):=aM _;refine hpl k _ hk λhemp=>?_;have BG:∀i j,Lk n tch i j->((i=n+k)↔(j=n+k)):=by
      rintro i j⟨k',l,hl,hil,rfl⟩;obtain⟨i',hi',ei⟩:=(ht l<|dT hl).2 _ hil;constructor
      ·intro;omega
      ·intro e;have:k'=k:=by omega
       subst this;rw[hk]at hl;injection hl with hl
       rw[<-hl,hemp]at hil;cases hil
     have:=hC.fi (λx=>x=n+k) BG (n+k) h (by omega) (by omega) (by rw[g2,hr]) rfl;omega
    ·rintro⟨k,h1,h2⟩;obtain⟨g1,g2,_⟩:=E6.1 h1
     rcases hall (n+k) g1 g2 with⟨g4,_⟩|⟨k',g3,g4⟩
     ·omega
     ·have:k'=k:=by omega
      subst this;exact⟨k',g3,h2⟩
   ·rw[hP.sn p hp];congr 1;rw[decide_eq_decide];constructor
    ·rintro(h1|h1)
     ·omega
     ·have:=(hP.qi p h1).2;omega
    ·intro h1
     by_cases e:r p=h
     ·rcases hall p (by omega) e with⟨_,g4⟩|⟨k,_,g4⟩
      ·exact .inr g4
      ·omega
     ·exact .inl (by omega)
 ·refine⟨by rw[jV];exact hsl,λp hp=>?_,by simp,λp hp=>by simp at hp;subst hp;exact⟨hh,hr⟩,by simp,rfl,List.pairwise_singleton _ _,λx=>by simp⟩;rw[dA,mB]
  by_cases e:h=p
  ·subst e;rw[aG rfl,aG (by rw[hsl];exact hh)];congr 1;exact(bS<|.inr (by simp)).symm
  ·rw[aK e,hsn p hp];congr 1;rw[decide_eq_decide];simp only[mA];omega
 ·exact⟨by rw[A5];exact hm,λk hk=>by simp[hm,hk],lf,λx=>by simp,λk hk=>by cases hk⟩
 intro o ho;refine YS ho ?_<|λr hr=>hr.elim
 rintro⟨sn,pi,bo,us,td,t'⟩⟨h1,h2,h3,h4⟩;exact V_ ⟨h1,h2,rfl,h3,h4⟩
end
def Jb(bs:Z cL)(n t:Nat)(r:Nat->Nat)(hs:Z Nat)(h:Nat):n0 bs n t r (hs++[h])=if Lo bs n (cls t r h)=true then n0 bs n t r hs++[SR bs n<|cls t r h]else n0 bs n t r hs:=by
 grind [n0,I3]
def R6(bs:Z cL)(n m:Nat)(r:Nat->Nat)(h:ld):Nat:=gi bs n (n+m) r<|r<|oO n h
structure TA (G G':Z bG):Prop where
 len:G'.length=G.length
 each:∀(g:Nat)x,G[g]? =some x->∃y,G'[g]? =some y/\y.jQ=x.jQ/\y.aZ=x.aZ
def Cf(G:Z bG)(lg:eQ->aV Nat)(ls:Z eQ):TA G (ik G lg ls):=
 ⟨yV _ _ _,λg x hx=>⟨{x with aT:=(ls.filter<|λl=>decide<|lg l=some g).map j8},by grind [nj],rfl,rfl⟩⟩
section
variable {N:Nat}
def HN{bs:Z cL}{n m:Nat}{r:Nat->Nat}(hbm:bs.length=m)(hn:n<=1000000)(hm:m<=1000000)(hle:∀i,i<n+m->r i<=i)(hrr:∀i,i<n+m->r (r i)=r i){G:Z bG}(hG:TA (n0 bs n (n+m) r<|cC (n+m) r) G){h:ld}(hh:SU bs n m h)(hN:4398046511104<=N):
  eN N G h=some ((R6 bs n m r h:Nat):Int)/\R6 bs n m r h<G.length:=by
 obtain⟨k,hk,hkb,hkp⟩:=hh.num;have hx:oO n h<n+m:=by
  grind [oO]
 have hhead:r (oO n h)∈cC (n+m) r:=kD.2 ⟨by grind,hrr _ hx⟩;have hne:Lo bs n (cls (n+m) r<|r<|oO n h)=true:=by
  unfold oO at hx ⊢
  by_cases hb:h.cL=true
  all_goals grind [dA,Qz,Qy]
 obtain⟨g1,g2⟩:=SS (bs:=bs) (n:=n) hhead hne;have hlen:G.length=(live bs n (n+m) r<|cC (n+m) r).length:=by rw[hG.len,vP]
 have hlive:(live bs n (n+m) r<|cC (n+m) r).Nodup:=List.Nodup.sublist List.filter_sublist<|qg _ _
 have hll:(live bs n (n+m) r<|cC (n+m) r).length<=n+m:=by
  grind [sH,cC,mT]
 have hval:∀(g:Nat)y,G[g]? =some y->Ok (bif h.cL then((idx G ((g:Nat):Int)).bind λx241=>(cQ N x241.aZ h.Number).bind λx250=>bif x250 then some true else(bif(!h.cL)then((idx G ((g:Nat):Int)).bind λx253=>(cQ N x253.jQ h.Number).bind λx262=>some x262)else some false))else(bif(!h.cL)then((idx G ((g:Nat):Int)).bind λx264=>(cQ N x264.jQ h.Number).bind λx273=>some x273)else some false))
   (λb=>b=true↔(live bs n (n+m) r<|cC (n+m) r)[g]? =some (r<|oO n h)):=λg y hy=>by
  have hgl:g<(live bs n (n+m) r<|cC (n+m) r).length:=by have:=(bP.1 hy).1;omega
  have hlx:(live bs n (n+m) r<|cC (n+m) r)[g]? =some (live bs n (n+m) r<|cC (n+m) r)[g]:=aM hgl;have hgx:(n0 bs n (n+m) r<|cC (n+m) r)[g]? =some (SR bs n<|cls (n+m) r (live bs n (n+m) r<|cC (n+m) r)[g]):=by unfold n0;rw[kg,hlx];rfl
  obtain⟨y',hy',e1,e2⟩:=hG.each g _ hgx;rw[hy]at hy';injection hy' with hy';subst hy'
  generalize hhd:(live bs n (n+m) r<|cC (n+m) r)[g]=hd at *;have hpl:y.jQ.length<=n+m/\y.aZ.length<=n+m:=by
   have:=JT n<|cls (n+m) r hd
   have:=JU bs n<|cls (n+m) r hd
   have:=D1 (n+m) r hd;rw[e1,e2];unfold SR;simp only[mz];omega
  rw[hlx]
  cases hb:h.cL with
  |true=>
   rw[aO,cK hy,aA,y5 (by omega) hN,aA];have hix:oO n h=n+k:=by unfold oO;rw[aG hb,hk,dA]
   have hiff:(h.Number∈y.aZ)↔hd=r (oO n h):=by
    rw[e2,hix];unfold SR;dsimp only;rw[tX,hk];constructor
    ·rintro⟨i,hi,e⟩;have:i=k:=by omega
     subst this;exact(E6.1 hi).2.1.symm
    ·intro e;exact⟨k,E6.2 ⟨by omega,e.symm,(hkb hb).2⟩,rfl⟩
   by_cases hin:h.Number∈y.aZ
   ·rw[bS hin,aO];exact V_ ⟨λ_=>by rw[hiff.1 hin],λ_=>rfl⟩
   ·rw[cF hin,aR,lT,aR];refine V_ ⟨λh=>(by cases h),λh=>?_⟩;injection h with h
    exact absurd (hiff.2 h) hin
  |false=>
   rw[aR,qp,aO,cK hy,aA,y5 (by omega) hN,aA];have hix:oO n h=k:=by unfold oO;rw[aK (by grind),hk,dA]
   have hiff:(h.Number∈y.jQ)↔hd=r (oO n h):=by
    rw[e1,hix];unfold SR;dsimp only;rw[tX,hk];constructor
    ·rintro⟨i,hi,e⟩;have:i=k:=by omega
     subst this;exact(J5.1 hi).2.2.symm
    ·intro e;exact⟨k,J5.2 ⟨hkp hb,by omega,e.symm⟩,rfl⟩
   refine V_ ?_;rw[cZ,hiff];exact⟨λh=>by rw[h],λh=>by injection h⟩
 refine⟨Y9 ?_,by grind [R6]⟩;unfold eN R6;refine Ym (Zc (n:=G.length) (λs=>s) (λk _=>∀g,g<k->(live bs n (n+m) r<|cC (n+m) r)[g]? ≠some (r<|oO n h)) (Go:=λ_=>False) (Rt:=λs=>s=((gi bs n (n+m) r (r<|oO n h):Nat):Int)) ?_ ?_ (dH _) rfl (λg hg=>by omega) (by omega)) ?_
 ·rintro g s hg e hI;subst e;rw[jT hg,aO];refine Ym (hval g _<|aM hg) λb hb=>?_
  grind [Zg,EU,YK,bR]
 ·grind
 intro o ho;exact YS ho (λ_ h=>h.elim)<|λr hr=>V_ hr
def FI{bs:Z cL}{pcs:Z aL}{r:Nat->Nat}(hb:mU bs)(hp:pcs.length<=1000000)(hpr:∀p∈pcs,p.jw.length<=1000000/\∀x∈p.jw,x.X0<x.X1)(hd:∀l:eQ,∀b∈bs,∀p∈pcs,pr l b=true->nH l p=true->False)
  (hle:∀i,i<pcs.length+bs.length->r i<=i) (hrr:∀i,i<pcs.length+bs.length->r (r i)=r i) {G:Z bG} (hG:TA (n0 bs pcs.length (pcs.length+bs.length) r<|cC (pcs.length+bs.length) r) G) (l:eQ) (hN:4398046511104<=N):
  eF N bs (pcs.map aL.dW) (pcs.map aL.jw) G l=some (MN bs pcs r l)/\∀g,Fx bs pcs r l=some g->g<G.length:=by
 have hbl:=hb.len;unfold eF MN Fx;rw[OO hb hp hpr l hN,aA,R5<|hd l]
 cases hh:FZ bs pcs l with
 |none=>simp
 |some h=>
  obtain⟨e1,e2⟩:=HN (N:=N) rfl hp (by omega) hle hrr hG (Qx hh) hN;refine⟨?_,λg hg=>?_⟩
  ·dsimp only[Option.getD_some,Option.isSome_some];rw[lT,aR,e1,aA];rfl
  ·rw[Option.map_some]at hg;injection hg with hg
   rw[<-hg];exact e2
def QO{bs:Z cL}{pcs:Z aL}:∀(k:Nat)l,(l6 bs pcs)[k]? =some l->l≠[]->xV bs k=true:=λk l hl hne=>by
 unfold l6 at hl;rw[kg,tw]at hl;obtain⟨b,hb,rfl⟩:=hl;unfold xV;rw[hb]
 cases hp:b.il with
 |true=>simpa using hp
 |false=>
  exfalso;refine hne ?_;have:rV (jg b) pcs pcs.length= []:=by
   unfold rV;rw[List.filter_eq_nil_iff];intro j _;rw[iM,Option.any_eq_false];intro p _;unfold jg;rw[hp];rfl
  rw[this];rfl
def OP{bs:Z cL}{ls:Z eQ}{pcs:Z aL}{r:Nat->Nat}(hb:mU bs)(hp:pcs.length<=2000)(hl:ls.length<=1000000)(hpr:∀p∈pcs,p.jw.length<=1000000/\∀x∈p.jw,x.X0<x.X1)(hd:∀l:eQ,∀b∈bs,∀p∈pcs,pr l b=true->nH l p=true->False)
  (hC:RZ pcs.length bs.length (l6 bs pcs) r) (hN:4398046511104<=N):
  fR N bs ls (pcs.map aL.dW) (pcs.map aL.jw) (l6 bs pcs)=some (ik (n0 bs pcs.length (pcs.length+bs.length) r<|cC (pcs.length+bs.length) r) (Fx bs pcs r) ls):=by
 refine Y9 ?_;have hbl:=hb.len;have htl:(l6 bs pcs).length=bs.length:=by simp[l6,dQ]
 have hto:=Lq (bs:=bs) (pcs:=pcs) (by omega);have hgl:∀hs:Z Nat,(n0 bs pcs.length (pcs.length+bs.length) r hs).length<=hs.length:=λhs=>by simp[vP,sH]
 unfold fR;rw[dQ];refine X_ (wx false (by omega)) ?_
 refine Ym (Zc (n:=pcs.length) (λst=>st.2.2) (λi st=>st.1=n0 bs pcs.length (pcs.length+bs.length) r (cC i r)/\st.2.1.length=pcs.length/\∀p,p<pcs.length->st.2.1[p]? =some (decide (r p<i)))
  (Go:=λst=>st.1=n0 bs pcs.length (pcs.length+bs.length) r (cC pcs.length r)) (Rt:=λ_=>False) ?_ ?_ (dH _) rfl ⟨by rfl,by simp,λp hp=>by simp[hp]⟩ (by omega)) ?_
 ·rintro i⟨G,sn,ii⟩hi e⟨hG,hsl,hsn⟩;dsimp only at e hG hsl hsn ⊢;subst e;subst hG;rw[jT hi,aO];refine Yx (hsn i hi) ?_;refine Ym (P:=λst:Z bG×Z Bool=>st.1=n0 bs pcs.length (pcs.length+bs.length) r (cC (i+1) r)/\st.2.length=pcs.length/\∀p,p<pcs.length->st.2[p]? =some (decide<|r p<i+1)) (YW (λhb=>?_)<|λhb=>V_ ⟨?_,hsl,λp hp=>?_⟩)<|λst hst=>YK ⟨bR (by omega),hst⟩
  ·rw[Bool.not_eq_true',decide_eq_false_iff_not]at hb;have hri:r i=i:=by have:=hC.le i (by omega);omega
   refine Ym (LN (bs:=bs) hC htl hto (by omega) (by omega) QO hi hri hsl hsn hN) λx hx=>?_;obtain⟨x1,x2,x3,x4,x5⟩:=hx;have h1:=hgl<|cC i r
   have h2:=mT i r;refine Y2 (by grind)<|V_ ⟨?_,x4,x5⟩
   dsimp only;have hne:Lo bs pcs.length (cls (pcs.length+bs.length) r i)=true:=by
    grind [Qy]
   rw[iI,aG hri,Jb,aG hne,x1,x2,x3];rfl
  ·grind [Bool.not_eq_false',iI]
  ·rw[Bool.not_eq_false',cZ]at hb;rw[hsn p hp];congr 1;rw[decide_eq_decide];have hne:r p≠i:=λe=>by have:=hC.rr p (by omega);rw[e]at this;omega
   omega
 ·rintro⟨G,sn,ii⟩e⟨hG,_,_⟩;dsimp only at e hG ⊢;subst e;rw[pI,aR];exact YO hG
 intro o ho;refine YS ho ?_<|λr hr=>hr.elim
 rintro⟨G,sn,ii⟩hG;dsimp only at hG ⊢;subst hG;rw[htl];have halone:∀k,k<bs.length->(l6 bs pcs)[k]? =some []->∀x,x<pcs.length+bs.length->(r x=r (pcs.length+k)↔x=pcs.length+k):=λk hk hemp x hx=>by
  constructor
  ·intro e;refine hC.fi (λy=>y=pcs.length+k) ?_ (pcs.length+k) x (by omega) hx e.symm rfl;rintro i j⟨k',l,hl,hil,rfl⟩;obtain⟨i',hi',ei⟩:=(hto l<|dT hl).2 _ hil;constructor
   ·intro;omega
   ·intro e;have:k'=k:=by omega
    subst this;rw[hemp]at hl;injection hl with hl
    rw[<-hl]at hil;cases hil
  ·intro e;rw[e]
 refine Ym (Zc (n:=bs.length) (λst=>st.2) (λi st=>st.1=n0 bs pcs.length (pcs.length+bs.length) r (cC (pcs.length+i) r))
  (Go:=λst=>st.1=n0 bs pcs.length (pcs.length+bs.length) r (cC (pcs.length+bs.length) r)) (Rt:=λ_=>False) ?_ ?_ (dH _) rfl rfl (by omega)) ?_
 ·rintro i⟨G,ii⟩hi e hG;dsimp only at e hG ⊢;subst e;subst hG;rw[jT hi,aO];have hx:bs[i]? =some bs[i]:=aM hi;have htx:(l6 bs pcs)[i]? =some ((l6 bs pcs)[i]'(by omega)):=aM _;have hpi:xV bs i=bs[i].il:=by unfold xV;rw[hx];rfl
  have hlen:=hgl<|cC (pcs.length+i) r
  have hhl:=mT (pcs.length+i) r;have hcond:((idx bs ((i:Nat):Int)).bind λx210=>bif x210.il then((idx (l6 bs pcs) ((i:Nat):Int)).bind λx214=>some<|(x214.length:Int)==0)else some false)=some (xV bs i&&decide ((l6 bs pcs)[i]'(by omega)= [])):=by
   rw[cK hx,aA,cK htx,aA,hpi]
   cases bs[i].il with
   |false=>rfl
   |true=>
    rw[aO,Bool.true_and];congr 1;rw[fY,cZ,beq_iff_eq];constructor
    ·intro h;exact List.eq_nil_of_length_eq_zero (by omega)
    ·intro h;rw[h];rfl
  refine X_ hcond ?_;have hstep:n0 bs pcs.length (pcs.length+bs.length) r (cC (pcs.length+(i+1)) r)=if(xV bs i&&decide ((l6 bs pcs)[i]'(by omega)= []))=true then n0 bs pcs.length (pcs.length+bs.length) r (cC (pcs.length+i) r)++[⟨[],[((i:Nat):Int)],[]⟩]else n0 bs pcs.length (pcs.length+bs.length) r (cC (pcs.length+i) r):=by
   rw[<-Nat.add_assoc,iI]
   by_cases hemp:(l6 bs pcs)[i]'(by omega)= []
   ·rw[hemp]at htx;have BG:=halone i hi htx;have hri:r (pcs.length+i)=pcs.length+i:=by
     have h1:=hC.le (pcs.length+i) (by omega);exact(BG _ (by omega)).1<|hC.rr _ (by omega)
    rw[aG hri,Jb];have hcl:∀x,x∈cls (pcs.length+bs.length) r (pcs.length+i)↔x=pcs.length+i:=λx=>by
     rw[tE];constructor
     ·rintro⟨h1,h2⟩;exact(BG x h1).1 (by rw[h2,hri])
     ·intro h;subst h;exact⟨by omega,hri⟩
    have hgp:gP pcs.length (cls (pcs.length+bs.length) r<|pcs.length+i)= []:=by
     unfold gP;rw[List.filter_eq_nil_iff];intro x hx;rw[(hcl x).1 hx];simp
    by_cases hpl:xV bs i=true
    ·have hne:Lo bs pcs.length (cls (pcs.length+bs.length) r<|pcs.length+i)=true:=by
      have:=Qz (bs:=bs) (n:=pcs.length) (r:=r) hpl (show pcs.length+i<pcs.length+bs.length by omega);rwa[hri]at this
     rw[aG hne,aG (by rw[hpl,bS hemp];rfl)];congr 2;unfold SR;rw[hgp];have hgb:ints (gB bs pcs.length<|cls (pcs.length+bs.length) r<|pcs.length+i)= [((i:Nat):Int)]:=by
      refine Gb (QN _ _ _ _ _) (List.pairwise_singleton _ _) λx=>?_;rw[tX];simp only[mA];constructor
      ·rintro⟨k,h1,h2⟩;obtain⟨g1,g2,_⟩:=E6.1 h1;have:=(BG _ g1).1 (by rw[g2,hri]);omega
      ·intro h;exact⟨i,E6.2 ⟨by omega,hri,hpl⟩,h⟩
     rw[hgb];rfl
    ·have hne:¬Lo bs pcs.length (cls (pcs.length+bs.length) r<|pcs.length+i)=true:=by
      unfold Lo;have hgb:gB bs pcs.length (cls (pcs.length+bs.length) r<|pcs.length+i)= []:=by
       unfold gB;rw[List.map_eq_nil_iff,List.filter_eq_nil_iff];intro x hx;rw[(hcl x).1 hx,Nat.add_sub_cancel_left];simp[hpl]
      rw[hgp,hgb];simp
     rw[aK hne,aK (by rw[iM]at hpl ⊢;rw[hpl];rfl)]
   ·have hri:¬r (pcs.length+i)=pcs.length+i:=λe=>by
     obtain⟨x,hxm⟩:=List.exists_mem_of_ne_nil _ hemp;obtain⟨p,hp1,hp2⟩:=(hto _<|cP (show i<(l6 bs pcs).length by omega)).2 x hxm;have h1:=hC.co p (pcs.length+i) ⟨i,_,htx,by rw[<-hp2];exact hxm,rfl⟩;have h2:=hC.le p (by omega);omega
    rw[aK hri,aK (by rw[cF hemp,Bool.and_false];exact wg)]
  refine Ym (P:=λst:Z bG=>st=n0 bs pcs.length (pcs.length+bs.length) r (cC (pcs.length+(i+1)) r)) (YW (λhb=>?_)<|λhb=>V_ ?_)<|λst hst=>YK ⟨bR (by omega),hst⟩
  ·refine Y2 (by simp only[dO,List.length_nil];omega)<|V_ ?_
   rw[hstep,aG hb]
  ·rw[hstep,aK (by rw[iM];exact hb)]
 ·rintro⟨G,ii⟩e hG;dsimp only at e hG ⊢;subst e;rw[pI,aR];exact YO hG
 intro o ho;refine YS ho ?_<|λr hr=>hr.elim
 rintro⟨G,ii⟩hG;dsimp only at hG ⊢;subst hG;have hGl:=hgl<|cC (pcs.length+bs.length) r
 have hhl:=mT (pcs.length+bs.length) r;generalize hGG:n0 bs pcs.length (pcs.length+bs.length) r (cC (pcs.length+bs.length) r)=G at *;refine Ym (Zc (n:=ls.length) (λst=>st.2) (λi st=>st.1=ik G (Fx bs pcs r) (ls.take i)) (Go:=λst=>st.1=ik G (Fx bs pcs r) ls) (Rt:=λ_=>False) ?_ ?_ (dH _) rfl ?_ (by omega)) ?_
 ·rintro i⟨W,ii⟩hi e hW;dsimp only at e hW ⊢;subst e;subst hW;rw[jT hi,aO];have hx:ls[i]? =some ls[i]:=aM hi;have hts:ls.take (i+1)=ls.take i++[ls[i]]:=dN hi;obtain⟨e1,e2⟩:=FI (N:=N) (r:=r) hb (by omega) hpr hd hC.le hC.rr (G:=ik G (Fx bs pcs r)<|ls.take i) (by rw[hGG];exact Cf _ _ _) ls[i] hN;refine Yx hx<|X_ e1 ?_
  refine Ym (P:=λst:Z bG=>st=ik G (Fx bs pcs r) (ls.take<|i+1)) ?_<|λst hst=>YK ⟨bR (by omega),hst⟩
  unfold MN
  cases hg:Fx bs pcs r ls[i]with
  |none=>
   dsimp only;rw[show decide ((-1:Int)>=0)=false by decide,aR];refine V_ ?_;rw[hts,Cc hg]
  |some g=>
   have hgW:=e2 g hg;have hWg:(ik G (Fx bs pcs r)<|ls.take i)[g]? =some (ik G (Fx bs pcs r)<|ls.take i)[g]:=aM hgW;dsimp only;rw[bS (by omega),aO];have hpl:(ik G (Fx bs pcs r)<|ls.take i)[g].aT.length<=ls.length:=by
    have:=hWg;rw[nj,tw]at this;obtain⟨y,_,hy⟩:=this;rw[<-hy];dsimp only;rw[dQ];have:=iW (λl=>decide<|Fx bs pcs r l=some g)<|ls.take i
    rw[cN]at this;omega
   refine Yx hWg<|Y2 (by simp only[dO,List.length_nil];omega)<|Yx hWg<|V_ ?_
   rw[dA,hts];exact D7 hg hWg
 ·rintro⟨W,ii⟩e hW;dsimp only at e hW ⊢;subst e;rw[pI,aR];exact YO (by rw[dK]at hW;exact hW)
 ·apply List.ext_getElem?;intro g;rw[nj]
  cases hGg:G[g]? with
  |none=>rfl
  |some x=>
   have hx0:x.aT= []:=by
    rw[<-hGG]at hGg;unfold n0 at hGg;rw[kg,tw]at hGg;obtain⟨hd',_,rfl⟩:=hGg;rfl
   simp only[Option.map_some,List.take_zero,List.filter_nil,List.map_nil,Option.some.injEq];rw[<-hx0]
 intro o ho;exact YS ho (λst hst=>V_ hst)<|λr hr=>hr.elim
end
section
variable {N:Nat}{a:lj}{oc:Z (Z aB)}{fU:Z (Z (Z aB))}{r:Nat->Nat}{gs:Z bG}{ofP ofB tZ:Z Int}{u9:Z ld}
def sI.D9(b:sI a oc fU r gs ofP ofB tZ u9):x8 a:=OM b.Eb.D9
def LO(b:sI a oc fU r gs ofP ofB tZ u9)(hN:4398046511104<=N):
  km N a=some (a.aP,a.dF,a.aZ,a.bW,(dJ 0 fU).map aL.dW,(dJ 0 fU).map aL.jw,gs,l6 a.aZ<|dJ 0 fU):=by
 refine Y9 ?_;have hc16:=b.Eb.zq.2;have hfew:=b.zq.2;have hbl:=b.Eb.gb.len;have hll:=b.D9.zq;unfold km;have hpl:∀k,(dJ 0<|fU.take k).length<=2000:=λk=>by
  grind [E4,List.length,List.take_append_drop]
 refine Ym (Zc (n:=a.aP.length) (λst=>st.2.2) (λi st=>st.1=(dJ 0<|fU.take i).map aL.dW/\st.2.1=(dJ 0<|fU.take i).map aL.jw) (Go:=λst=>st.1=(dJ 0 fU).map aL.dW/\st.2.1=(dJ 0 fU).map aL.jw) (Rt:=λ_=>False) ?_ ?_ (dH _) rfl ⟨rfl,rfl⟩ (by omega)) ?_
 ·rintro i⟨La,Re,ii⟩hi e⟨h1,h2⟩;dsimp only at e h1 h2 ⊢;subst e;subst h1;subst h2;rw[jT hi,aO];obtain⟨s,ps,u,hd,hp,L⟩:=FE b hi;have hcx:a.aP[i]? =some a.aP[i]:=aM hi;have hcs:=b.Eb.cs _<|cP hi
  have hip:=(bP.1 hp).1;have hts:dJ 0 (fU.take<|i+1)=dJ 0 (fU.take i)++ps.map (λp=>⟨((i:Nat):Int),p,bF p⟩):=by
   grind [dN,bP,yU,cN,Min.min]
  have hl1:=hpl i;have hl2:=hpl<|i+1
  rw[hts,dC,dQ]at hl2;refine X_ (AZ b.Eb.gb hcx hcs.1 hcs.2 L.dr hN)<|X_ (L.pieces hN) ?_
  rw[dQ]
  refine Ym (Zc (n:=ps.length) (λst=>st.2.2) (λj st=>st.1=(dJ 0 (fU.take i)).map aL.dW++(ps.take j).map (λ_=>((i:Nat):Int))/\st.2.1=(dJ 0 (fU.take i)).map aL.jw++(ps.take j).map bF)
   (Go:=λst=>st.1=(dJ 0 (fU.take (i+1))).map aL.dW/\st.2.1=(dJ 0 (fU.take (i+1))).map aL.jw) (Rt:=λ_=>False) ?_ ?_ (dH _) rfl ⟨by simp,by simp⟩ (by omega)) ?_
  ·rintro j⟨La,Re,jj⟩hj e⟨h1,h2⟩;dsimp only at e h1 h2 ⊢;subst e;subst h1;subst h2;rw[jT hj,aO];have hx:(ps.map bF)[j]? =some (bF ps[j]):=by grind
   refine Y2 ?_<|Yx hx<|Y2 ?_<|YK ⟨bR (by omega),?_,?_⟩
   ·grind
   ·grind
   all_goals grind [dN,kK]
  ·rintro⟨La,Re,jj⟩e⟨h1,h2⟩;dsimp only at e h1 h2 ⊢;subst e;subst h1;subst h2;rw[pI,aR];refine YO ⟨?_,?_⟩
   ·dsimp only;rw[hts,fX,List.map_map,dK];rfl
   ·dsimp only;rw[hts,fX,List.map_map,dK];rfl
  intro o ho;exact YS ho (λst hst=>YK ⟨bR (by omega),hst⟩)<|λr hr=>hr.elim
 ·rintro⟨La,Re,ii⟩e⟨h1,h2⟩;dsimp only at e h1 h2 ⊢;subst e;rw[pI,aR];rw[oe (by rw[b.dr.FY];exact cG _)]at h1 h2;exact YO ⟨h1,h2⟩
 intro o ho;refine YS ho ?_<|λr hr=>hr.elim
 rintro⟨La,Re,ii⟩⟨h1,h2⟩;dsimp only at h1 h2 ⊢;subst h1;subst h2;rw[dQ];have hpf:=λp hp=>Ef b (p:=p) hp;generalize hpcs:dJ 0 fU=pcs at *;refine Ym (Zc (n:=a.aZ.length) (λst=>st.2) (λi st=>st.1=l6 (a.aZ.take i) pcs) (Go:=λst=>st.1=l6 a.aZ pcs) (Rt:=λ_=>False) ?_ ?_ (dH _) rfl rfl (by omega)) ?_
 ·rintro i⟨T,ii⟩hi e hT;dsimp only at e hT ⊢;subst e;subst hT;rw[jT hi,aO];have hx:a.aZ[i]? =some a.aZ[i]:=aM hi;have hg:=b.Eb.gb.ok _<|cP hi
  have hsq:=SQ hg.1 hg.2;have hplain:¬a.aZ[i].il=true->rV (jg a.aZ[i]) pcs pcs.length= []:=λhp=>by
   unfold rV;rw[List.filter_eq_nil_iff];intro j _;rw[iM,Option.any_eq_false];intro p _;unfold jg;rw[iM]at hp;rw[hp];rfl
  refine Ym (Zl (Go:=λst=>st.1=ints (rV (jg a.aZ[i]) pcs pcs.length)) (Rt:=λ_=>False) (λst=>∃j:Nat,st.2=((j:Nat):Int)/\j<=pcs.length/\st.1=ints (rV (jg a.aZ[i]) pcs j)) (λst=>pcs.length - st.2.toNat) ?_ ⟨0,rfl,dH _,rfl⟩ (by simp;omega)) ?_
  ·rintro⟨ow,jj⟩⟨j,e,hj,ho⟩;dsimp only at e ho ⊢;subst e;subst ho
   by_cases hlt:j<pcs.length
   ·rw[jT hlt,aO,cK hx,aA,aA];refine YW (λhpl=>?_)<|λhpl=>YO ?_
    ·have hpx:pcs[j]? =some pcs[j]:=aM hlt;have hlx:(pcs.map aL.dW)[j]? =some pcs[j].dW:=by rw[kg,hpx];rfl
     have hrx:(pcs.map aL.jw)[j]? =some pcs[j].jw:=by rw[kg,hpx];rfl
     obtain⟨f1,f2,_⟩:=hpf _<|cP hlt
     have hil:=ET (jg a.aZ[i]) pcs j;have hcond:((some a.aZ[i]).bind λx932=>(idx (pcs.map aL.dW) ((j:Nat):Int)).bind λx935=>(fV N x932 x935).bind λx936=>bif x936 then((idx (pcs.map aL.jw) ((j:Nat):Int)).bind λx938=>(some a.aZ[i]).bind λx941=>(cX N x941).bind λx944=>(ku N x938 x944).bind λx946=>some x946)else some false)=some (jg a.aZ[i] pcs[j]):=by
      rw[aA,cK hlx,aA,y4,aA,cK hrx,aA,aA,rn hg.1,aA,R4 (by omega) (λq hq=>JR (f2 q hq).1 (f2 q hq).2.1 (f2 q hq).2.2) hsq hN,aA];unfold jg;rw[hpl,Bool.true_and]
      cases nZ a.aZ[i] pcs[j].dW <;> rfl
     refine X_ hcond ?_;refine Ym (P:=λst:Z Int=>st=ints (rV (jg a.aZ[i]) pcs<|j+1)) (YW (λhb=>?_)<|λhb=>V_ ?_)<|λst hst=>YK ⟨⟨j+1,bR (by omega),hlt,hst⟩,?_⟩
     ·refine Y2 (by rw[mz];simp only[dO,List.length_nil];omega)<|V_ ?_
      rw[CW hpx,aG hb,tW];rfl
     ·rw[CW hpx,aK (by rw[iM];exact hb)]
     ·dsimp only;rw[bR (by omega)];simp only[dA];omega
    ·have hn:=hplain (by rw[hpl];exact wg);have hj0:rV (jg a.aZ[i]) pcs j= []:=by
      unfold rV;rw[List.filter_eq_nil_iff];intro j' hj';rw[iM,Option.any_eq_false];intro p _;unfold jg;rw[hpl];rfl
     dsimp only;rw[hn,hj0]
   ·have:j=pcs.length:=by omega
    subst this;rw[pI,aR,aA,aR];exact YO rfl
  intro o ho;refine YS ho ?_<|λr hr=>hr.elim
  rintro⟨ow,jj⟩ho2;dsimp only at ho2 ⊢;subst ho2;refine Y2 ?_<|YK ⟨bR (by omega),?_⟩
  ·unfold l6;rw[dQ,cN];simp only[dO,List.length_nil];omega
  ·dsimp only;unfold l6;rw[dN hi,fX];rfl
 ·rintro⟨T,ii⟩e hT;dsimp only at e hT ⊢;subst e;rw[pI,aR];exact YO (by rw[dK]at hT;exact hT)
 intro o ho;refine YS ho ?_<|λr hr=>hr.elim
 rintro⟨T,ii⟩hT;dsimp only at hT ⊢;subst hT;have hcon:=b.QC;rw[hpcs]at hcon;have hnb:=λl=>NX b l;rw[hpcs]at hnb;refine X_ (OP (r:=r) b.Eb.gb (by omega) (by omega) (λp hp=>⟨by have:=(hpf p hp).1;omega,λx hx=>((hpf p hp).2.1 x hx).2.1⟩) hnb hcon.conn hN)<|V_ ?_
 rw[<-hcon.gs]
end
section
variable {N:Nat}{a:lj}{oc:Z (Z aB)}{fU:Z (Z (Z aB))}{r:Nat->Nat}{gs:Z bG}{ofP ofB tZ:Z Int}{u9:Z ld}
end
section
variable {N:Nat}
end
section
variable {bs:Z cL}{ls:Z eQ}{pcs:Z aL}{r:Nat->Nat}{gs:Z bG}{ofP ofB tZ:Z Int}{u9:Z ld}
def TB(hc:EV bs ls pcs r gs ofP ofB tZ u9){g:Nat}{x:bG}(hg:gs[g]? =some x):
  ∃hd,(live bs pcs.length (pcs.length+bs.length) r<|cC (pcs.length+bs.length) r)[g]? =some hd/\x.jQ=ints (gP pcs.length<|cls (pcs.length+bs.length) r hd)/\
   x.aZ=ints (gB bs pcs.length<|cls (pcs.length+bs.length) r hd)/\x.aT=(ls.filter<|λl=>decide<|Fx bs pcs r l=some g).map j8:=by
 rw[hc.gs,nj]at hg;obtain⟨y,hy,rfl⟩:=tw.1 hg;unfold n0 at hy;rw[kg]at hy;obtain⟨hd,h1,rfl⟩:=tw.1 hy;exact⟨hd,h1,rfl,rfl,rfl⟩
def MX(hc:EV bs ls pcs r gs ofP ofB tZ u9):gs.length=(live bs pcs.length (pcs.length+bs.length) r<|cC (pcs.length+bs.length) r).length/\gs.length<=pcs.length+bs.length:=by
 have e:gs.length=(live bs pcs.length (pcs.length+bs.length) r<|cC (pcs.length+bs.length) r).length:=by
  rw[hc.gs,yV,vP]
 refine⟨e,?_⟩;rw[e];have:=sH bs pcs.length (pcs.length+bs.length) r<|cC (pcs.length+bs.length) r
 have:=mT (pcs.length+bs.length) r;omega
def J6(hc:EV bs ls pcs r gs ofP ofB tZ u9){g:Nat}{x:bG}(hg:gs[g]? =some x):x.jQ.length<=pcs.length+bs.length/\x.aZ.length<=pcs.length+bs.length/\x.aT.length<=ls.length:=by
 obtain⟨hd,h1,h2,h3,h4⟩:=TB hc hg;have a1:=JT pcs.length<|cls (pcs.length+bs.length) r hd
 have a2:=JU bs pcs.length<|cls (pcs.length+bs.length) r hd
 have a3:=D1 (pcs.length+bs.length) r hd;rw[h2,h3,h4,mz,mz,dQ];have:=iW (λl=>decide<|Fx bs pcs r l=some g) ls;omega
end
section
variable {N:Nat}{a:lj}{oc:Z (Z aB)}{fU:Z (Z (Z aB))}{r:Nat->Nat}{gs:Z bG}{ofP ofB tZ:Z Int}{u9:Z ld}
end
section
variable {N:Nat}
end
section
variable {N:Nat}{a:lj}{oc:Z (Z aB)}{fU:Z (Z (Z aB))}{r:Nat->Nat}{gs:Z bG}{ofP ofB tZ:Z Int}{u9:Z ld}
def OQ(bs:Z cL)(ly:Z Int)(rs:Z (Z aJ))(G:Z bG)(l:eQ):ig N bs ly rs G l=eF N bs ly rs G l:=rfl
def MY(b:sI a oc fU r gs ofP ofB tZ u9)(l:eQ)(hN:4398046511104<=N):
  ig N a.aZ ((dJ 0 fU).map aL.dW) ((dJ 0 fU).map aL.jw) gs l=some (MN a.aZ (dJ 0 fU) r l):=by
 have hf:=b.zq.2;rw[OQ];exact(FI (N:=N) b.Eb.gb (by omega) (λp hp=>⟨by have:=(Ef b hp).1;omega,λx hx=>((Ef b hp).2.1 x hx).2.1⟩) (λl=>NX b l) b.QC.conn.le b.QC.conn.rr (G:=gs) (by rw[b.QC.gs];exact Cf _ _ _) l hN).1
def NY(x:eQ)(p:bC):j8 x=p↔x.Part=p.Part/\x.bC=p.bC:=by
 cases p;unfold j8;rw[bC.mk.injEq]
def LP{a:lj}(hl:a.bW.length<=1000000)(p:bC)(hN:4398046511104<=N):kx N a p=some (pF a p):=by
 refine Y9 ?_;unfold kx;refine Ym (Zc (n:=a.bW.length) (λs=>s) (λk _=>∀(j:Nat)x,j<k->a.bW[j]? =some x->decide (j8 x=p)=false) (Go:=λ_=>pF a p = -1) (Rt:=λr=>r=pF a p) ?_ ?_ (dH _) rfl (λj x hj=>by omega) (by omega)) ?_
 ·rintro k s hk e hI;subst e;rw[jT hk,aO];have hx:a.bW[k]? =some a.bW[k]:=aM hk;have hc:((idx a.bW ((k:Nat):Int)).bind λx99=>bif x99.Part.kj p.Part then((idx a.bW ((k:Nat):Int)).bind λx104=>some<|x104.bC.kj p.bC)else some false)=some (decide<|j8 a.bW[k]=p):=by
   rw[cK hx,aA,aA,nG,nG]
   by_cases h1:a.bW[k].Part=p.Part
   ·rw[bS h1,aO];congr 1;rw[fY,cZ,cZ,NY];exact⟨λh=>⟨h1,h⟩,λh=>h.2⟩
   ·rw[cF h1,aR,cF<|λh=>h1 ((NY _ _).1 h).1]
  refine X_ hc<|YW (λh=>Zg ?_)<|λh=>YK ⟨bR (by omega),λj x hj hjx=>?_⟩
  ·exact(GP hx h hI).symm
  ·by_cases e:j=k
   ·subst e;rw[hx]at hjx;injection hjx with hjx;rw[<-hjx];exact h
   ·exact hI j x (by omega) hjx
 ·rintro s e hI;subst e;rw[pI,aR];refine YO ?_;unfold pF;rw[DI];rw[List.any_eq_false];intro x hx;obtain⟨j,hj⟩:=dD hx;rw[hI j x (bP.1 hj).1 hj];exact wg
 intro o ho;exact YS ho (λs hs=>V_ hs.symm)<|λr hr=>V_ hr
def Jc(g:x8 a)(p:bC)(hN:4398046511104<=N):oU N a p=some (pF a p):=by
 obtain⟨r,h1,h2⟩:=LH (N:=N) (p:=p) g.up (by have:=g.zq;omega) (by omega) (φ:=kq N) (λx=>by unfold kq;rw[xU,aA,zp,aA]);unfold oU;have e:hZ N a.bW p (kq N)=Ii N a.bW p (kq N):=rfl;rw[e,h1,aA];exact h2
end
section
variable {N:Nat}
end
end Go.Gk
namespace Go.Gk
open Go IntKind
section
variable {N:Nat}
def y6(l:Z dM)(k:Nat):aV Int:=
 match l[k]? with
 |none=>none
 |some p=>if isWord p.Name=false then some 5 else if(decide (p.Kind<1)||decide (p.Kind>7))=true then some 4 else if(decide (p.bG<0)||decide (p.bG>200))=true then some 1 else if nU dM.Name l k=true then some 8 else none
def y7(p q:dM):Bool:=decide (p.bG>0)&&(q.bG==p.bG)&&(q.Kind != p.Kind)
def HO(l:Z dM)(k:Nat):aV Int:=
 match l[k]? with
 |none=>none
 |some p=>if(l.take k).any (y7 p)=true then some 12 else none
def mb(l:Z dM):Int:=if l.length=0 then 9 else if 200<l.length then 2 else((ov l.length<|y6 l).or<|ov l.length<|HO l).getD 0
def wE(t:Z aS)(k:Nat):aV Int:=
 match t[k]? with
 |none=>none
 |some x=>if isWord x.Name=false then some 5 else if mb x.aT≠0 then some (mb x.aT)else if nU aS.Name t k=true then some 8 else none
def checkTypes(t:Z aS):Int:=if 200<t.length then 2 else(ov t.length<|wE t).getD 0
def Eg{R β:Type}(o:aV R)(f:Unit->aV β)(g:R->aV β):(JA o ()).cs f g=o.elim (f ()) g:=by cases o <;> rfl
def x9(o:aV Int):(JA o ()).cs (λ_=>some (0:Int)) (λr=>some r)=some (o.getD 0):=by cases o <;> rfl
def getD_or(a b:aV Int):(a.elim (some<|b.getD 0) λr=>some r)=some ((a.or b).getD 0):=by cases a <;> rfl
def A0{l:Z dM}(h:bk l<=1048576):mW N l=some (mb l):=by
 have hlen:=kB l;unfold mW mb
 by_cases h0:l.length=0
 ·rw[aG h0,h0];rfl
 ·have e0:(((l.length:Nat):Int)==0)=false:=by rw[beq_eq_false_iff_ne];omega
  rw[aK h0,e0,aR]
  by_cases h1:200<l.length
  ·rw[aG h1,bS (by omega),aO]
  ·rw[aK h1,cF (by omega),aR]
   rw[kZ (y6 l) (by omega) (λk hk _=>by
    have hx:l[k]? =some l[k]:=aM hk;have hb:=Ai hx;rw[CH,yt]at hb;rw[cK hx,aA,pE (by omega),aA,Aj dM.Name hx (by omega)];unfold y6;rw[hx];dsimp only
    cases isWord l[k].Name
    ·rfl
    ·cases decide (l[k].Kind<1)||decide (l[k].Kind>7)
     ·cases decide (l[k].bG<0)||decide (l[k].bG>200)
      ·cases nU dM.Name l k <;> rfl
      ·rfl
     ·rfl),aA]
   rw[Eg]
   rw[kZ (HO l) (by omega) (λk hk _=>by
    have hx:l[k]? =some l[k]:=aM hk;rw[cK hx,aA,nT l k (by omega),aA]
    have e:=tj (l:=l.take k) (φ:=λy0=>iA N y0 l[k]) (y7 l[k]) (by rw[cN];omega) (λq _=>by
     unfold iA y7
     cases decide (l[k].bG>0)
     ·rfl
     ·cases q.bG==l[k].bG <;> rfl)
    have e2:jP N (l.take k) (λy0=>iA N y0 l[k])=tC (l.take k) (λy0=>iA N y0 l[k]):=rfl;rw[e2,e,aA];unfold HO;rw[hx];dsimp only
    cases(l.take k).any (y7 l[k]) <;> rfl),aA,x9]
   exact getD_or _ _
def zT{t:Z aS}(h:bk t<=1048576):me N t=some (checkTypes t):=by
 have hlen:=kB t;unfold me checkTypes
 by_cases h1:200<t.length
 ·rw[aG h1,bS (by omega),aO]
 ·rw[aK h1,cF (by omega),aR]
  rw[kZ (wE t) (by omega) (λk hk _=>by
   have hx:t[k]? =some t[k]:=aM hk;have hb:=Ai hx;rw[pX]at hb;have hb2:=yt t[k].Name;rw[cK hx,aA,pE (by omega),aA,A0 (by omega),aA,Aj aS.Name hx (by omega)];unfold wE;rw[hx];dsimp only
   cases isWord t[k].Name
   ·rfl
   ·by_cases hc:mb t[k].aT=0
    ·rw[hc];cases nU aS.Name t k <;> rfl
    ·have:(mb t[k].aT != 0)=true:=by rw[bne_iff_ne];exact hc
     rw[this];simp[hc,GK]),aA,x9]
def Cg(a b c:Int):gG N a b c=some (!(decide (a<b)||decide (a>c))):=by
 unfold gG;congr 1;rw[fY];simp
def E7{x:aS}(h:bk x<=1048576):jA N x=some (if isWord x.Name=false then 5 else mb x.aT):=by
 rw[pX]at h;have hs:=yt x.Name;have hlen:=kB x.aT;unfold jA;rw[w3 (by omega),aA]
 cases isWord x.Name
 ·rfl
 simp only[lT,aR,Bool.true_eq_false,if_false];unfold mb;generalize hl:x.aT=l at *
 by_cases h0:l.length=0
 ·rw[aG h0,h0];rfl
 ·have e0:(((l.length:Nat):Int)==0)=false:=by rw[beq_eq_false_iff_ne];omega
  rw[aK h0,e0,aR]
  by_cases h1:200<l.length
  ·rw[aG h1,bS (by omega),aO]
  ·rw[aK h1,cF (by omega),aR]
   rw[kZ (y6 l) (by omega) (λk hk _=>by
    have hx:l[k]? =some l[k]:=aM hk;have hb:=Ai hx;rw[CH,yt]at hb;rw[cK hx,aA,w3 (by omega),aA,Cg,aA,Cg,aA,Aj dM.Name hx (by omega)];unfold y6;rw[hx];dsimp only
    cases isWord l[k].Name
    ·rfl
    ·cases decide (l[k].Kind<1)||decide (l[k].Kind>7)
     ·cases decide (l[k].bG<0)||decide (l[k].bG>200)
      ·cases nU dM.Name l k <;> rfl
      ·rfl
     ·rfl),aA]
   rw[Eg]
   rw[kZ (HO l) (by omega) (λk hk _=>by
    have hx:l[k]? =some l[k]:=aM hk;rw[cK hx,aA,nT l k (by omega),aA]
    rw[DH (y7 l[k]) (12:Int) (by rw[cN];omega) (λj q hq=>by
     rw[cK hq,aA];have e:((decide (l[k].bG>0)&&(l[k].bG==q.bG))&&(l[k].Kind != q.Kind))=y7 l[k] q:=by
      unfold y7;rw[fY];simp;omega
     rw[e];cases y7 l[k] q <;> rfl),aA]
    unfold HO;rw[hx];dsimp only
    cases(l.take k).any (y7 l[k]) <;> rfl),aA,x9]
   exact getD_or _ _
def Eh{t:Z aS}(h:bk t<=1048576):ja N t=some (checkTypes t):=by
 have hlen:=kB t;unfold ja checkTypes
 by_cases h1:200<t.length
 ·rw[aG h1,bS (by omega),aO]
 ·rw[aK h1,cF (by omega),aR]
  rw[kZ (wE t) (by omega) (λk hk _=>by
   have hx:t[k]? =some t[k]:=aM hk;have hb:=Ai hx;rw[cK hx,aA,E7 (by omega),aA,Aj aS.Name hx (by omega)];unfold wE;rw[hx];dsimp only
   cases isWord t[k].Name
   ·rfl
   ·simp only[Bool.true_eq_false,if_false]
    by_cases hc:mb t[k].aT=0
    ·rw[hc];cases nU aS.Name t k <;> rfl
    ·have:(mb t[k].aT != 0)=true:=by rw[bne_iff_ne];exact hc
     rw[this];simp[hc,GK]),aA,x9]
structure J7 (t:Z aS):Prop where
 sorted:Sorted aS.Name t
 pins:∀x∈t,Sorted dM.Name x.aT
def Bz{e:Nat->aV Int}{m:Nat}(hz:∀k r,e k=some r->r≠0)(h:(ov m e).getD 0=0):∀k,k<m->e k=none:=by
 cases hx:ov m e with
 |none=>exact l9.1 hx
 |some r=>
  obtain⟨k,_,hk,_⟩:=lz.1 hx;rw[hx]at h;exact absurd h<|hz k r hk
def OR{l:Z dM}{k:Nat}{r:Int}(h:y6 l k=some r):r≠0:=by
 unfold y6 at h
 repeat' split at h
 all_goals first|(injection h with h;omega)|cases h
def J8{l:Z dM}(h:mb l=0):Sorted dM.Name l:=by
 unfold mb at h;split at h
 ·cases h
 split at h
 ·cases h
 refine tD λk hk=>?_
 cases hx:ov l.length (y6 l)with
 |some r=>
  obtain⟨j,_,hj,_⟩:=lz.1 hx;rw[hx]at h;exact absurd h<|OR hj
 |none=>
  have:=l9.1 hx k hk;unfold y6 at this;rw[aM hk]at this;dsimp only at this
  repeat' split at this
  all_goals first|(simp at this;done)|simp_all
def Ch{t:Z aS}(h:checkTypes t=0):J7 t:=by
 unfold checkTypes at h;split at h
 ·cases h
 have hz:∀k r,wE t k=some r->r≠0:=by
  intro k r hk;unfold wE at hk
  repeat' split at hk
  all_goals first|(injection hk with hk;subst hk;first|assumption|omega)|cases hk
 have hn:=Bz hz h;have key:∀k(hk:k<t.length),mb t[k].aT=0/\nU aS.Name t k=false:=by
  intro k hk;have:=hn k hk;unfold wE at this;rw[aM hk]at this;dsimp only at this
  repeat' split at this
  all_goals first|(simp at this;done)|simp_all
 refine⟨tD λk hk=>(key k hk).2,λx hx=>?_⟩;obtain⟨k,hk⟩:=dD hx;obtain⟨hlt,rfl⟩:=bP.1 hk;exact J8 (key k hlt).1
end
section
variable {N:Nat}
def E8{t:Z aS}{s:cD}(hs:Sorted aS.Name t)(ht:bk t<=1048576)(hN:4194304<=N):mf N t s=some (nat? aS.Name t s):=by
 have:=kB t;obtain⟨r,h1,h2⟩:=JE (N:=N) (key:=aS.Name) (l:=t) (s:=s) (φ:=lk N) (λx=>rfl) hs (by omega) hN;have e:fJ N t s (lk N)=Ii N t s (lk N):=rfl;unfold mf;rw[e,h1,aA];exact h2
def OS{l:Z Part}{s:cD}(hs:Sorted Part.Name l)(hl:l.length<=1048576)(hN:4194304<=N):pN N l s=some (nat? Part.Name l s):=by
 obtain⟨r,h1,h2⟩:=JE (N:=N) (key:=Part.Name) (l:=l) (s:=s) (φ:=ll N) (λx=>rfl) hs (by omega) hN;have e:gD N l s (ll N)=Ii N l s (ll N):=rfl;unfold pN;rw[e,h1,aA];exact h2
def QP{y:aS}{s:cD}(hs:Sorted dM.Name y.aT)(hl:y.aT.length<=1048576)(hN:4194304<=N):qV N y s=some (nat? dM.Name y.aT s):=by
 obtain⟨r,h1,h2⟩:=JE (N:=N) (key:=dM.Name) (l:=y.aT) (s:=s) (φ:=l7 N) (λx=>rfl) hs (by omega) hN;have e:fM N y.aT s (l7 N)=Ii N y.aT s (l7 N):=rfl;unfold qV;rw[e,h1,aA];exact h2
def Jd{t:Z aS}{s:cD}(hl:t.length<=1048576):kU N t s=some (nat? aS.Name t s):=by
 rw[<-GR (by omega)];rfl
def OT{l:Z Part}{s:cD}(hl:l.length<=1048576):m9 N l s=some (nat? Part.Name l s):=by
 rw[<-GR (by omega)];rfl
def QQ{y:aS}{s:cD}(hl:y.aT.length<=1048576):nE N y s=some (nat? dM.Name y.aT s):=by
 rw[<-GR (by omega)];rfl
def y8{α:Type}(key:α->cD)(l:Z α)(s:cD):(nat? key l s = -1/\∀x∈l,key x≠s)\/∃k x,nat? key l s=((k:Nat):Int)/\l[k]? =some x/\key x=s:=by
 rcases qD l (λx=>(key x).kj s)with⟨h1,h2⟩|⟨k,x,h1,h2,h3,_⟩
 ·exact .inl ⟨h1,λx hx=>u5.1<|h2 x hx⟩
 ·exact .inr ⟨k,x,h1,h2,rz.1 h3⟩
def R7{α:Type}(key:α->cD)(l:Z α)(s:cD):decide (nat? key l s>=0)=l.any (λx=>(key x).kj s):=GQ _ _
def sL(t:Z aS)(l:Z Part)(k:Nat):aV Int:=
 match l[k]? with
 |none=>none
 |some p=>if kE p.Name=false then some 5 else if nat? aS.Name t p.jR<0 then some 9 else if nU Part.Name l k=true then some 8 else none
def gZ(t:Z aS)(l:Z Part):Int:=if 1000<l.length then 2 else(ov l.length<|sL t l).getD 0
def HQ{R:Type}(a:Bool)(z:Int)(b:Bool)(f:Int->R):
  ((bif(!a)then some (.rt<|f 5)else(bif decide (z<0)then some (.rt<|f 9)else((some b).bind λs=>bif s then some (.rt<|f 8)else some (.nx ())))):aV (Fl Unit R)) =
  some (GK ((if a=false then some (5:Int)else if z<0 then some 9 else if b=true then some 8 else none).map f) ()):=by
 cases a
 ·rfl
 ·by_cases hz:z<0
  ·rw[bS hz];simp[GK,hz]
  ·rw[cF hz];cases b <;> simp[GK,hz]
def HR(o:aV Int):o.map (λx=>x)=o:=by cases o <;> rfl
def HS{t:Z aS}{l:Z Part}(hs:Sorted aS.Name t)(ht:bk t<=1048576)(hl:l.length<=1048576)(hln:∀p∈l,p.Name.cY.length<=2097152)(hN:4194304<=N):
  mg N t l (kR N)=some (gZ t l):=by
 unfold mg gZ
 by_cases h1:1000<l.length
 ·rw[aG h1,bS (by omega),aO]
 ·rw[aK h1,cF (by omega),aR]
  rw[kZ (sL t l) (by omega) (λk hk _=>by
   have hx:l[k]? =some l[k]:=aM hk;have hb:=hln _<|cP hk
   rw[cK hx,aA,sG (by omega) hN,aA,E8 hs ht hN,aA,Aj Part.Name hx (by omega)];refine(HQ _ _ _ (λx:Int=>x)).trans ?_
   rw[HR];unfold sL;rw[hx]),aA,x9]
def pw(t:Z aS)(l:Z Part)(p:bC):Bool:=
 match l.find? (λx=>x.Name.kj p.Part)with
 |none=>false
 |some x=>match t.find? (λy=>y.Name.kj x.jR)with
  |none=>false
  |some y=>y.aT.any (λq=>q.Name.kj p.bC)
def BA{α:Type}{l:Z α}{p:α->Bool}{k:Nat}{x:α}(hk:Kj l p=((k:Nat):Int))(hx:l[k]? =some x):l.find? p=some x:=by
 rcases qD l p with⟨h1,_⟩|⟨k',x',h1,h2,h3,h4⟩
 ·omega
 ·have:k'=k:=by omega
  subst this;rw[hx]at h2;injection h2 with h2;subst h2
  rw[List.find?_eq_some_iff_getElem];obtain⟨hlt,hxx⟩:=bP.1 hx;exact⟨h3,k',hlt,hxx,λj hj=>by rw[h4 j l[j] hj<|aM (by omega)];rfl⟩
def Je{α:Type}{l:Z α}{p:α->Bool}(hk:Kj l p = -1):l.find? p=none:=by
 rcases qD l p with⟨_,h⟩|⟨k',x',h1,_⟩
 ·rw[List.find?_eq_none];intro x hx;rw[h x hx];decide
 ·omega
def Typed(t:Z aS)(l:Z Part):Prop:=∀x∈l,0<=nat? aS.Name t x.jR
def FJ{t:Z aS}{l:Z Part}{p:bC}(htl:Typed t l){fp:aV Int}{ft:cD->aV Int}{fq:aS->aV Int}
  (h1:fp=some (nat? Part.Name l p.Part)) (h2:∀s,ft s=some (nat? aS.Name t s)) (h3:∀y∈t,fq y=some (nat? dM.Name y.aT p.bC)):
  (fp.bind λx2=>(bif decide (x2>=0)then((idx l x2).bind λx18=>(ft x18.jR).bind λx21=>(idx t x21).bind λL8=>(fq L8).bind λx25=>some<|decide<|x25>=0)else some false).bind λs16=>some s16)=some (pw t l p):=by
 rw[h1,aA];unfold pw
 rcases y8 Part.Name l p.Part with⟨h4,_⟩|⟨k,x,h4,h5,h6⟩
 ·rw[Je h4,h4];rfl
 ·rw[BA h4 h5,h4,bS (by omega),aO,cK h5,aA,h2,aA];dsimp only;have h7:=htl x<|dT h5
  rcases y8 aS.Name t x.jR with⟨h8,_⟩|⟨j,y,h8,h9,_⟩
  ·omega
  ·rw[BA h8 h9,h8,cK h9,aA,h3 y<|dT h9,aA,aA,R7]
def C0{t:Z aS}{l:Z Part}{p:bC}(ht:J7 t)(hl:Sorted Part.Name l)(htl:Typed t l)(hbt:bk t<=1048576)(hbl:l.length<=1048576)(hN:4194304<=N):
  r8 N t l p=some (pw t l p):=by
 exact FJ htl (OS hl (by omega) hN) (λs=>E8 ht.sorted hbt hN) (λy hy=>QP (ht.pins y hy) (by
  have h1:=wQ hy;rw[pX]at h1;have h2:=kB y.aT;omega) hN)
def It{t:Z aS}{x:cA}{p:bC}(htl:Typed t x.cR)(hbt:bk t<=1048576)(hbl:bk x<=1048576):na N t x p=some (pw t x.cR p):=by
 rw[yv]at hbl;have h1:=kB x.cR;have h2:=kB t
 exact FJ htl (OT (by omega)) (λs=>Jd (by omega)) (λy hy=>QQ (by
  have h1:=wQ hy;rw[pX]at h1;have h2:=kB y.aT;omega))
def kH(a b:bC):Bool:=a.Part.mH b.Part||(a.Part.kj b.Part&&a.bC.mH b.bC)
def vU(l:Z bC)(k:Nat):Bool:=match l[k]?,l[k - 1]? with|some p,some q=>decide (0<k)&& !kH q p|_,_=>false
def QR(a b:cD):0<Lib.compareBytes a.cY b.cY↔cD.lt b a:=by
 have h1:=ti a.cY b.cY;have h2:=mq a.cY b.cY
 rcases cD.vr a b with h|h|h
 ·have h3:=h1.2 h;exact⟨λh'=>by omega,λh'=>absurd h'<|cD.lt_asymm h⟩
 ·subst h;have h3:=h2.2 rfl;exact⟨λh'=>by omega,λh'=>absurd h'<|cD.lt_irrefl _⟩
 ·refine⟨λ_=>h,λ_=>?_⟩;have h3:¬Lib.compareBytes a.cY b.cY<0:=λh'=>cD.lt_asymm h<|h1.1 h'
  have h4:¬Lib.compareBytes a.cY b.cY=0:=λh'=>cD.Fi h (cD.ext'<|h2.1 h').symm;omega
def y9(a b:bC):Int:=if Lib.compareBytes a.Part.cY b.Part.cY=0 then Lib.compareBytes a.bC.cY b.bC.cY else Lib.compareBytes a.Part.cY b.Part.cY
def A1(a b:bC):eM N a b=some (y9 a b):=by
 show(bif Lib.compareBytes a.Part.cY b.Part.cY != 0 then some (Lib.compareBytes a.Part.cY b.Part.cY)else some (Lib.compareBytes a.bC.cY b.bC.cY))=_;unfold y9
 by_cases h:Lib.compareBytes a.Part.cY b.Part.cY=0
 ·rw[h];rfl
 ·have:(Lib.compareBytes a.Part.cY b.Part.cY != 0)=true:=by rw[bne_iff_ne];exact h
  rw[this,aK h];rfl
def Jf(a b:bC):decide (y9 a b<=0) = !kH b a:=by
 unfold y9 kH
 by_cases h:Lib.compareBytes a.Part.cY b.Part.cY=0
 ·have e:a.Part=b.Part:=cD.ext'<|(mq _ _).1 h
  have e2:b.Part.mH a.Part=false:=by rw[e,<-iM];exact cD.lt_irrefl _
  rw[aG h,e2,rz.2 e.symm,Bool.false_or,Bool.true_and];have:=QR a.bC b.bC;rw[fY,cZ,Bool.not_eq_true',<-iM];constructor
  ·intro h1 h2;have:=this.2 h2;omega
  ·intro h1
   by_cases h3:0<Lib.compareBytes a.bC.cY b.bC.cY
   ·exact absurd (this.1 h3) h1
   ·omega
 ·have e:b.Part≠a.Part:=λe=>h<|(mq _ _).2 (by rw[e])
  rw[aK h,u5.2 e,Bool.false_and,Bool.or_false];have:=QR a.Part b.Part;rw[fY,cZ,Bool.not_eq_true',<-iM];constructor
  ·intro h1 h2;have:=this.2 h2;omega
  ·intro h1
   by_cases h3:0<Lib.compareBytes a.Part.cY b.Part.cY
   ·exact absurd (this.1 h3) h1
   ·omega
def Jg{l:Z bC}{k:Nat}{x:bC}{f:bC->aV Bool}(hf:∀y,f y=some (!kH y x))(hx:l[k]? =some x)(hl:l.length<=1048576):
  (bif decide (((k:Nat):Int)>0)then(idx l<|wrap .i64<|((k:Nat):Int) - 1).bind f else some false)=some (vU l k):=by
 have hk:=(bP.1 hx).1;unfold vU
 by_cases h0:0<k
 ·rw[bS (by omega),aO,iv h0 (by omega),kN l _ (by omega),aA,hx,aM (by omega:k - 1<l.length),hf];simp[h0]
 ·have:k=0:=by omega
  subst this;rw[hx];simp
def za(l:Z Net)(p:bC):Bool:=l.any<|λn=>decide<|p∈n.aT
def zv(t:Z aS)(x:cA)(i:Nat)(l:Z bC)(k:Nat):aV Int:=
 match l[k]? with
 |none=>none
 |some p=>if pw t x.cR p=false then some 9 else if vU l k=true then some 8 else if za (x.bT.take i) p=true then some 7 else none
def zb(t:Z aS)(x:cA)(i:Nat):aV Int:=
 match x.bT[i]? with
 |none=>none
 |some n=>if kE n.Name=false then some 5 else if n.aT.length=0 then some 9 else if 500<n.aT.length then some 2 else
   (ov n.aT.length<|zv t x i n.aT).or (if 0<n.uj.length then some 3 else if nU Net.Name x.bT i=true then some 8 else none)
def ya(t:Z aS)(x:cA):Int:=if 1000<x.bT.length then 2 else(ov x.bT.length<|zb t x).getD 0
def iw(t:Z aS)(x:cA):Int:=
 if checkTypes t≠0 then checkTypes t else if gZ t x.cR≠0 then gZ t x.cR else ya t x
def C1{t:Z aS}{l:Z Part}{k:Nat}{r:Int}(h:sL t l k=some r):r≠0:=by
 unfold sL at h
 repeat' split at h
 all_goals first|(injection h with h;omega)|cases h
structure NZ (t:Z aS) (l:Z Part):Prop where
 sorted:Sorted Part.Name l
 typed:Typed t l
def w6{t:Z aS}{l:Z Part}(h:gZ t l=0):NZ t l:=by
 unfold gZ at h;split at h
 ·cases h
 have hn:=Bz (λk r hk=>C1 hk) h;have key:∀k(hk:k<l.length),0<=nat? aS.Name t l[k].jR/\nU Part.Name l k=false:=by
  intro k hk;have:=hn k hk;unfold sL at this;rw[aM hk]at this;dsimp only at this
  repeat' split at this
  all_goals first|(simp at this;done)|simp_all
 refine⟨tD λk hk=>(key k hk).2,λx hx=>?_⟩;obtain⟨k,hk⟩:=dD hx;obtain⟨hlt,rfl⟩:=bP.1 hk;exact(key k hlt).1
def LQ{t:Z aS}{x:cA}{i:Nat}{l:Z bC}{k:Nat}{r:Int}(h:zv t x i l k=some r):r≠0:=by
 unfold zv at h
 repeat' split at h
 all_goals first|(injection h with h;omega)|cases h
def F1{l:Z bC}{has:bC->aV Bool}{m:Z (bC×Bool)}(hB:bC->Bool)(hh:∀p∈l,has p=some (hB p))(hl:l.length<=1048576):
  kS N l has m=some (if 500<l.length then((2:Int),m)else
   (ov l.length (λk=>match l[k]? with
    |none=>none
    |some p=>if hB p=false then some (9:Int)else if vU l k=true then some 8 else if fP m p false=true then some 7 else none)).elim ((0:Int),rj m l true) (λr=>(r,m))):=by
 unfold kS
 by_cases h1:500<l.length
 ·rw[aG h1,bS (by omega),aO]
 ·rw[aK h1,cF (by omega),aR]
  rw[kZ (λk=>Option.map (λ(r:Int)=>(r,m)) (match l[k]? with
    |none=>none
    |some p=>if hB p=false then some (9:Int)else if vU l k=true then some 8 else if fP m p false=true then some 7 else none)) (by omega) (λk hk _=>by
   have hx:l[k]? =some l[k]:=aM hk;rw[cK hx,aA,hh _<|cP hk,aA,Jg (λy=>by rw[A1,aA,Jf]) hx hl,hx];dsimp only
   cases hB l[k]
   ·rfl
   ·cases vU l k
    ·cases fP m l[k] false <;> rfl
    ·rfl),aA,Eg,I0 true (by omega),aA]
  rw[<-P8];generalize ov l.length _=o
  cases o <;> rfl
def zc(x:cA)(i:Nat):Z (bC×Bool):=(x.bT.take i).foldl (λm n=>rj m n.aT true) []
def OU(l:Z Net)(p:bC):∀(m:Z (bC×Bool)),fP (l.foldl (λm n=>rj m n.aT true) m) p false=(za l p||fP m p false):=by
 induction l with
 |nil=>intro m;rfl
 |cons n l ih=>
  intro m;rw[List.foldl_cons,ih,yR];unfold za;rw[List.any_cons]
  by_cases h:p∈n.aT <;> simp[h]
def J9(x:cA)(i:Nat)(p:bC):fP (zc x i) p false=za (x.bT.take i) p:=by
 unfold zc;rw[OU];simp[fP]
def Ka{x:cA}{i:Nat}{n:Net}(h:x.bT[i]? =some n):zc x (i+1)=rj (zc x i) n.aT true:=by
 unfold zc;obtain⟨hlt,rfl⟩:=bP.1 h;rw[dN hlt,List.foldl_append];rfl
structure TC (x:cA):Prop where
 pl:x.cR.length<=1048576
 pn:∀p∈x.cR,p.Name.cY.length<=2097152
 nl:x.bT.length<=1048576
 nn:∀n∈x.bT,n.Name.cY.length<=2097152
 np:∀n∈x.bT,n.aT.length<=1048576
def Kb{x:cA}(h:bk x<=1048576):TC x:=by
 rw[yv]at h;have h1:=kB x.cR;have h2:=kB x.bT;refine⟨by omega,λp hp=>?_,by omega,λn hn=>?_,λn hn=>?_⟩
 ·have:=wQ hp;rw[JF]at this;have h3:=yt p.Name;omega
 ·have:=wQ hn;rw[GS,yt]at this;omega
 ·have:=wQ hn;rw[GS]at this;have h3:=kB n.aT;omega
def mG{t:Z aS}{x:cA}(hbt:bk t<=1048576)(hbx:TC x)(hN:4194304<=N):ln N t x=some (iw t x):=by
 have hpl:=hbx.pl;have hln:=hbx.nl;unfold ln iw;rw[zT hbt,aA]
 by_cases h1:checkTypes t≠0
 ·have e:(checkTypes t != 0)=true:=by rw[bne_iff_ne];exact h1
  rw[e,aO,aG h1]
 replace h1:=Decidable.not_not.1 h1
 have ht:=Ch h1;have e:(checkTypes t != 0)=false:=by rw[h1];rfl
 rw[e,aR,aK<|λh=>h h1,HS ht.sorted hbt hbx.pl hbx.pn hN,aA]
 by_cases h2:gZ t x.cR≠0
 ·have e:(gZ t x.cR != 0)=true:=by rw[bne_iff_ne];exact h2
  rw[e,aO,aG h2]
 replace h2:=Decidable.not_not.1 h2
 have hp:=w6 h2;have e:(gZ t x.cR != 0)=false:=by rw[h2];rfl
 rw[e,aR,aK<|λh=>h h2];unfold ya
 by_cases h3:1000<x.bT.length
 ·rw[aG h3,bS (by omega),aO]
 ·rw[aK h3,cF (by omega),aR]
  rw[NB (s:=([]:Z (bC×Bool))) (zc x) (zb t x) (by omega) rfl (λi hi _=>by
   have hx:x.bT[i]? =some x.bT[i]:=aM hi;have hb2:=hbx.nn _<|cP hi
   have hlp:=hbx.np _<|cP hi
   rw[Ka hx]
   rw[cK hx,aA,sG (by omega) hN,aA,F1 (pw t x.cR) (λp _=>by
    unfold mY
    rw[C0 ht hp.sorted hp.typed hbt hpl hN,aA]) (by omega),aA,Aj Net.Name hx (by omega)]
   unfold zb;rw[hx];dsimp only
   cases kE x.bT[i].Name
   ·rfl
   simp only[lT,aR,Bool.true_eq_false,if_false]
   by_cases h4:x.bT[i].aT.length=0
   ·rw[aG h4,h4];rfl
   have e4:(((x.bT[i].aT.length:Nat):Int)==0)=false:=by rw[beq_eq_false_iff_ne];omega
   rw[aK h4,e4,aR]
   by_cases h5:500<x.bT[i].aT.length
   ·rw[aG h5,aG h5];rfl
   rw[aK h5,aK h5]
   have e5:(ov x.bT[i].aT.length (λk=>match x.bT[i].aT[k]? with
    |none=>none
    |some p=>if pw t x.cR p=false then some (9:Int)else if vU x.bT[i].aT k=true then some 8 else if fP (zc x i) p false=true then some 7 else none))=ov x.bT[i].aT.length (zv t x i x.bT[i].aT):=by
    congr 1;funext k;unfold zv;split
    ·rfl
    ·rw[J9]
   rw[e5]
   cases h6:ov x.bT[i].aT.length (zv t x i x.bT[i].aT)with
   |some r=>
    obtain⟨j,_,hj,_⟩:=lz.1 h6;have e6:(r != 0)=true:=by rw[bne_iff_ne];exact LQ hj
    simp only[Option.elim_some,e6,aO];rfl
   |none=>
    simp only[Option.elim_none,bne_self_eq_false,aR,Option.none_or]
    by_cases h7:0<x.bT[i].uj.length
    ·rw[aG h7,bS (by omega)];rfl
    ·rw[aK h7,cF (by omega)]
     cases nU Net.Name x.bT i <;> rfl),aA]
  cases ov x.bT.length (zb t x) <;> rfl
def tY{t:Z aS}{x:cA}(hbt:bk t<=1048576)(hbx:bk x<=1048576)(hN:4194304<=N):ln N t x=some (iw t x):=mG hbt (Kb hbx) hN
def OV{l:Z Net}{p:bC}(hb:bk l<=1048576):kV N l p=some (za l p):=by
 have:=kB l;unfold kV
 rw[DH (λn=>decide (p∈n.aT)) true (by omega) (λk n hn=>by
  have hb2:=Ai hn;rw[GS]at hb2;have:=kB n.aT;have e:nF N n.aT p=ED n.aT p:=rfl;rw[cK hn,aA,e,JC (by omega),aA]
  cases decide (p∈n.aT) <;> rfl),aA]
 unfold za
 cases l.any _ <;> rfl
def E9{t:Z aS}{x:cA}(hbt:bk t<=1048576)(hbx:bk x<=1048576)(hN:4194304<=N):
  jC N t x=some (if gZ t x.cR≠0 then gZ t x.cR else ya t x):=by
 have hb:=yv x;have hln:=kB x.bT;have hlp:=kB x.cR;have hlt:=kB t;unfold jC
 by_cases h1:1000<x.cR.length
 ·have:gZ t x.cR=2:=by unfold gZ;rw[aG h1]
  rw[bS (by omega),aO,this];rfl
 rw[cF (by omega),aR]
 rw[kZ (sL t x.cR) (by omega) (λk hk _=>by
  have hx:x.cR[k]? =some x.cR[k]:=aM hk;have hb:=Ai hx;rw[JF]at hb;have hb2:=yt x.cR[k].Name;rw[cK hx,aA,Ca (by omega) hN,aA,Jd (by omega),aA,Aj Part.Name hx (by omega)];refine(HQ _ _ _ (λx:Int=>x)).trans ?_
  rw[HR];unfold sL;rw[hx]),aA,Eg]
 have hcp:gZ t x.cR=(ov x.cR.length<|sL t x.cR).getD 0:=by unfold gZ;rw[aK h1]
 cases h2:ov x.cR.length (sL t x.cR)with
 |some r=>
  obtain⟨j,_,hj,_⟩:=lz.1 h2;rw[h2]at hcp;simp only[Option.getD_some]at hcp;rw[hcp,aG<|C1 hj];rfl
 |none=>
  rw[h2]at hcp;simp only[Option.getD_none]at hcp;have hp:=w6 hcp;rw[hcp,aK<|λh=>h rfl];simp only[Option.elim_none];unfold ya
  by_cases h3:1000<x.bT.length
  ·rw[aG h3,bS (by omega),aO]
  ·rw[aK h3,cF (by omega),aR]
   rw[kZ (zb t x) (by omega) (λi hi _=>by
    have hx:x.bT[i]? =some x.bT[i]:=aM hi;have hb2:=Ai hx;rw[GS,yt]at hb2;have hlp:=kB x.bT[i].aT;rw[cK hx,aA,Ca (by omega) hN,aA,Aj Net.Name hx (by omega)];unfold zb;rw[hx];dsimp only
    cases kE x.bT[i].Name
    ·rfl
    simp only[lT,aR,Bool.true_eq_false,if_false]
    by_cases h4:x.bT[i].aT.length=0
    ·rw[aG h4,h4];rfl
    have e4:(((x.bT[i].aT.length:Nat):Int)==0)=false:=by rw[beq_eq_false_iff_ne];omega
    rw[aK h4,e4,aR]
    by_cases h5:500<x.bT[i].aT.length
    ·rw[aG h5,bS (by omega)];rfl
    rw[aK h5,cF (by omega),aR]
    rw[kZ (zv t x i x.bT[i].aT) (by omega) (λk hk _=>by
     have hy:x.bT[i].aT[k]? =some x.bT[i].aT[k]:=aM hk;rw[cK hy,aA,It hp.typed hbt hbx,aA,Jg (f:=λx522=>(nb N x522 x.bT[i].aT[k]).bind λx526=>some<|!x526) (λy=>rfl) hy (by omega),aA,nT _ i (by omega),aA,OV (by have:=NC x.bT i;omega),aA];unfold zv;rw[hy];dsimp only
     cases pw t x.cR x.bT[i].aT[k]
     ·rfl
     ·cases vU x.bT[i].aT k
      ·cases za (x.bT.take i) x.bT[i].aT[k] <;> rfl
      ·rfl),aA,Eg]
    cases ov x.bT[i].aT.length (zv t x i x.bT[i].aT)with
    |some r=>rfl
    |none=>
     simp only[Option.elim_none,Option.none_or]
     by_cases h7:0<x.bT[i].uj.length
     ·rw[aG h7,bS (by omega)];rfl
     ·rw[aK h7,cF (by omega)]
      cases nU Net.Name x.bT i <;> rfl),aA,x9]
def tu{t:Z aS}{x:cA}(hbt:bk t<=1048576)(hbx:bk x<=1048576)(hN:4194304<=N):jD N t x=some (iw t x):=by
 unfold jD iw;rw[Eh hbt,aA,E9 hbt hbx hN,aA]
 by_cases h1:checkTypes t=0
 ·rw[h1];rfl
 ·have e:(checkTypes t != 0)=true:=by rw[bne_iff_ne];exact h1
  rw[e,aG h1];rfl
end
section
variable {N:Nat}
structure sM (t:Z aS) (x:cA):Prop where
 types:J7 t
 parts:NZ t x.cR
 zq:x.cR.length<=1000
 Ei:x.bT.length<=1000
 zd:∀n∈x.bT,0<n.aT.length/\n.aT.length<=500
 V4:∀n∈x.bT,n.uj= []
 Yf:Sorted Net.Name x.bT
 path:∀n∈x.bT,kE n.Name=true
 XQ:∀p∈x.cR,kE p.Name=true
 Yg:∀n∈x.bT,∀p∈n.aT,pw t x.cR p=true
 XH:∀n∈x.bT,∀(i j:Nat)(p q:bC),i<j->n.aT[i]? =some p->n.aT[j]? =some q->kH p q=true
 once:∀(i j:Nat)(n m:Net)(p:bC),x.bT[i]? =some n->x.bT[j]? =some m->p∈n.aT->p∈m.aT->i=j
def ze(a:bC):kH a a=false:=by
 unfold kH;have h1:a.Part.mH a.Part=false:=by rw[<-iM];exact cD.lt_irrefl _
 have h2:a.bC.mH a.bC=false:=by rw[<-iM];exact cD.lt_irrefl _
 rw[h1,h2];simp
def wF{a b c:bC}(h1:kH a b=true)(h2:kH b c=true):kH a c=true:=by
 unfold kH at *;simp only[gT,dB,rz]at *
 rcases h1 with h1|⟨e1,h1⟩
 ·rcases h2 with h2|⟨e2,_⟩
  ·exact .inl<|cD.lt_trans h1 h2
  ·rw[<-e2];exact .inl h1
 ·rcases h2 with h2|⟨e2,h2⟩
  ·rw[e1];exact .inl h2
  ·exact .inr ⟨e1.trans e2,cD.lt_trans h1 h2⟩
def wG(a b:bC):kH a b=true\/a=b\/kH b a=true:=by
 unfold kH;simp only[gT,dB,rz]
 rcases cD.vr a.Part b.Part with h|h|h
 ·exact .inl<|.inl h
 ·rcases cD.vr a.bC b.bC with h'|h'|h'
  ·exact .inl<|.inr ⟨h,h'⟩
  ·refine .inr<|.inl ?_;cases a;cases b;simp_all
  ·exact .inr<|.inr<|.inr ⟨h.symm,h'⟩
 ·exact .inr<|.inr<|.inl h
def OW{l:Z bC}(h:∀k,k<l.length->vU l k=false):∀(i j:Nat)(p q:bC),i<j->l[i]? =some p->l[j]? =some q->kH p q=true:=by
 intro i j
 induction j with
 |zero=>intro p q hij;omega
 |succ j ih=>
  intro p q hij hp hq;have hj:=(bP.1 hq).1;have h1:=h (j+1) hj;unfold vU at h1;rw[hq,F2,aM (by omega:j<l.length)]at h1;simp at h1
  by_cases e:i=j
  ·subst e;rw[aM (by omega:i<l.length)]at hp;injection hp with hp;subst hp;exact h1
  ·exact wF (ih p l[j] (by omega) hp<|aM (by omega)) h1
def OX{t:Z aS}{x:cA}{k:Nat}{r:Int}(h:zb t x k=some r):r≠0:=by
 unfold zb at h;split at h
 ·cases h
 split at h
 ·injection h with h;omega
 split at h
 ·injection h with h;omega
 split at h
 ·injection h with h;omega
 cases hx:ov _ (zv t x k _)with
 |some r'=>
  rw[hx]at h;injection h with h
  subst h;obtain⟨j,_,hj,_⟩:=lz.1 hx;exact LQ hj
 |none=>
  rw[hx]at h;simp only[Option.none_or]at h;split at h
  ·injection h with h;omega
  split at h
  ·injection h with h;omega
  ·cases h
def uO{t:Z aS}{x:cA}(h:iw t x=0):sM t x:=by
 unfold iw at h
 by_cases h1:checkTypes t≠0
 ·rw[aG h1]at h;exact absurd h h1
 rw[aK h1]at h
 by_cases h2:gZ t x.cR≠0
 ·rw[aG h2]at h;exact absurd h h2
 rw[aK h2]at h
 replace h1:=Decidable.not_not.1 h1
 replace h2:=Decidable.not_not.1 h2
 unfold ya at h
 by_cases h3:1000<x.bT.length
 ·rw[aG h3]at h;cases h
 rw[aK h3]at h;have hn:=Bz (λk r hk=>OX hk) h;have key:∀i(hi:i<x.bT.length),kE x.bT[i].Name=true/\0<x.bT[i].aT.length/\x.bT[i].aT.length<=500/\x.bT[i].uj= []/\nU Net.Name x.bT i=false/\
   ∀k(hk:k<x.bT[i].aT.length),pw t x.cR x.bT[i].aT[k]=true/\vU x.bT[i].aT k=false/\za (x.bT.take i) x.bT[i].aT[k]=false:=by
  intro i hi;have h4:=hn i hi;unfold zb at h4;rw[aM hi]at h4;dsimp only at h4;split at h4
  ·cases h4
  split at h4
  ·cases h4
  split at h4
  ·cases h4
  cases h5:ov x.bT[i].aT.length (zv t x i x.bT[i].aT)with
  |some r=>rw[h5]at h4;cases h4
  |none=>
   rw[h5]at h4;simp only[Option.none_or]at h4;split at h4
   ·cases h4
   split at h4
   ·cases h4
   rename_i h6 h7 h8 h9 h10;refine⟨by simpa using h6,by omega,by omega,List.length_eq_zero_iff.1 (by omega),by simpa using h10,λk hk=>?_⟩;have h11:=l9.1 h5 k hk;unfold zv at h11;rw[aM hk]at h11;dsimp only at h11
   repeat' split at h11
   all_goals first|(simp at h11;done)|simp_all
 have hpe:∀k(hk:k<x.cR.length),kE x.cR[k].Name=true:=by
  intro k hk;have h5:=h2;unfold gZ at h5;split at h5
  ·cases h5
  have h4:=Bz (λk r hk=>C1 hk) h5 k hk;unfold sL at h4;rw[aM hk]at h4;dsimp only at h4;split at h4
  ·cases h4
  ·rename_i h6;simpa using h6
 have mem:∀n∈x.bT,∃i,∃hi:i<x.bT.length,n=x.bT[i]:=λn hn=>by
  obtain⟨i,hi⟩:=dD hn;obtain⟨hlt,rfl⟩:=bP.1 hi;exact⟨i,hlt,rfl⟩
 refine⟨Ch h1,w6 h2,?_,by omega,λn hn=>?_,λn hn=>?_,tD λi hi=>(key i hi).2.2.2.2.1,λn hn=>?_,λp hp=>?_,λn hn p hp=>?_,λn hn=>?_,?_⟩
 ·unfold gZ at h2;split at h2
  ·cases h2
  ·omega
 ·obtain⟨i,hi,rfl⟩:=mem n hn;exact⟨(key i hi).2.1,(key i hi).2.2.1⟩
 ·obtain⟨i,hi,rfl⟩:=mem n hn;exact(key i hi).2.2.2.1
 ·obtain⟨i,hi,rfl⟩:=mem n hn;exact(key i hi).1
 ·obtain⟨k,hk⟩:=dD hp;obtain⟨hlt,rfl⟩:=bP.1 hk;exact hpe k hlt
 ·obtain⟨i,hi,rfl⟩:=mem n hn;obtain⟨k,hk⟩:=dD hp;obtain⟨hlt,rfl⟩:=bP.1 hk;exact((key i hi).2.2.2.2.2 k hlt).1
 ·obtain⟨i,hi,rfl⟩:=mem n hn;exact OW λk hk=>((key i hi).2.2.2.2.2 k hk).2.1
 ·have one:∀(i j:Nat)(n m:Net)(p:bC),i<j->x.bT[i]? =some n->x.bT[j]? =some m->p∈n.aT->p∈m.aT->False:=by
   intro i j n m p hij hn hm hpn hpm;obtain⟨hj,rfl⟩:=bP.1 hm;obtain⟨k,hk⟩:=dD hpm;obtain⟨hlt,rfl⟩:=bP.1 hk;have h5:=((key j hj).2.2.2.2.2 k hlt).2.2;unfold za at h5;rw[List.any_eq_false]at h5;refine h5 n (dT (i:=i) (by rw[List.getElem?_take_of_lt hij];exact hn)) ?_;simpa using hpn
  intro i j n m p hn hm hpn hpm
  rcases Nat.lt_trichotomy i j with h5|h5|h5
  ·exact(one i j n m p h5 hn hm hpn hpm).elim
  ·exact h5
  ·exact(one j i m n p h5 hm hn hpm hpn).elim
def qL(x:cA)(p:bC):Int:=Kj x.bT<|λn=>decide<|p∈n.aT
def sN(x:cA)(i:Nat):Z (bC×Int):=(List.range i).foldl (λm k=>rj m ((x.bT[k]?.map Net.aT).getD []) ((k:Nat):Int)) []
def A2{x:cA}{i:Nat}{n:Net}(h:x.bT[i]? =some n):sN x (i+1)=rj (sN x i) n.aT ((i:Nat):Int):=by
 unfold sN;rw[List.range_succ,List.foldl_append,List.foldl_cons,List.foldl_nil,h];rfl
def LR{x:cA}(hb:TC x):qz N x=some (sN x x.bT.length):=by
 have:=hb.nl;unfold qz
 rw[DF (s:=([]:Z (bC×Int))) (sN x) (by omega) rfl (λk hk=>by
  have hx:x.bT[k]? =some x.bT[k]:=aM hk;have:=hb.np _<|cP hk
  rw[cK hx,aA,I0 _ (by omega),aA,A2 hx]),aA]
def FK{x:cA}{p:bC}:∀(i:Nat),i<=x.bT.length->k9 (sN x i) p=(x.bT.take i).any (λn=>decide<|p∈n.aT)
 | 0,_=>by simp[sN,k9]
 |i+1,h=>by
  have hx:x.bT[i]? =some x.bT[i]:=aM (by omega);rw[A2 hx,MF,FK i (by omega),dN (by omega),List.any_append];simp[Bool.or_comm]
def FL{x:cA}{p:bC}{j:Nat}(hj:∀k n,x.bT[k]? =some n->p∈n.aT->k=j)(z:Int):∀(i:Nat),i<=x.bT.length->fP (sN x i) p z=if(x.bT.take i).any (λn=>decide<|p∈n.aT)=true then((j:Nat):Int)else z
 | 0,_=>by simp[sN,fP]
 |i+1,h=>by
  have hx:x.bT[i]? =some x.bT[i]:=aM (by omega);rw[A2 hx,yR,FL hj z i (by omega),dN (by omega),List.any_append]
  by_cases hp:p∈x.bT[i].aT
  ·have hji:=hj i _ hx hp;rw[aG hp,aG (by simp[hp])];omega
  ·rw[aK hp];simp[hp]
def Fa{t:Z aS}{x:cA}(h:sM t x)(p:bC):
  k9 (sN x x.bT.length) p=decide (qL x p>=0)/\(0<=qL x p->∀z,fP (sN x x.bT.length) p z=qL x p):=by
 have e:k9 (sN x x.bT.length) p=x.bT.any (λn=>decide<|p∈n.aT):=by rw[FK _<|cG _,dK]
 unfold qL;refine⟨by rw[e,GQ],λh0 z=>?_⟩
 rcases qD x.bT (λn=>decide<|p∈n.aT)with⟨h1,_⟩|⟨k,n,h1,h2,h3,_⟩
 ·rw[h1]at h0;omega
 ·have h3':p∈n.aT:=by simpa using h3
  rw[FL (j:=k) (λi m hm hp=>h.once i k m n p hm h2 hp h3') z _<|cG _,dK,h1,aG];exact iN.2 ⟨n,dT h2,h3⟩
def uP(t:Z aS)(p:Part):aS:=(t.find?<|λy=>y.Name.kj p.jR).getD default
def sO(t:Z aS)(p:Part):Z bC:=(uP t p).aT.map<|λy=>⟨p.Name,y.Name⟩
def ki(t:Z aS)(x:cA):Z bC:=x.cR.flatMap λp=>(sO t p).filter<|λq=>decide<|qL x q<0
def C2{t:Z aS}{p:Part}(h:0<=nat? aS.Name t p.jR):∃k:Nat,nat? aS.Name t p.jR=((k:Nat):Int)/\t[k]? =some (uP t p):=by
 rcases y8 aS.Name t p.jR with⟨h1,_⟩|⟨k,y,h1,h2,_⟩
 ·omega
 ·refine⟨k,h1,?_⟩;unfold uP;rw[BA h1 h2];exact h2
def HT{α β:Type}{l:Z α}{body:Nat->Z β->aV (Z β)}{s0:Z β}(f:α->Z β)(hl:l.length<=4611686018427387904)
  (h:∀k y,l[k]? =some y->body k (s0++(l.take k).flatMap f)=some (s0++(l.take k).flatMap f++f y)):mc l.length body s0=some (s0++l.flatMap f):=by
 rw[DF (s:=s0) (λk=>s0++(l.take k).flatMap f) hl (by simp) (λk hk=>by
  rw[h k l[k] (aM hk),dN hk,List.flatMap_append,kK];simp),dK]
def nr{α β:Type}(f:α->Z β)(b:Nat):∀(l:Z α),(∀x∈l,(f x).length<=b)->(l.flatMap f).length<=l.length*b
 | [],_=>by simp
 |x::l,h=>by
  have h1:=h x (by simp);have h2:=nr f b l<|λy hy=>h y (by simp[hy])
  rw[List.flatMap_cons,dC,dO,Nat.succ_mul];omega
def jN{α β:Type}(f:α->Z β)(b:Nat)(l:Z α)(k:Nat)(h:∀x∈l,(f x).length<=b):((l.take k).flatMap f).length<=l.length*b:=
 lh (nr f b _<|λx hx=>h x<|List.mem_of_mem_take hx) (Nat.mul_le_mul_right b (by rw[cN];omega))
def zf{t:Z aS}{p:Part}(hbt:bk t<=1048576)(h:0<=nat? aS.Name t p.jR):(uP t p).aT.length<=1048576:=by
 obtain⟨k,_,h2⟩:=C2 h;have h3:=Ai h2;rw[pX]at h3;have:=kB (uP t p).aT;omega
def OY{t:Z aS}{p:Part}(hs:Sorted aS.Name t)(hbt:bk t<=1048576)(h:0<=nat? aS.Name t p.jR)(hN:4194304<=N):pQ N t p=some (sO t p):=by
 have hl:=zf hbt h;obtain⟨k,h1,h2⟩:=C2 h;unfold pQ;rw[E8 hs hbt hN,aA,h1,cK h2,aA]
 rw[HT (s0:=([]:Z bC)) (λ(y:dM)=>[(⟨p.Name,y.Name⟩:bC)]) (by omega) (λk y hy=>by
  have:=jN (λ(y:dM)=>[(⟨p.Name,y.Name⟩:bC)]) 1 (uP t p).aT k (λ_ _=>by simp)
  rw[cK hy,aA,j6 (by simp only[List.nil_append,dO,List.length_nil]at this ⊢;omega),aA]),aA]
 unfold sO;congr 1;rw[List.nil_append]
 induction (uP t p).aT with
 |nil=>rfl
 |cons a l ih=>rw[List.flatMap_cons,ih];rfl
def FM{t:Z aS}{x:cA}(hbt:bk t<=1048576)(ok:sM t x){f:Part->Z bC}(hf:∀p∈x.cR,(f p).length<=(uP t p).aT.length)(k:Nat):((x.cR.take k).flatMap f).length<=1048576000:=by
 have:=jN f 1048576 x.cR k<|λp hp=>lh (hf p hp)<|zf hbt<|ok.parts.typed p hp
 have:=ok.zq;have:x.cR.length*1048576<=1000*1048576:=Nat.mul_le_mul_right _ ok.zq;omega
def LS{α:Type}(p:α->Bool)(l:Z α):l.flatMap (λy=>if p y=true then [y]else [])=l.filter p:=by
 induction l with
 |nil=>rfl
 |cons a l ih=>rw[List.flatMap_cons,ih,List.filter_cons];cases p a <;> simp
def LU{t:Z aS}{x:cA}(hbt:bk t<=1048576)(hbx:TC x)(ok:sM t x)(hN:4194304<=N):oG N t x=some (ki t x):=by
 have hlp:=hbx.pl;unfold oG ki;rw[LR hbx,aA]
 rw[HT (s0:=([]:Z bC)) (λ(p:Part)=>(sO t p).filter (λq=>decide (qL x q<0))) (by omega) (λk p hp=>by
  have hm:=dT hp;have hty:=ok.parts.typed p hm;have hpl:(sO t p).length<=1048576:=by unfold sO;rw[dQ];exact zf hbt hty
  have hlen:=FM hbt ok (f:=λ(p:Part)=>(sO t p).filter<|λq=>decide<|qL x q<0) (λp _=>lh (iW _ _) (by unfold sO;rw[dQ];exact cG _)) k;rw[cK hp,aA,OY ok.types.sorted hbt hty hN,aA];rw[List.nil_append]
  rw[HT (s0:=(x.cR.take k).flatMap λ(p:Part)=>(sO t p).filter (λq=>decide (qL x q<0))) (λq=>if decide (qL x q<0)=true then [q]else []) (by omega) (λj q hq=>by
   rw[cK hq,aA,(Fa ok q).1];have e:(!decide (qL x q>=0))=decide (qL x q<0):=by rw[<-decide_not];congr 1;rw[eq_iff_iff];omega
   rw[e];have h2:=jN (λq=>if decide (qL x q<0)=true then [q]else []) 1 (sO t p) j (λq _=>by split <;> simp)
   cases decide (qL x q<0)
   ·simp
   ·rw[aO,j6 (by simp only[dC,dO,List.length_nil];omega)];rfl),aA,LS]),aA,List.nil_append]
def MZ(t:Z aS)(x:cA):Z bC×Int:=if iw t x≠0 then([],iw t x)else(ki t x,0)
def M1{t:Z aS}{x:cA}(hbt:bk t<=1048576):(MZ t x).1.length<=1048576000:=by
 unfold MZ
 by_cases h1:iw t x≠0
 ·rw[aG h1];simp
 rw[aK h1];have ok:=uO<|Decidable.not_not.1 h1
 have:=FM hbt ok (f:=λ(p:Part)=>(sO t p).filter<|λq=>decide<|qL x q<0) (λp _=>lh (iW _ _) (by unfold sO;rw[dQ];exact cG _)) x.cR.length;rwa[dK]at this
end
section
variable {N:Nat}
section
variable {α:Type}
def C3{key:α->cD}{l:Z α}:Sorted key l↔l.Pairwise (λa b=>cD.lt (key a)<|key b):=by
 rw[og];constructor
 ·intro h i j hi hj hij;exact h i j _ _ hij (aM hi)<|aM hj
 ·intro h i j x y hij hx hy;obtain⟨hi,rfl⟩:=bP.1 hx;obtain⟨hj,rfl⟩:=bP.1 hy;exact h i j hi hj hij
def Sorted.nU{key:α->cD}{l:Z α}(h:Sorted key l){k:Nat}(hk:k<l.length):Gk.nU key l k=false:=by
 unfold Gk.nU;rw[aM hk,aM (by omega:k - 1<l.length)];dsimp only
 by_cases h0:0<k
 ·rw[F8.2<|h (k - 1) k _ _ (by omega) (aM (by omega))<|aM hk];simp
 ·rw[cF h0];simp
end
section
variable {α:Type}
end
end
section
variable {N:Nat}
end
section
variable {N:Nat}
def wH{a b:bC}(h:kH a b=true):kH b a=false:=by
 cases h2:kH b a with
 |false=>rfl
 |true=>have:=wF h h2;rw[ze]at this;cases this
def A3{a b:bC}:y9 a b=0↔a=b:=by
 unfold y9;constructor
 ·intro h;split at h
  ·rename_i h1;have e1:=cD.ext'<|(mq _ _).1 h1
   have e2:=cD.ext'<|(mq _ _).1 h
   obtain⟨a1,a2⟩:=a;obtain⟨b1,b2⟩:=b;simp only at e1 e2;rw[e1,e2]
  ·rename_i h1;exact absurd h h1
 ·intro h;subst h;rw[aG<|(mq _ _).2 rfl];exact(mq _ _).2 rfl
def C4{a b:bC}:y9 a b<0↔kH a b=true:=by
 have h:=Jf a b;constructor
 ·intro h1;rw[bS (by omega)]at h
  rcases wG a b with h2|h2|h2
  ·exact h2
  ·rw[A3.2 h2]at h1;omega
  ·rw[h2]at h;cases h
 ·intro h1;have h2:=wH h1;rw[h2,qp,cZ]at h;have:y9 a b≠0:=λe=>by rw[A3]at e;subst e;rw[ze]at h1;cases h1
  omega
def sP(l:Z bC):Prop:=l.Pairwise<|λa b=>kH b a=false
def OZ{l m:Z bC}(hl:sP l)(hm:sP m)(hp:l.Perm m):l=m:=
 List.Perm.eq_of_pairwise (le:=λa b=>kH b a=false) (λa b _ _ h h'=>by
  rcases wG a b with h2|h2|h2
  ·rw[h2]at h';cases h'
  ·exact h2
  ·rw[h2]at h;cases h) hl hm hp
def ug{a b c:bC}(h1:kH b a=false)(h2:kH c b=false):kH c a=false:=by
 cases h:kH c a with
 |false=>rfl
 |true=>
  rcases wG a b with h3|h3|h3
  ·rw[wF h h3]at h2;cases h2
  ·subst h3;rw[h]at h2;cases h2
  ·rw[h3]at h1;cases h1
def rp(l:Z bC):Z bC:=l.mergeSort<|λa b=> !kH b a
def HU(l:Z bC):(rp l).Perm l:=List.mergeSort_perm _ _
def QT(l:Z bC):sP (rp l):=by
 have:=List.pairwise_mergeSort (le:=λa b:bC=> !kH b a) (λa b c h1 h2=>by
  simp only[Bool.not_eq_true']at h1 h2 ⊢;exact ug h1 h2) (λa b=>by
  rcases wG a b with h|h|h
  ·rw[wH h];rfl
  ·subst h;rw[ze];rfl
  ·rw[wH h];simp) l
 exact this.imp λh=>by simpa using h
def LV{l m:Z bC}(hp:m.Perm l)(hm:sP m):m=rp l:=OZ hm (QT l)<|hp.trans (HU l).symm
def M3{l:Z bC}(hl:l.length<4611686018427387904):z8 (eM N) l=some (rp l):=by
 obtain⟨m,h1,h2,h3⟩:=DV (φ:=eM N) (l:=l) y9 (λa _ b _=>A1 a b) (λa _=>by rw[A3.2 rfl];decide)
  (λa _ b _ c _ h1 h2=>by rw[C4]at *;exact wF h1 h2) (λa _ b _ c _ h1 h2=>by
   rw[C4,iM]at *;exact ug h2 h1) hl
 rw[h1,LV h2 (h3.imp λh=>by rw[C4,iM]at h;exact h)]
end
section
variable {N:Nat}
end
section
variable {N:Nat}
def Kc{α:Type}(L:Z (Z α))(k:Nat):(L.take k).flatten.length<=L.flatten.length:=by
 conv=>rhs;rw[<-List.take_append_drop k L,List.flatten_append,dC]
 omega
def QU{n:Nat}(hn:n<=1048576):lK N ((n:Nat):Int)=some []:=by
 unfold lK;rw[cF (by omega),aR];have e1:wrap .i64 (((n:Nat):Int) -(wrap .i64<|((0:Nat):Int) -((0:Nat):Int)))=((n:Nat):Int):=by
  have:wrap .i64 (((0:Nat):Int) -((0:Nat):Int))=0:=by rw[fC (by omega) (by omega)];rfl
  rw[this,fC (by omega) (by omega)];omega
 rw[e1]
 by_cases h:0<n
 ·rw[bS (by omega),aO];have:Po 32 (⟨⟨[]⟩,⟨[]⟩⟩:bC) ((n:Nat):Int)=some (List.replicate n ⟨⟨[]⟩,⟨[]⟩⟩):=by
   unfold Po;rw[aG (by omega)];rfl
  rw[this,aA,nT _ _ (by omega),aA,aA];rfl
 ·rw[cF (by omega),aR,aA]
def M4{L:Z (Z bC)}(h1:L.length<=1048576)(h2:L.flatten.length<=1048576):m7 N L=some L.flatten:=by
 unfold m7;have hlen:∀k,k<=L.length->(L.take k).flatten.length<=1048576:=λk _=>lh (Kc L k) h2
 rw[DF (s:=(0:Int)) (λk=>(((L.take k).flatten.length:Nat):Int)) (by omega) rfl (λk hk=>by
  have hx:L[k]? =some L[k]:=aM hk;have h3:=hlen (k+1) hk;rw[dN hk,List.flatten_append,dC,List.flatten_singleton]at h3;rw[cK hx,aA,dN hk,List.flatten_append,dC,List.flatten_singleton];have e:wrap .i64 ((((L.take k).flatten.length:Nat):Int)+((L[k].length:Nat):Int))=(((L.take k).flatten.length+L[k].length:Nat):Int):=by rw[fC (by omega) (by omega)];omega
  rw[e,cF (by omega),aR]),aA,dK,QU h2,aA]
 rw[DF (s:=([]:Z bC)) (λk=>(L.take k).flatten) (by omega) rfl (λk hk=>by
  have hx:L[k]? =some L[k]:=aM hk;have h3:=hlen (k+1) hk;rw[dN hk,List.flatten_append,dC,List.flatten_singleton]at h3
  rw[cK hx,aA,j6 (by omega),aA,dN hk,List.flatten_append,List.flatten_singleton]),aA,dK]
end
end Go.Gk
namespace Go.Gk
open Go IntKind Classical
section
variable {α β γ:Type}{Q:β->Prop}
def ZF{b:Nat}{l:Z α}{y:α}{c:Bool}{f:Z α->aV β}(h:(l.length+1)*b<=140737488355328)(k:Ok (f (l++if c=true then [y]else [])) Q):
  Ok ((bif c then(Go.Gk.app b l [y]).bind (λx=>some x)else some l).bind f) Q:=by
 cases c with
 |true=>rw[aO,j6 (by simpa using h)];exact k
 |false=>rw[aR];simpa using k
def gC{l:Z α}{k:Nat}(hk:k<l.length)(q:α->Bool):(l.take<|k+1).filter q=(l.take k).filter q++if q l[k]=true then [l[k]]else []:=by
 rw[dN hk,List.filter_append];congr 1
 cases h:q l[k] <;> simp[h]
def lD{l:Z α}{k:Nat}(hk:k<l.length)(f:α->Z γ):(l.take<|k+1).flatMap f=(l.take k).flatMap f++f l[k]:=by
 rw[dN hk,List.flatMap_append];simp
end
def uQ(ns:Z Int)(g:Int):aV Nat:=if g<0 then none else ns.findIdx? (λz=>decide<|z=g)
def sQ(lg:bC->aV Int)(s:Z (Z bC)×Z Int)(p:bC):Z (Z bC)×Z Int:=
 match lg p with
 |none=>s
 |some g=>match uQ s.2 g with
  |none=>(s.1++[[p]],s.2++[g])
  |some i=>(s.1.set i ((s.1[i]?).getD []++[p]),s.2)
def zw(lg:bC->aV Int)(ps:Z bC):Z (Z bC)×Z Int:=ps.foldl (sQ lg) ([],[])
def TD(lg:bC->aV Int)(ps:Z bC):Z bC:=if(zw lg ps).1.length<2 then []else(zw lg ps).1.flatten
def Jh{lg:bC->aV Int}{s:Z (Z bC)×Z Int}{p:bC}(h:lg p=none):sQ lg s p=s:=by unfold sQ;rw[h]
def HV{lg:bC->aV Int}{s:Z (Z bC)×Z Int}{p:bC}{g:Int}(h:lg p=some g)(ha:uQ s.2 g=none):sQ lg s p=(s.1++[[p]],s.2++[g]):=by
 unfold sQ;rw[h];simp only[ha]
def HW{lg:bC->aV Int}{s:Z (Z bC)×Z Int}{p:bC}{g:Int}{i:Nat}(h:lg p=some g)(ha:uQ s.2 g=some i):sQ lg s p=(s.1.set i<|(s.1[i]?).getD []++[p],s.2):=by
 unfold sQ;rw[h];simp only[ha]
def yb{ns:Z Int}{g:Int}{i:Nat}(h:uQ ns g=some i):0<=g/\ns[i]? =some g:=by
 unfold uQ at h;split at h
 ·cases h
 ·rw[List.findIdx?_eq_some_iff_getElem]at h;obtain⟨hi,hp,_⟩:=h;exact⟨by omega,by rw[aM hi];simpa using hp⟩
def Fb{ns:Z Int}{g:Int}(h:uQ ns g=none):g<0\/g∉ns:=by
 unfold uQ at h;split at h
 ·left;assumption
 ·right;rw[List.findIdx?_eq_none_iff]at h;intro hm;have:=h g hm;simp at this
def O0{ns:Z Int}{g z:Int}(hn:g<0\/z<0\/z≠g\/uQ ns g≠none):uQ (ns++[z]) g=uQ ns g:=by
 unfold uQ at *;split
 ·rfl
 ·rename_i hg;rw[List.findIdx?_append];rw[aK hg]at hn
  cases hf:ns.findIdx? (λz=>decide<|z=g)with
  |some i=>rfl
  |none=>
   rw[hf]at hn;have:z≠g:=by
    rcases hn with h|h|h|h
    ·omega
    ·omega
    ·exact h
    ·exact absurd rfl h
   simp[this]
def O1{ns:Z Int}{g:Int}(hg:0<=g)(h:uQ ns g=none):uQ (ns++[g]) g=some ns.length:=by
 unfold uQ at *;rw[aK (by omega)]at h ⊢;rw[List.findIdx?_append,h];simp
def Ej(lg:bC->aV Int){ps:Z bC}{k:Nat}(hk:k<ps.length):zw lg (ps.take<|k+1)=sQ lg (zw lg<|ps.take k) ps[k]:=by
 unfold zw;rw[dN hk,List.foldl_append];rfl
structure Pc (k:Nat) (gs:Z (Z bC)) (ns:Z Int) (m:Z (Int×Int)):Prop where
 len:gs.length=ns.length
 le:gs.length<=k
 each:∀l∈gs,l.length<=k
 has:∀g,0<=g->k9 m g=decide (g∈ns)
 get:∀g(i:Nat),uQ ns g=some i->fP m g 0=((i:Nat):Int)
def Pc.up{k:Nat}{gs:Z (Z bC)}{ns:Z Int}{m:Z (Int×Int)}(h:Pc k gs ns m):Pc (k+1) gs ns m:=
 ⟨h.len,Nat.le_succ_of_le h.le,λl hl=>Nat.le_succ_of_le<|h.each l hl,h.has,h.get⟩
def Pc.new{k:Nat}{gs:Z (Z bC)}{ns:Z Int}{m:Z (Int×Int)}{g:Int}{p:bC}(h:Pc k gs ns m)(hn:uQ ns g=none):Pc (k+1) (gs++[[p]]) (ns++[g]) (pM m g ((gs.length:Nat):Int))where
 len:=by simp[h.len]
 le:=by have:=h.le;simp;omega
 each:=λl hl=>by
  rcases dP.1 hl with hl|hl
  ·exact Nat.le_succ_of_le<|h.each l hl
  ·simp at hl;subst hl;simp
 has:=λg' hg'=>by
  rw[EK,h.has g' hg',fY];simp[or_comm]
 get:=λg' i hi=>by
  rw[xN]
  by_cases e:g'=g
  ·subst e;have h0:=(yb hi).1;rw[O1 h0 hn]at hi;injection hi with hi
   rw[aG rfl,<-hi,h.len]
  ·rw[aK e];rw[O0<|.inr<|.inr<|.inl λh=>e h.symm]at hi;exact h.get g' i hi
def Pc.put{k i:Nat}{gs:Z (Z bC)}{ns:Z Int}{m:Z (Int×Int)}{g:Int}{l:Z bC}{p:bC}(h:Pc k gs ns m)(hl:gs[i]? =some l):Pc (k+1) (gs.set i<|l++[p]) ns m where
 len:=by rw[jV];exact h.len
 le:=by rw[jV];have:=h.le;omega
 each:=λl' hl'=>by
  rcases List.mem_or_eq_of_mem_set hl' with h'|h'
  ·exact Nat.le_succ_of_le<|h.each l' h'
  ·subst h';have:=h.each l<|dT hl
   simp;omega
 has:=h.has
 get:=h.get
def QV{α:Type}(l:Z α)(x y:α):(l++[x]).set l.length y=l++[y]:=by simp
def LW(p:bC):∀(gs:Z (Z bC))(i:Nat),(gs.set i<|(gs[i]?).getD []++[p]).flatten.length<=gs.flatten.length+1
 | [],_=>by simp
 |g::gs,0=>by simp;omega
 |g::gs,i+1=>by
  have:=LW p gs i;simp only[List.set_cons_succ,List.flatten_cons,dC,List.getElem?_cons_succ];omega
def M5(lg:bC->aV Int)(s:Z (Z bC)×Z Int)(p:bC):(sQ lg s p).1.flatten.length<=s.1.flatten.length+1:=by
 unfold sQ;split
 ·omega
 ·split
  ·simp
  ·exact LW p s.1 _
def Gc(lg:bC->aV Int)(ps:Z bC):(zw lg ps).1.flatten.length<=ps.length:=by
 have key:∀(ps:Z bC)(s:Z (Z bC)×Z Int),(ps.foldl (sQ lg) s).1.flatten.length<=s.1.flatten.length+ps.length:=by
  intro ps
  induction ps with
  |nil=>intro s;simp
  |cons p ps ih=>
   intro s;have h1:=ih<|sQ lg s p
   have h2:=M5 lg s p;rw[List.foldl_cons,dO];omega
 have:=key ps ([],[]);simpa[zw]using this
noncomputable def BB(a:lj)(pcs:Z aL)(r:Nat->Nat)(p:bC):aV Int:=(a.bW.find?<|λl=>decide<|j8 l=p).map<|MN a.aZ pcs r
def Ji(a:lj)(pcs:Z aL)(r:Nat->Nat)(p:bC):(pF a p = -1/\BB a pcs r p=none)\/∃(k:Nat)(x:eQ),pF a p=((k:Nat):Int)/\a.bW[k]? =some x/\j8 x=p/\BB a pcs r p=some (MN a.aZ pcs r x):=by
 rcases LI a p with⟨e,h⟩|⟨k,x,e,hx,hp⟩
 ·left;refine⟨e,?_⟩;unfold BB;rw[Je e];rfl
 ·right;exact⟨k,x,e,hx,hp,by unfold BB;rw[BA e hx];rfl⟩
section
variable {N:Nat}{t:Z aS}{x:cA}{a:lj}{oc:Z (Z aB)}{fU:Z (Z (Z aB))}{r:Nat->Nat}{gs:Z bG}{ofP ofB tZ:Z Int}{u9:Z ld}
def QW(b:sI a oc fU r gs ofP ofB tZ u9){ps:Net}(hn:ps.aT.length<=1048576)(hN:4398046511104<=N):
  m8 N a.aP a.dF a.aZ a.bW tZ ps=some (TD (BB a (dJ 0 fU) r) ps.aT):=by
 refine Y9 ?_;unfold m8
 refine Ym (Zk (λk s=>s.1=(zw (BB a (dJ 0 fU) r) (ps.aT.take k)).1/\Pc k s.1 (zw (BB a (dJ 0 fU) r) (ps.aT.take k)).2 s.2) (by omega)
  ⟨rfl,rfl,cG _,λl hl=>by simp[zw]at hl,λg hg=>by simp[zw,k9],λg i h=>by simp[zw,uQ]at h⟩ (λk s hk hI=>?_)) ?_
 ·obtain⟨hs,hI⟩:=hI;have hx:ps.aT[k]? =some ps.aT[k]:=aM hk;refine Yx hx<|X_ (Jc b.D9 _ hN) ?_
  rw[Ej _ hk]
  rcases Ji a (dJ 0 fU) r ps.aT[k]with⟨e,h⟩|⟨j,l,e,hl,hp,h⟩
  ·rw[e,show decide ((-1:Int)<0)=true by decide,aO];refine V_ ?_;rw[Jh h];exact⟨hs,hI.up⟩
  ·have ho:tZ[j]? =some (MN a.aZ (dJ 0 fU) r l):=by rw[b.QC.tZ,kg,hl];rfl
   rw[e,show decide (((j:Nat):Int)<0)=false from cF (by omega),aR];refine Yx ho ?_;generalize MN a.aZ (dJ 0 fU) r l=g at h;have hle:=hI.le;have hlen:=hI.len
   cases hat:uQ (zw (BB a (dJ 0 fU) r)<|ps.aT.take k).2 g with
   |none=>
    have hc:((!(k9 s.2 g))||decide (g<0))=true:=by
     rcases Fb hat with h0|h0
     ·simp[h0]
     ·by_cases h1:g<0
      ·simp[h1]
      ·rw[hI.has g (by omega)];simp[h0]
    rw[hc,aO,HV h hat];refine Ym (P:=λy=>y=(s.1++[[]],pM s.2 g ((s.1.length:Nat):Int),((s.1.length:Nat):Int))) (Y2 (by simp only[dO,List.length_nil];omega)<|V_ rfl) ?_;rintro _ rfl;have hg:(s.1++[([]:Z bC)])[s.1.length]? =some []:=by simp
    refine Yx hg<|Y2 (by simp)<|Yx hg<|V_ ?_
    show(s.1++[([]:Z bC)]).set (Int.toNat ((s.1.length:Nat):Int)) ([]++[ps.aT[k]])=_/\Pc (k+1) ((s.1++[([]:Z bC)]).set (Int.toNat ((s.1.length:Nat):Int))<|[]++[ps.aT[k]]) _ _;rw[dA,QV];exact⟨by rw[hs];rfl,hI.new hat⟩
   |some i=>
    obtain⟨h0,hi⟩:=yb hat;have hil:i<s.1.length:=by rw[hlen];exact(bP.1 hi).1
    have hc:((!(k9 s.2 g))||decide (g<0))=false:=by
     rw[hI.has g h0,cF (show ¬g<0 by omega),bS<|dT hi];rfl
    rw[hc,aR,hI.get g i hat,aA,HW h hat];have hg:s.1[i]? =some s.1[i]:=aM hil;have hll:=hI.each _<|cP hil
    refine Yx hg<|Y2 (by simp only[dO,List.length_nil];omega)<|Yx hg<|V_ ?_
    show s.1.set (Int.toNat ((i:Nat):Int)) (s.1[i]++[ps.aT[k]])=_/\Pc (k+1) (s.1.set (Int.toNat ((i:Nat):Int))<|s.1[i]++[ps.aT[k]]) _ _;rw[dA];refine⟨?_,hI.put (g:=g) hg⟩;simp only;rw[<-hs,hg];rfl
 ·rintro s⟨hs,hI⟩;rw[dK]at hs hI;unfold TD;rw[<-hs]
  by_cases h2:s.1.length<2
  ·rw[bS (show((s.1.length:Nat):Int)<2 by omega),aO,aG h2];exact V_ rfl
  ·rw[cF (show ¬((s.1.length:Nat):Int)<2 by omega),aR,aK h2];have hf:s.1.flatten.length<=ps.aT.length:=by
    rw[hs];exact Gc _ _
   have:=hI.le;rw[M4 (by omega) (by omega)];exact V_ rfl
end
def nameOf(x:cA)(p:bC):cD:=((x.bT[(qL x p).toNat]?).map Net.Name).getD ⟨[]⟩
def HX(x:cA)(p:bC):Bool:=decide<|qL x p>=0
def Ci(t:Z aS)(x:cA)(p:bC):Bool:=HX x p||decide (p∈ki t x)
def A4(x:cA)(m:Z (cD×Bool))(p:bC):Z (cD×Bool):=if HX x p=true then pM m (nameOf x p) true else m
def LX(x:cA)(ps:Z bC):Z (cD×Bool):=ps.foldl (A4 x) []
def LY(t:Z aS)(x:cA)(p:bC):Bool:= !HX x p&&decide (p∈ki t x)
def XI(t:Z aS)(x:cA)(ps:Z bC):Nat:=(ps.filter<|LY t x).length
def sK(m:Z (cD×Bool)):Z cD:=((m.map λp=>p.1.cY).mergeSort λx y=>decide<|x<=y).map cD.mk
def QX(x:cA){ps:Z bC}{k:Nat}(hk:k<ps.length):LX x (ps.take<|k+1)=A4 x (LX x<|ps.take k) ps[k]:=by
 unfold LX;rw[dN hk,List.foldl_append];rfl
def LZ{κ ν:Type}[DecidableEq κ][GT κ][KV κ][GT ν](m:Z (κ×ν))(k:κ)(v:ν):(pM m k v).length<=m.length+1:=by
 have:=congrArg List.length<|De k v m
 rw[dQ]at this;rw[this];split <;> simp
def BC{x:cA}{p:bC}(h:HX x p=true):∃(k:Nat)(n:Net),qL x p=((k:Nat):Int)/\x.bT[k]? =some n/\p∈n.aT/\nameOf x p=n.Name:=by
 unfold HX at h;rw[cZ]at h;unfold qL at h
 rcases qD x.bT (λn=>decide<|p∈n.aT)with⟨h1,_⟩|⟨k,n,h1,h2,h3,_⟩
 ·rw[h1]at h;omega
 ·refine⟨k,n,h1,h2,by simpa using h3,?_⟩;unfold nameOf;have:qL x p=((k:Nat):Int):=h1;rw[this,dA,h2];rfl
def Kd{x:cA}{p:bC}:HX x p=true↔∃n∈x.bT,p∈n.aT:=by
 unfold HX qL;rw[GQ,iN];simp
def Ek{t:Z aS}{x:cA}:∀(ps:Z bC),(LX x ps).length<=ps.length/\((LX x ps).map Prod.fst).Nodup/\∀q,q∈(LX x ps).map Prod.fst↔∃p∈ps,HX x p=true/\q=nameOf x p:=by
 intro ps;have key:∀(ps:Z bC)(m:Z (cD×Bool)),(m.map Prod.fst).Nodup->(ps.foldl (A4 x) m).length<=m.length+ps.length/\((ps.foldl (A4 x) m).map Prod.fst).Nodup/\∀q,q∈(ps.foldl (A4 x) m).map Prod.fst↔q∈m.map Prod.fst\/∃p∈ps,HX x p=true/\q=nameOf x p:=by
  intro ps
  induction ps with
  |nil=>intro m hm;exact⟨by simp,hm,λq=>by simp⟩
  |cons p ps ih=>
   intro m hm;rw[List.foldl_cons,show A4 x m p=if HX x p=true then pM m (nameOf x p) true else m from rfl]
   by_cases hp:HX x p=true
   ·rw[aG hp];obtain⟨h1,h2,h3⟩:=ih _<|Ct hm (nameOf x p) true
    have:=LZ m (nameOf x p) true;refine⟨by rw[dO];omega,h2,λq=>?_⟩;rw[h3,De];constructor
    ·rintro(h|⟨p',hp',h⟩)
     ·split at h
      ·exact .inl h
      ·rcases dP.1 h with h|h
       ·exact .inl h
       ·exact .inr ⟨p,by simp,hp,by simpa using h⟩
     ·exact .inr ⟨p',by simp[hp'],h⟩
    ·rintro(h|⟨p',hp',h,e⟩)
     ·left;split
      ·exact h
      ·exact List.mem_append_left _ h
     ·rcases eJ.1 hp' with h'|h'
      ·subst h';subst e;left;split
       ·assumption
       ·simp
      ·exact .inr ⟨p',h',h,e⟩
   ·rw[aK hp];obtain⟨h1,h2,h3⟩:=ih m hm;refine⟨by rw[dO];omega,h2,λq=>?_⟩;rw[h3];constructor
    ·rintro(h|⟨p',hp',h⟩)
     ·exact .inl h
     ·exact .inr ⟨p',by simp[hp'],h⟩
    ·rintro(h|⟨p',hp',h,e⟩)
     ·exact .inl h
     ·rcases eJ.1 hp' with h'|h'
      ·subst h';exact absurd h hp
      ·exact .inr ⟨p',h',h,e⟩
 have:=key ps [] (by simp);simpa[LX]using this
section
variable {N:Nat}{t:Z aS}{x:cA}
def R8(ok:sM t x)(p:bC):mn N x.cR x.bT (sN x x.bT.length) (rj [] (ki t x) true) p=some (Ci t x p):=by
 have hl:fP (rj ([]:Z (bC×Bool)) (ki t x) true) p false=decide (p∈ki t x):=by
  rw[yR]
  by_cases h:p∈ki t x
  ·rw[aG h,bS h]
  ·rw[aK h,cF h];rfl
 unfold mn Ci HX;rw[(Fa ok p).1,hl]
 cases decide (qL x p>=0) <;> rfl
def QY(hbx:TC x)(ok:sM t x){g:bG}(hg:g.aT.length<=1048576):
  lL N x.cR x.bT (sN x x.bT.length) (rj [] (ki t x) true) g=some (sK<|LX x g.aT,g.aT.filter<|Ci t x,decide<|(((LX x g.aT).length+XI t x g.aT:Nat):Int)>1):=by
 refine Y9 ?_;unfold lL;refine Ym (Zk (λk s=>s=(LX x<|g.aT.take k,(g.aT.take k).filter<|Ci t x,((((g.aT.take k).filter<|LY t x).length:Nat):Int))) (by omega) rfl<|λk s hk e=>?_) ?_
 ·subst e;have hx:g.aT[k]? =some g.aT[k]:=aM hk;have hf1:((g.aT.take k).filter<|Ci t x).length<=k:=lh (iW _ _) (by rw[cN];omega);have hf2:((g.aT.take k).filter<|LY t x).length<=k:=lh (iW _ _) (by rw[cN];omega);rw[QX x hk,gC hk,gC hk];have hl:fP (rj ([]:Z (bC×Bool)) (ki t x) true) g.aT[k] false=decide (g.aT[k]∈ki t x):=by
   rw[yR]
   by_cases h:g.aT[k]∈ki t x
   ·rw[aG h,bS h]
   ·rw[aK h,cF h];rfl
  refine Yx hx ?_;obtain⟨hm1,hm2⟩:=Fa ok g.aT[k];rw[hm1]
  cases hin:decide (qL x g.aT[k]>=0)with
  |true=>
   have hin':HX x g.aT[k]=true:=hin;obtain⟨j,n,h1,h2,h3,h4⟩:=BC hin';rw[aO,hm2 (by rw[h1];omega),h1];refine Yx h2<|Y2 (by simp only[dO,List.length_nil];omega)<|V_ ?_
   have e1:Ci t x g.aT[k]=true:=by unfold Ci;rw[hin'];rfl
   have e2:LY t x g.aT[k]=false:=by unfold LY;rw[hin'];rfl
   rw[aG e1,aK (by rw[e2];exact wg),rq];unfold A4;rw[aG hin',h4]
  |false=>
   have hin':HX x g.aT[k]=false:=hin;rw[aR,hl];unfold A4;rw[aK (by rw[hin'];exact wg)];have e1:Ci t x g.aT[k]=decide (g.aT[k]∈ki t x):=by unfold Ci;rw[hin'];rfl
   have e2:LY t x g.aT[k]=decide (g.aT[k]∈ki t x):=by unfold LY;rw[hin'];rfl
   rw[e1,e2]
   cases decide (g.aT[k]∈ki t x)with
   |true=>
    rw[aO];refine Y2 (by simp only[dO,List.length_nil];omega)<|V_ ?_
    rw[bR (by omega)];simp
   |false=>
    rw[aR];refine V_ ?_;simp
 ·rintro _ rfl;rw[dK];obtain⟨f1,f2,f3⟩:=Ek (t:=t) (x:=x) g.aT;have hL:(g.aT.filter<|LY t x).length<=g.aT.length:=iW _ _;have hk:Iz (LX x g.aT)=some (sK<|LX x g.aT):=by
   have hc:(LX x g.aT).length<=1099511627776/\∀p∈LX x g.aT,p.1.cY.length<=maxLen:=⟨by omega,λp hp=>by
    obtain⟨q,hq,hi,he⟩:=(f3 p.1).1<|List.mem_map_of_mem hp
    obtain⟨j,n,h1,h2,h3,h4⟩:=BC hi;rw[he,h4];have hb1:=hbx.nn _<|dT h2
    simp only[maxLen]
    omega⟩
   unfold Iz sK;rw[aG hc]
  refine X_ hk<|V_ ?_
  unfold XI;dsimp only;rw[wrap_add (by omega)]
end
def rW(a:lj)(x:cA):Z bC:=x.bT.flatMap λn=>n.aT.filter<|λp=>decide<|pF a p<0
def Ke(t:Z aS)(x:cA)(a:lj):Z bC:=(a.bW.map j8).filter<|λp=> !Ci t x p
def qo(k:Int)(ps:Z bC):Z cI:=if decide ((ps.length:Int)>0)=true then [⟨k,[],ps⟩]else []
def rX(lg:bC->aV Int)(n:Net):Z cI:=if decide (((TD lg n.aT).length:Int)>0)=true then [⟨2,[n.Name],TD lg n.aT⟩]else []
def uh(t:Z aS)(x:cA)(g:bG):Z cI:=if decide ((((LX x g.aT).length+XI t x g.aT:Nat):Int)>1)=true then [⟨3,sK<|LX x g.aT,g.aT.filter<|Ci t x⟩]else []
noncomputable def QZ(t:Z aS)(x:cA)(a:lj)(pcs:Z aL)(r:Nat->Nat)(gs:Z bG):Z cI:=
 qo 1 (rp<|rW a x)++x.bT.flatMap (rX<|BB a pcs r)++gs.flatMap (uh t x)++qo 4 (Ke t x a)
def tv(k:Int)(ps:Z bC):(qo k ps).length<=1:=by unfold qo;split <;> simp
def va(lg:bC->aV Int)(n:Net):(rX lg n).length<=1:=by unfold rX;split <;> simp
def vV(t:Z aS)(x:cA)(g:bG):(uh t x g).length<=1:=by unfold uh;split <;> simp
section
variable {N:Nat}{t:Z aS}{x:cA}{a:lj}{oc:Z (Z aB)}{fU:Z (Z (Z aB))}{r:Nat->Nat}{gs:Z bG}{ofP ofB tZ:Z Int}{u9:Z ld}
def BD(ok:sM t x)(k:Nat):((x.bT.take k).flatMap λn=>n.aT.filter<|λp=>decide<|pF a p<0).length<=500000:=by
 have h1:=jN (λn:Net=>n.aT.filter<|λp=>decide<|pF a p<0) 500 x.bT k<|λn hn=>lh (iW _ _) (ok.zd n hn).2
 have:=ok.Ei;omega
def HY(hbt:bk t<=1048576)(hbx:TC x)(hck:iw t x=0)(b:sI a oc fU r gs ofP ofB tZ u9)
  (h1:kb N a=some (some (a.aP,a.dF,a.aZ,a.bW,oc,dJ 0 fU,l6 a.aZ<|dJ 0 fU,gs,ofP,ofB,tZ,u9),0)) (hN:4398046511104<=N):
  fZ N t x a=some (QZ t x a (dJ 0 fU) r gs,0):=by
 have ok:=uO hck;have hfn:=ok.Ei;have hlf:=b.D9.zq;have hf:=b.zq.2;have hgl:=(MX b.QC).2;have hbl:=b.Eb.gb.len;have hll:(ki t x).length<=1048576000:=by
  have:=M1 (x:=x) hbt;unfold MZ at this;rwa[aK (by rw[hck];simp)]at this
 refine Y9 ?_;unfold fZ kc;rw[mG hbt hbx (by omega),aA,hck,show((0:Int) != 0)=false from rfl,aR,h1];simp only[O8,bne_self_eq_false,aR,aA];refine X_ (LR hbx)<|X_ (LU hbt hbx ok (by omega)) ?_
 refine Ym (Zk (λk s=>s=rj [] ((ki t x).take k) true) (by omega) rfl<|λk s hk e=>?_) ?_
 ·subst e;refine Yx (aM hk)<|V_ ?_
  rw[dN hk];unfold rj;rw[List.foldl_append];rfl
 rintro _ rfl;rw[dK];refine Ym (Zk (λk s=>s=(x.bT.take k).flatMap λn=>n.aT.filter<|λp=>decide<|pF a p<0) (by omega) rfl<|λk s hk e=>?_) ?_
 ·subst e;have hm:=BD (a:=a) ok k;have hp:=(ok.zd _<|cP hk).2;refine Yx (aM hk) ?_;refine Ym (Zk (λj s=>s=((x.bT.take k).flatMap λn=>n.aT.filter<|λp=>decide<|pF a p<0)++(x.bT[k].aT.take j).filter (λp=>decide<|pF a p<0)) (by omega) (by simp)<|λj s hj e=>?_) ?_
  ·subst e;have hq:((x.bT[k].aT.take j).filter<|λp=>decide<|pF a p<0).length<=500:=lh (iW _ _) (by rw[cN];omega);refine Yx (aM hj)<|X_ (Jc b.D9 _ hN)<|ZF (by rw[dC];omega)<|V_ ?_
   rw[gC hj,kK]
  ·rintro _ rfl;rw[dK];exact V_ (by rw[lD hk])
 rintro _ rfl;rw[dK];have hm:(rW a x).length<=500000:=by
  have:=BD (a:=a) ok x.bT.length;rwa[dK]at this
 refine X_ (M3 (l:=rW a x) (by omega))<|ZF (by simp) ?_
 rw[List.nil_append];refine Ym (Zk (λk s=>s=(tZ,qo 1 (rp<|rW a x)++(x.bT.take k).flatMap (rX<|BB a (dJ 0 fU) r))) (by omega) (by simp[qo])<|λk s hk e=>?_) ?_
 ·subst e;have hp:=(ok.zd _<|cP hk).2;have l1:=tv 1<|rp<|rW a x
  have l2:=jN (rX<|BB a (dJ 0 fU) r) 1 x.bT k<|λn _=>va _ n
  refine Yx (aM hk)<|X_ (QW b (by omega) hN)<|ZF (by rw[dC];omega)<|V_ ?_
  rw[lD hk,kK];rfl
 rintro _ rfl;rw[dK];refine Ym (Zk (λk s=>s=qo 1 (rp<|rW a x)++x.bT.flatMap (rX<|BB a (dJ 0 fU) r)++(gs.take k).flatMap (uh t x)) (by omega) (by simp)<|λk s hk e=>?_) ?_
 ·subst e;have l1:=tv 1<|rp<|rW a x
  have l2:=nr (rX<|BB a (dJ 0 fU) r) 1 x.bT<|λn _=>va _ n
  have l3:=jN (uh t x) 1 gs k<|λg _=>vV t x g
  have hgx:gs[k]? =some gs[k]:=aM hk;have hgp:=(J6 b.QC hgx).2.2;refine Yx hgx<|X_ (QY hbx ok (by omega))<|ZF (by rw[dC,dC];omega)<|V_ ?_
  rw[lD hk,kK];rfl
 rintro _ rfl;rw[dK];refine Ym (Zk (λk s=>s=((a.bW.take k).map j8).filter (λp=> !Ci t x p)) (by omega) rfl<|λk s hk e=>?_) ?_
 ·subst e;have l1:(((a.bW.take k).map j8).filter<|λp=> !Ci t x p).length<=1000:=lh (iW _ _) (by rw[dQ,cN];omega);refine Yx (aM hk)<|X_ (xU _)<|X_ (R8 ok _) ?_
  rw[xU,aA];refine ZF (by omega)<|V_ ?_
  rw[dN hk,fX,List.filter_append];congr 1
  cases h:Ci t x (j8 a.bW[k]) <;> simp[h]
 rintro _ rfl;rw[dK];have l1:=tv 1<|rp<|rW a x
 have l2:=nr (rX<|BB a (dJ 0 fU) r) 1 x.bT<|λn _=>va _ n
 have l3:=nr (uh t x) 1 gs<|λg _=>vV t x g
 refine ZF (by rw[dC,dC];omega)<|V_ ?_
 rfl
inductive XR (N:Nat) (t:Z aS) (x:cA) (a:lj):Prop
 |bad (e:Int) (he:e≠0) (hl:iw t x=e) (h:fZ N t x a=some ([],e))
 |err (e:Int) (he:e≠0) (hl:iw t x=0) (h0:kb N a=some (none,e)) (h:fZ N t x a=some ([],e))
 |ok {oc:Z (Z aB)} {fU:Z (Z (Z aB))} {r:Nat->Nat} {gs:Z bG} {ofP ofB tZ:Z Int} {u9:Z ld} (hl:iw t x=0) (b:sI a oc fU r gs ofP ofB tZ u9)
  (h0:kb N a=some (some (a.aP,a.dF,a.aZ,a.bW,oc,dJ 0 fU,l6 a.aZ<|dJ 0 fU,gs,ofP,ofB,tZ,u9),0))
  (h:fZ N t x a=some (QZ t x a (dJ 0 fU) r gs,0))
def O2(hbt:bk t<=1048576)(hbx:TC x)(hs:vS a)(hN:4398046511104<=N):XR N t x a:=by
 by_cases hck:iw t x=0
 ·rcases opened (N:=N) hs hN with⟨e,he,h1⟩|⟨b,h1⟩
  ·refine .err e he hck h1 ?_;have hb:(e != 0)=true:=by simpa using he
   unfold fZ kc;rw[mG hbt hbx (by omega),aA,hck,show((0:Int) != 0)=false from rfl,aR,h1];simp only[O8,hb,aO,aA]
  ·exact .ok hck b h1<|HY hbt hbx hck b h1 hN
 ·refine .bad _ hck rfl ?_;have hb:(iw t x != 0)=true:=by simpa using hck
  unfold fZ kc;rw[mG hbt hbx (by omega),aA,hb,aO];simp only[O8,hb,aO,aA]
def VV(hbt:bk t<=1048576)(hbx:bk x<=1048576)(hs:vS a)(hN:4398046511104<=N):XR N t x a:=O2 hbt (Kb hbx) hs hN
end
def M6(m:Z (cD×Bool)):(sK m).length=m.length:=by
 unfold sK;rw[dQ,List.length_mergeSort,dQ]
def TN(lg:bC->aV Int)(p:bC):Bool:=match lg p with|some g=>decide (g<0)|none=>false
structure XU (lg:bC->aV Int) (ps:Z bC) (st:Z (Z bC)×Z Int):Prop where
 len:st.1.length=st.2.length
 full:∀l∈st.1,l≠[]
 has:∀p∈ps,∀g,lg p=some g->g∈st.2
 neg:(ps.filter<|TN lg).length=(st.2.filter<|λg=>decide<|g<0).length
def VW(lg:bC->aV Int)(ps:Z bC):XU lg ps (zw lg ps):=by
 have key:∀k,k<=ps.length->XU lg (ps.take k) (zw lg<|ps.take k):=by
  intro k
  induction k with
  |zero=>intro _;exact⟨rfl,λl hl=>by simp[zw]at hl,λp hp=>by simp at hp,rfl⟩
  |succ k ih=>
   intro hk;have I:=ih (by omega);have hkl:k<ps.length:=hk;rw[Ej lg hkl];have hmem:∀p,p∈ps.take (k+1)->p∈ps.take k\/p=ps[k]:=λp hp=>by
    rw[dN hkl]at hp
    rcases dP.1 hp with h|h
    ·exact .inl h
    ·exact .inr (by simpa using h)
   have hneg:=gC hkl<|TN lg
   unfold sQ
   cases hg:lg ps[k]with
   |none=>
    have hn:TN lg ps[k]=false:=by unfold TN;rw[hg]
    refine⟨I.len,I.full,λp hp g h=>?_,?_⟩
    ·rcases hmem p hp with h'|h'
     ·exact I.has p h' g h
     ·subst h';rw[hg]at h;cases h
    ·rw[hneg,hn];simpa using I.neg
   |some g=>
    have hn:TN lg ps[k]=decide (g<0):=by unfold TN;rw[hg]
    simp only
    cases hat:uQ (zw lg<|ps.take k).2 g with
    |none=>
     refine⟨by simp[I.len],λl hl=>?_,λp hp g' h=>?_,?_⟩
     ·rcases dP.1 hl with h|h
      ·exact I.full l h
      ·simp at h;subst h;simp
     ·rcases hmem p hp with h'|h'
      ·exact List.mem_append_left _<|I.has p h' g' h
      ·subst h';rw[hg]at h;injection h with h;subst h;simp
     ·rw[hneg,hn,List.filter_append,dC,dC,I.neg];congr 1
      cases h:decide (g<0) <;> simp[h]
    |some i=>
     obtain⟨h0,hi⟩:=yb hat;refine⟨by rw[jV];exact I.len,λl hl=>?_,λp hp g' h=>?_,?_⟩
     ·rcases List.mem_or_eq_of_mem_set hl with h|h
      ·exact I.full l h
      ·subst h;simp
     ·rcases hmem p hp with h'|h'
      ·exact I.has p h' g' h
      ·subst h';rw[hg]at h;injection h with h;subst h;exact dT hi
     ·rw[hneg,hn,cF (show ¬g<0 by omega)];simpa using I.neg
 have:=key ps.length<|cG _
 rwa[dK]at this
def Kf{t:Z aS}{x:cA}(ok:sM t x){p:bC}(h:pw t x.cR p=true)(hn:HX x p=false):p∈ki t x:=by
 unfold pw at h;unfold HX at hn;rw[decide_eq_false_iff_not]at hn
 cases hf:x.cR.find? (λy=>y.Name.kj p.Part)with
 |none=>rw[hf]at h;simp at h
 |some y=>
  rw[hf]at h;have hy:=List.mem_of_find?_eq_some hf;have hyn:=List.find?_some hf;have hyn':y.Name=p.Part:=by rw[nG,cZ]at hyn;exact hyn
  unfold ki;refine List.mem_flatMap.2 ⟨y,hy,nC.2 ⟨?_,by simp;omega⟩⟩;unfold sO uP;dsimp only at h
  cases ht:t.find? (λz=>z.Name.kj y.jR)with
  |none=>rw[ht]at h;simp at h
  |some z=>
   rw[ht]at h;simp only[iN]at h;obtain⟨w,hw,hwn⟩:=h;rw[nG,cZ]at hwn;refine dU.2 ⟨w,hw,?_⟩
   cases p
   simp only at hyn' hwn;rw[hyn',hwn]
section
variable {N:Nat}{t:Z aS}{x:cA}{a:lj}{oc:Z (Z aB)}{fU:Z (Z (Z aB))}{r:Nat->Nat}{gs:Z bG}{ofP ofB tZ:Z Int}{u9:Z ld}
end
section
variable {N:Nat}
end
end Go.Gk
namespace Go.Gk
open Go IntKind
def cD.TE{a b:cD}(h:cD.lt a b):a.cY<b.cY:=by
 have:Op.bytesLess a.cY b.cY=true:=h;rw[Go.Proofs.bytesLess_eq]at this;simpa using this
def Iu{l m:Z cD}(hp:l.Perm m)(hs:Sorted (λx=>x) m)(hl:l.length<4611686018427387904):Mo l=some m:=by
 unfold Mo;rw[aG hl];congr 1;have h1:((l.map cD.cY).mergeSort λx y=>decide<|x<=y)=m.map cD.cY:=by
  refine List.Perm.eq_of_pairwise (le:=λa b=>a<=b) (λa b _ _ h h'=>List.le_antisymm h h') ?_ ?_<|(List.mergeSort_perm _ _).trans<|hp.map _
  ·have:=List.pairwise_mergeSort (le:=λx y:Z UInt8=>decide (x<=y)) (λa b c h h'=>by
    rw[cZ]at h h' ⊢;exact List.le_trans h h') (λa b=>by
    rw[gT,cZ,cZ];exact List.le_total _ _) (l.map cD.cY)
   exact this.imp λh=>by simpa using h
  ·rw[List.pairwise_map];exact(C3.1 hs).imp λh=>List.le_of_lt<|cD.TE h
 rw[h1,List.map_map];exact List.map_id' _
end Go.Gk
