/-
  Helping texts: plain functions and plain laws. No statement of the seed is proved here.
-/
import Derived.Test.YtaadpbkoidcoeaaGreatDoorE1
import Derived.Test.YtaadpbkoidcoeaaGreatDoorA2
set_option linter.unusedVariables false
set_option linter.unusedSimpArgs false
set_option linter.unusedSectionVars false
namespace Go.Gk
open Go IntKind Classical
section
variable {N:Nat}
def jJ(n:Nat)(h:fN):Nat:=if h.cL=true then n+h.Number.toNat else h.Number.toNat
structure Pp (bs:aL cL) (n m:Nat) (h:fN):Prop where
 num:∃k:Nat,h.Number=(k:Int)/\(h.cL=true->k<m/\DT bs k=true)/\(h.cL=false->k<n)
theorem IL{bs:aL cL}{pcs:aL aI}{l:cW}{h:fN}(hh:r7 bs pcs l=some h):Pp bs pcs.length bs.length h:=by
 unfold r7 at hh
 cases hf:bs.findIdx? (yx l)with
 |some k=>
  rw[hf]at hh;injection hh with hh;subst hh
  obtain⟨hk,hp,_⟩:=List.findIdx?_eq_some_iff_getElem.1 hf;refine⟨k,rfl,λ_=>⟨hk,?_⟩,λh=>by cases h⟩
  grind [yx,DT,aM]
 |none=>
  rw[hf]at hh;dsimp only at hh;rw[Option.map_eq_some_iff]at hh;obtain⟨k,hk,rfl⟩:=hh;obtain⟨hk,_⟩:=List.findIdx?_eq_some_iff_getElem.1 hk;exact⟨k,rfl,λh=>(by cases h),λ_=>hk⟩
def yy(bs:aL cL)(pcs:aL aI)(r:Nat->Nat)(l:cW):aU Nat:=(r7 bs pcs l).map λh=>gi bs pcs.length (pcs.length+bs.length) r<|r<|jJ pcs.length h
def Ly(bs:aL cL)(pcs:aL aI)(r:Nat->Nat)(l:cW):Int:=match yy bs pcs r l with|some g=>(g:Int)|none=> -1
def j6(gs:aL bM)(lg:cW->aU Nat)(ls:aL cW):aL bM:=gs.mapIdx<|λg x=>{x with aZ:=(ls.filter<|λl=>decide<|lg l=some g).map lI}
theorem o7{gs:aL bM}{lg:cW->aU Nat}{ls:aL cW}{g:Nat}:(j6 gs lg ls)[g]? =(gs[g]?).map λx=>{x with aZ:=(ls.filter<|λl=>decide<|lg l=some g).map lI}:=by
 simp[j6,List.getElem?_mapIdx]
theorem zQ(gs:aL bM)(lg:cW->aU Nat)(ls:aL cW):(j6 gs lg ls).length=gs.length:=by simp[j6,List.length_mapIdx]
theorem DU{gs:aL bM}{lg:cW->aU Nat}{ls:aL cW}{l:cW}(h:lg l=none):j6 gs lg (ls++[l])=j6 gs lg ls:=by
 apply List.ext_getElem?
 grind [o7]
theorem FI{gs:aL bM}{lg:cW->aU Nat}{ls:aL cW}{l:cW}{k:Nat}{x:bM}(h:lg l=some k)(hx:(j6 gs lg ls)[k]? =some x):
  (j6 gs lg ls).set k {x with aZ:=x.aZ++[lI l]}=j6 gs lg (ls++[l]):=by
 apply List.ext_getElem?;intro g;have hk:=(bN.1 hx).1;rw[lk]
 by_cases e:k=g
 ·subst e
  grind [o7,Option.map_eq_some_iff]
 grind [o7]
theorem MR{bs:aL cL}{n t:Nat}{r:Nat->Nat}{i:Nat}(hi:i<n)(ht:i<t):MQ bs n (cls t r<|r i)=true:=by
 unfold MQ;rw[dP];have:i∈gP n (cls t r<|r i):=jC.2 ⟨w6.2 ⟨ht,rfl⟩,by grind⟩
 grind
theorem Pq{bs:aL cL}{n t:Nat}{r:Nat->Nat}{j:Nat}(hp:DT bs j=true)(ht:n+j<t):MQ bs n (cls t r<|r<|n+j)=true:=by
 unfold MQ;rw[dP];have:j∈gB bs n (cls t r<|r<|n+j):=cX.2 ⟨n+j,jC.2 ⟨w6.2 ⟨ht,rfl⟩,by simp[hp]⟩,by omega⟩
 grind
structure yz (bs:aL cL) (ls:aL cW) (pcs:aL aI) (r:Nat->Nat) (gs:aL bM) (ofP ofB mq:aL Int) (mj:aL fN):Prop where
 conn:DS pcs.length bs.length (lj bs pcs) r
 gs:gs=j6 (tE bs pcs.length (pcs.length+bs.length) r<|cD (pcs.length+bs.length) r) (yy bs pcs r) ls
 of:S3 bs pcs.length bs.length r (cD (pcs.length+bs.length) r) ofP ofB
 mq:mq=ls.map (Ly bs pcs r)
 mj:mj=ls.map (λl=>(r7 bs pcs l).getD ⟨false,0⟩)
theorem Hi{bs:aL cL}{pcs:aL aI}(hp:pcs.length<=1073741824):∀l∈lj bs pcs,l.length<=1073741824/\∀x∈l,∃i:Nat,i<pcs.length/\x=(i:Int):=by
 grind [lj,Ex,o6,nM,C6,KX]
theorem FJ{bs:aL cL}{ls:aL cW}{pcs:aL aI}(hb:pG bs)(hp:pcs.length<=1000000000)(hr:∀p∈pcs,p.iU.length<=1073741824)(hl:ls.length<=1073741824)(hN:nb N):
  Ok (gl N bs ls pcs (lj bs pcs) [] [] [] []) (λx=>∃r,yz bs ls pcs r x.1 x.2.1 x.2.2.1 x.2.2.2.1 x.2.2.2.2):=by
 have hbl:=hb.len;unfold gl;rw[wrap_add (by omega)];obtain⟨up0,u1,u2⟩:=wc (N:=N) (n:=pcs.length+bs.length) (by omega);refine VT u1 ?_;refine V3 (Ey (n:=pcs.length) (m:=bs.length) (by simp[lj]) (Hi (by omega)) (by omega) (by omega) u2 hN) ?_;rintro up1⟨r,v1,v2⟩;refine VT (wU 0 (by omega))<|VT (wU 0 (by omega)) ?_
 obtain⟨up2,w1,_⟩:=OA (N:=N) v1 (by omega) (by omega);refine VT w1 ?_;refine V3 (Hh (bs:=bs) (n:=pcs.length) (m:=bs.length) (r:=r) rfl (by omega) (by omega) (op:=List.replicate pcs.length 0) (ob:=List.replicate bs.length 0) (by simp) (by simp) rfl) ?_;rintro⟨gs,ofP,ofB⟩⟨e1,I⟩;dsimp only at e1 I ⊢;subst e1;have hgl:(tE bs pcs.length (pcs.length+bs.length) r<|cD (pcs.length+bs.length) r).length<=pcs.length+bs.length:=by
  grind [wt,uq,cD,pF]
 refine V3 (WK (λ(k:Nat)(st:aL bM×aL Int×aL Int×aL Int×aL fN)=>st=(j6 (tE bs pcs.length (pcs.length+bs.length) r<|cD (pcs.length+bs.length) r) (yy bs pcs r)<|ls.take k,ofP,ofB,(ls.take k).map<|Ly bs pcs r,(ls.take k).map<|λl=>(r7 bs pcs l).getD ⟨false,0⟩)) (by omega) ?_<|λk st hk e=>?_) ?_
 ·congr 1;unfold j6;apply List.ext_getElem?;intro g;rw[List.getElem?_mapIdx];unfold tE;rw[kl]
  cases(live bs pcs.length (pcs.length+bs.length) r<|cD (pcs.length+bs.length) r)[g]? <;> rfl
 ·subst e;dsimp only;have hts:ls.take (k+1)=ls.take k++[ls[k]]:=eO hk;refine WO hk<|VT (MP hb (by omega) hr _) ?_
  dsimp only;refine V3 (P:=λx=>x=(j6 (tE bs pcs.length (pcs.length+bs.length) r<|cD (pcs.length+bs.length) r) (yy bs pcs r)<|ls.take k++[ls[k]],Ly bs pcs r ls[k])) ?_ ?_
  ·cases hh:r7 bs pcs ls[k]with
   |none=>
    refine VV ?_;have h1:yy bs pcs r ls[k]=none:=by unfold yy;rw[hh];rfl
    rw[DU h1];unfold Ly;rw[h1]
   |some h=>
    have h1:yy bs pcs r ls[k]=some (gi bs pcs.length (pcs.length+bs.length) r<|r<|jJ pcs.length h):=by unfold yy;rw[hh];rfl
    have h2:Ly bs pcs r ls[k]=((gi bs pcs.length (pcs.length+bs.length) r (r<|jJ pcs.length h):Nat):Int):=by unfold Ly;rw[h1]
    obtain⟨q,q1,q2,q3⟩:=(IL hh).num;have hix:jJ pcs.length h<pcs.length+bs.length/\MQ bs pcs.length (cls (pcs.length+bs.length) r<|r<|jJ pcs.length h)=true/\gU N ofP ofB h=some ((gi bs pcs.length (pcs.length+bs.length) r (r<|jJ pcs.length h):Nat):Int):=by
     unfold gU jJ;rw[q1,cR]
     cases hbo:h.cL with
     |true=>
      obtain⟨q4,q5⟩:=q2 hbo;rw[aQ,aH rfl];refine⟨by omega,Pq q5 (by omega),?_⟩;have:=I.bo q q4<|jO.2 ⟨by have:=v2.le (pcs.length+q) (by omega);omega,v2.rr _ (by omega)⟩
      rw[aH q5]at this;rw[cG this,aA]
     |false=>
      have q4:=q3 hbo;rw[aP,aF (by simp)];refine⟨by omega,MR q4 (by omega),?_⟩;have:=I.pc q q4<|jO.2 ⟨by have:=v2.le q (by omega);omega,v2.rr _ (by omega)⟩
      rw[cG this,aA]
    obtain⟨i1,i2,i3⟩:=hix;have hgi:=JV (r:=r) (t:=pcs.length+bs.length) (bs:=bs) (n:=pcs.length) (h:=r<|jJ pcs.length h) (jO.2 ⟨by have:=v2.le _ i1;omega,v2.rr _ i1⟩) i2;have hgx:gi bs pcs.length (pcs.length+bs.length) r (r<|jJ pcs.length h)<(j6 (tE bs pcs.length (pcs.length+bs.length) r<|cD (pcs.length+bs.length) r) (yy bs pcs r)<|ls.take k).length:=by
     rw[zQ,wt];exact hgi.1
    rw[h2];dsimp only[Option.getD,Option.isSome];rw[aQ];refine VT i3 ?_;generalize gi bs pcs.length (pcs.length+bs.length) r (r<|jJ pcs.length h)=g at *;refine WO hgx<|VT (AE _) ?_
    have hpl:((j6 (tE bs pcs.length (pcs.length+bs.length) r<|cD (pcs.length+bs.length) r) (yy bs pcs r)<|ls.take k)[g]).aZ.length<=ls.length:=by
     have:=o7 (gs:=tE bs pcs.length (pcs.length+bs.length) r<|cD (pcs.length+bs.length) r) (lg:=yy bs pcs r) (ls:=ls.take k) (g:=g);rw[aM hgx]at this;have:=this.symm;rw[Option.map_eq_some_iff]at this;obtain⟨y,_,hy⟩:=this;rw[<-hy,iM];have:=me (λl=>decide<|yy bs pcs r l=some g)<|ls.take k
     rw[dD]at this;omega
    refine W3 (by simp;omega)<|WO hgx<|VV ?_
    rw[cR];congr 1;exact FI h1<|aM hgx
  ·rintro _ rfl;dsimp only;refine W3 (by simp;omega)<|W3 (by simp;omega)<|VV ?_
   rw[hts,gC,gC];rfl
 ·rintro st rfl;dsimp only;rw[g8];exact VV ⟨r,v2,rfl,I,rfl,rfl⟩
end
section
variable {N:Nat}
theorem AG{p:aI}:∀{eU:aL (aL<|aL aB)}{k:Nat},p∈cK k eU->∃(i:Nat)(ps:aL (aL aB))(q:aL aB),eU[i]? =some ps/\q∈ps/\p= ⟨((k+i:Nat):Int),q,aT q⟩
 | [],k,h=>by cases h
 |ps::eU,k,h=>by
  rcases dJ.1 h with h|h
  ·obtain⟨q,hq,rfl⟩:=cX.1 h;exact⟨0,ps,q,rfl,hq,rfl⟩
  ·obtain⟨i,ps',q,h1,h2,h3⟩:=AG h;refine⟨i+1,ps',q,by grind,h2,?_⟩;rw[h3,show k+1+i=k+(i+1)by omega]
structure q8 (a:iE):Prop where
 Ew:0<a.aS.length/\a.aS.length<=16
 Vd:∀r∈a.aS,kM r=0
 out:kM a.dU=0
 many:a.dU.length+(a.aS.map List.length).sum<=2000
 zR:nJ a=0
 xT:nK a=0
theorem q8.gb{a:iE}(h:q8 a):pG a.bQ:=⟨(sQ h.zR).1,λb hb=>⟨((sQ h.zR).2 b hb).1,((sQ h.zR).2 b hb).2.1⟩⟩
theorem q8.cs{a:iE}(h:q8 a):∀r∈a.aS,r.length<=2000/\∀x∈r,HN x:=λr hr=>IF (sw.1<|h.Vd r hr).1
structure zS (a:iE) (kC:aL (aL aB)) (eU:aL (aL (aL aB))) (p:aI) (i:Nat) (r:aL aK) (s:aL aB) (ps:aL (aL aB)) (u:Nat->Nat) (j k:Nat):Prop where
 VA:a.aS[i]? =some r
 kC:kC[i]? =some s
 eU:eU[i]? =some ps
 dr:w5 r (qM a.bQ (i:Int)) s
 pt:um s u ps
 at_:ps[j]? =some p.Set
 head:(cD (aT s).length u)[j]? =some k
 set:su (nI (aT s) (aT s).length u k) p.Set
 lim:yL (tx r++tx (qM a.bQ (i:Int))) (nF r++nF (qM a.bQ (i:Int))) (p.Set.map cH)
 S4:p.dI=(i:Int)
 S5:p.iU=aT p.Set
theorem MS{a:iE}{kC:aL (aL aB)}{eU:aL (aL<|aL aB)}(hg:q8 a)(hD:yw a.aS a.bQ a.aS.length kC eU){p:aI}(hp:p∈cK 0 eU):∃i r s ps u j k,zS a kC eU p i r s ps u j k:=by
 obtain⟨i,ps,q,h1,h2,rfl⟩:=AG hp;have hil:i<a.aS.length:=by have:=(bN.1 h1).1;rw[hD.FH]at this;exact this
 have hc:a.aS[i]? =some a.aS[i]:=aM hil;have hd:kC[i]? =some (kC[i]'(by rw[hD.len];exact hil)):=aM _;have hdr:=hD.dr i _ _ hil hc hd;obtain⟨u,hu⟩:=hD.pt i _ ps hil hd h1;obtain⟨sx,sy⟩:=hdr.small (hg.cs _<|cS hil).2<|λx hx=>(zM hg.gb _ x hx).1
 obtain⟨j,k,g1,g2,g3,g4⟩:=C5 hu hdr.can hdr.lim sx sy h2;exact⟨i,_,_,ps,u,j,k,hc,hd,h1,hdr,hu,g1,g2,g3,g4,by rw[gL],rfl⟩
theorem zS.MM{a:iE}{kC:aL (aL aB)}{eU:aL (aL<|aL aB)}(hg:q8 a){p:aI}{i:Nat}{r:aL aK}{s:aL aB}{ps:aL (aL aB)}{u:Nat->Nat}{j k:Nat}(h:zS a kC eU p i r s ps u j k):
  p.Set.length<=5000/\(∀b∈p.Set,b.Xs.length<=5000)/\p.iU.length<=5000*5000:=by
 have h1:=(hg.cs r<|gA h.VA).1;have h2:=Ev hg.gb (i:Int);rw[h.S5];exact AF (A:=5000) h.set.can h.lim (by grind [bO,tA]) (by grind [bO,oW])
def JW(a0 a1 b0 b1:Int):Bool:=decide (b0<a1)&&decide (a0<b1)
def MT(a b:aK):Bool:=JW a.X0 a.X1 b.X0 b.X1&&JW a.Y0 a.Y1 b.Y0 b.Y1
theorem C7{a0 a1 b0 b1:Int}(h1: -1000000<=a0/\a0<=1000000)(h2: -1000000<=a1/\a1<=1000000)(h3: -1000000<=b0/\b0<=1000000)(h4: -1000000<=b1/\b1<=1000000):∃n,jG N a0 a1 b0 b1=some n/\0<=n/\(n=0↔JW a0 a1 b0 b1=true):=by
 unfold jG JW
 grind [wrap,fB]
theorem Qp{a b:aK}(h1:dR a=true)(h2:dR b=true):∃n,kV N a b=some n/\(n=0↔MT a b=true):=by
 have b1:=iG h1;have b2:=iG h2;obtain⟨n,n1,n2,n3⟩:=C7 (N:=N) (a0:=a.X0) (a1:=a.X1) (b0:=b.X0) (b1:=b.X1) (by omega) (by omega) (by omega) (by omega);obtain⟨m,m1,m2,m3⟩:=C7 (N:=N) (a0:=a.Y0) (a1:=a.Y1) (b0:=b.Y0) (b1:=b.Y1) (by omega) (by omega) (by omega) (by omega);unfold kV MT;rw[n1,aA,m1,aA]
 grind
def AH(x y:cL):Bool:=(decide (x.cQ<=y.To)&&decide (y.cQ<=x.To))&&MT (C0 x) (C0 y)
def A4(a:iE):Prop:=∃(i k:Nat)(x y:cL),k<i/\a.bQ[i]? =some x/\a.bQ[k]? =some y/\AH x y=true
noncomputable def Hj(r:aL aK):aU Int:=if kM r≠0 then some (kM r)else none
noncomputable def Hk(a:iE):Int:=if 2000<a.dU.length+(a.aS.map List.length).sum then 2 else if nJ a≠0 then nJ a else if nK a≠0 then nK a else if A4 a then 12 else 0
noncomputable def MU(a:iE):Int:=match a.aS.findSome? Hj with|some e=>e|none=>if kM a.dU≠0 then kM a.dU else Hk a
noncomputable def kD(a:iE):Int:=if a.aS.length=0 then 9 else if 16<a.aS.length then 2 else MU a
def Tk(kC:aL (aL aB))(eU:aL (aL<|aL aB)):Prop:=(∀s∈kC,(aT s).length<=2000)/\(cK 0 eU).length<=2000
abbrev C8:=aL (aL aK)×aL aK×aL cL×aL cW×aL (aL aB)×aL aI×aL (aL Int)×aL bM×aL Int×aL Int×aL Int×aL fN
def Ps(a:iE)(x:aU C8×Int):Prop:=
 (kD a≠0/\x=(none,kD a))\/(kD a=0/\q8 a/\¬A4 a/\∃kC eU,yw a.aS a.bQ a.aS.length kC eU/\
  ((¬Tk kC eU/\x=(none,2))\/(Tk kC eU/\∃r gs ofP ofB mq mj,yz a.bQ a.bX (cK 0 eU) r gs ofP ofB mq mj/\
   x=(some (a.aS,a.dU,a.bQ,a.bX,kC,cK 0 eU,lj a.bQ (cK 0 eU),gs,ofP,ofB,mq,mj),0))))
structure zT (a:iE):Prop where
 cs:a.aS.length<=1048576
 each:∀r∈a.aS,r.length<=1048576
 out:a.dU.length<=1048576
 bs:a.bQ.length<=1048576
 ls:a.bX.length<=1048576
 nm:C3 a
theorem Hl{a:iE}(h:bk a<=1048576):zT a:=by
 rw[My]at h;have h1:=pC a.aS;have h2:=pC a.dU;have h3:=pC a.bQ;have h4:=pC a.bX;refine⟨by omega,λr hr=>?_,by omega,by omega,by omega,λx hx=>?_⟩
 ·have:=vB hr
  grind [pC]
 ·have:=vB hx
  grind [JJ,Cs]
theorem EB{a:iE}(hs:zT a)(hN:nb N):Ok (gE N a) (Ps a):=by
 unfold gE;have pe:∀e:Int,e≠0->kD a=e->Ok (some ((none:aU C8),e)) (Ps a):=λe he h=>VV<|.inl ⟨by omega,by rw[h]⟩
 have c1:=hs.cs;refine WE (λh=>?_)<|λh=>?_
 ·grind [kD]
 have h0:¬a.aS.length=0:=by grind
 refine WE (λh=>?_)<|λh=>?_
 ·grind [kD]
 have h1:¬16<a.aS.length:=by grind
 have pe1:kD a=MU a:=by grind [kD]
 have hso:=hs.out;have sumle:∀k,k<=a.aS.length->((a.aS.take k).map List.length).sum<=k*1048576:=by
  intro k
  induction k with
  |zero=>intro _;simp
  |succ k ih=>
   intro hk;have:=ih (by omega);have h2:=hs.each _<|cS (show k<a.aS.length by omega)
   rw[eO (by omega),gC,List.sum_append]
   grind
 refine V3 (X7 (Go:=λs:Int=>s=((a.dU.length+(a.aS.map List.length).sum:Nat):Int)/\∀r∈a.aS,kM r=0) (Rt:=λx:aU C8×Int=>∃e,e≠0/\x=(none,e)/\a.aS.findSome? Hj=some e)
  (λ(k:Nat)(s:Int)=>s=((a.dU.length+((a.aS.take k).map List.length).sum:Nat):Int)/\∀r∈a.aS.take k,kM r=0) (by omega) ⟨by simp,λr hr=>by simp at hr⟩ (λk s hk hI=>?_) (λs hI=>by grind)) ?_
 ·obtain⟨e,hI⟩:=hI;subst e;have hkx:a.aS[k]? =some a.aS[k]:=aM hk;have hts:a.aS.take (k+1)=a.aS.take k++[a.aS[k]]:=eO hk;have he:=hs.each _<|cS hk
  refine Wu hkx<|VT (wm (by omega) hN) ?_
  refine WE (λh=>Xu ?_)<|λh=>Wz ?_
  ·have h:kM a.aS[k]≠0:=by simpa using h
   refine⟨_,h,rfl,?_⟩
   grind [List.findSome?_eq_some_iff,Hj,oy,List.take_append_drop]
  ·have h:kM a.aS[k]=0:=by simpa using h
   have:=sumle k (by omega);have hk16:k*1048576<=16*1048576:=Nat.mul_le_mul_right _ (by omega);refine⟨?_,λr hr=>?_⟩
   ·rw[wrap_add (by omega),hts,gC,List.sum_append];simp only[eZ,List.map_nil,List.sum_cons,List.sum_nil];congr 1;omega
   ·rw[hts]at hr
    rcases dJ.1 hr with hr|hr
    ·exact hI r hr
    ·simp at hr;subst hr;exact h
 intro o ho;refine WH ho ?_ ?_
 rotate_left
 ·rintro x⟨e,he,rfl,hf⟩;exact pe e he (by rw[pe1];unfold MU;rw[hf])
 rintro s⟨rfl,hreg⟩;have Tg:a.aS.findSome? Hj=none:=List.findSome?_eq_none_iff.2 λr hr=>by unfold Hj;rw[aF (by simpa using hreg r hr)]
 have pe2:kD a=if kM a.dU≠0 then kM a.dU else Hk a:=by rw[pe1];unfold MU;rw[Tg]
 refine VT (wm (by omega) hN) ?_;refine WE (λh=>?_)<|λh=>?_
 ·have h:kM a.dU≠0:=by simpa using h
  exact pe _ h (by rw[pe2,aH h])
 have hout:kM a.dU=0:=by simpa using h
 have pe3:kD a=Hk a:=by rw[pe2,aF (by simpa using hout)]
 refine WE (λh=>?_)<|λh=>?_
 ·have h:2000<a.dU.length+(a.aS.map List.length).sum:=by have:=of_decide_eq_true h;omega
  exact pe 2 (by omega) (by rw[pe3];unfold Hk;rw[aH h])
 have hmany:¬2000<a.dU.length+(a.aS.map List.length).sum:=by have:=of_decide_eq_false h;omega
 have hbs:=hs.bs;have hls:=hs.ls;refine VT (DO (by omega) (by omega) (by omega)) ?_;refine WE (λh=>?_)<|λh=>?_
 ·have h:nJ a≠0:=by simpa using h
  exact pe _ h (by rw[pe3];unfold Hk;rw[aF hmany,aH h])
 have hbo:nJ a=0:=by simpa using h
 refine VT (DQ (by omega) (by omega) hs.nm (by omega)) ?_;refine WE (λh=>?_)<|λh=>?_
 ·have h:nK a≠0:=by simpa using h
  exact pe _ h (by rw[pe3];unfold Hk;rw[aF hmany,aF (by simpa using hbo),aH h])
 have hla:nK a=0:=by simpa using h
 have hg:q8 a:=⟨by omega,hreg,hout,by omega,hbo,hla⟩;have pe4:kD a=if A4 a then 12 else 0:=by rw[pe3];unfold Hk;rw[aF hmany,aF (by simpa using hbo),aF (by simpa using hla)]
 refine V3 (X7 (Go:=λ_:Unit=>¬A4 a) (Rt:=λx:aU C8×Int=>x=(none,12)/\A4 a)
  (λ(k:Nat)(_:Unit)=>∀(i j:Nat)(x y:cL),i<k->j<i->a.bQ[i]? =some x->a.bQ[j]? =some y->¬AH x y=true) (by omega) (λi j x y h=>by omega) (λk s hk hI=>?_) (λs hI=>?_)) ?_
 ·have hkx:a.bQ[k]? =some a.bQ[k]:=aM hk;refine Wu hkx<|VT (rI _ k (by omega)) ?_
  have hgk:=hg.gb.ok _<|cS hk
  refine V3 (X7 (Go:=λ_:Unit=>∀(j:Nat)(y:cL),j<k->a.bQ[j]? =some y->¬AH a.bQ[k] y=true) (Rt:=λx:aU C8×Int=>x=(none,12)/\A4 a)
   (λ(t:Nat)(_:Unit)=>∀(j:Nat)(y:cL),j<t->a.bQ[j]? =some y->¬AH a.bQ[k] y=true) (by rw[dD];omega) (λj y h=>by omega) (λt s ht hI2=>?_) (λs hI2 j y hj hy=>hI2 j y (by rw[dD];omega) hy)) ?_
  ·have htk:t<k:=by rw[dD]at ht;omega
   have htx:(a.bQ.take k)[t]? =some a.bQ[t]:=by rw[List.getElem?_take_of_lt htk];exact aM (by omega)
   have hgt:=hg.gb.ok _<|cS (show t<a.bQ.length by omega)
   refine Wu htx ?_;refine VT (x:=AH a.bQ[k] a.bQ[t]) ?_ ?_
   ·unfold AH
    cases hc:(decide (a.bQ[k].cQ<=a.bQ[t].To)&&decide (a.bQ[t].cQ<=a.bQ[k].To))with
    |false=>rfl
    |true=>
     obtain⟨n,n1,n2⟩:=Qp (N:=N) hgk.2 hgt.2;rw[aQ,oq hgk.1,aA,oq hgt.1,aA,n1,aA,Bool.true_and];congr 1;rw[jE,beq_iff_eq];exact n2
   ·refine WE (λh=>Xu ⟨rfl,k,t,_,_,htk,hkx,aM (by omega),h⟩)<|λh=>Wz λj y hj hy=>?_
    by_cases e:j<t
    ·exact hI2 j y e hy
    ·have:j=t:=by omega
     subst this;rw[aM (by omega)]at hy;injection hy with hy
     rw[<-hy,h];simp
  ·intro o ho;refine WH ho (λs hI2=>Wz λi j x y hi hj hx hy=>?_)<|λx hx=>Xu hx
   by_cases e:i<k
   ·exact hI i j x y e hj hx hy
   ·have:i=k:=by omega
    subst this;rw[hkx]at hx;injection hx with hx
    rw[<-hx];exact hI2 j y hj hy
 ·rintro⟨i,j,x,y,hj,hx,hy,hc⟩;exact hI i j x y (bN.1 hx).1 hj hx hy hc
 intro o ho;refine WH ho ?_ ?_
 rotate_left
 ·rintro x⟨rfl,hc⟩;exact pe 12 (by omega) (by rw[pe4,aH hc])
 intro _ hncl;have pe5:kD a=0:=by rw[pe4,aF hncl]
 refine V3 (IH (N:=N) (by omega) hg.cs hg.gb hN) ?_;rintro⟨okk,kC,pcs⟩⟨eU,D,e1,e2⟩;dsimp only at D e1 e2 ⊢;subst e1;refine WE (λh=>VV<|.inr ⟨pe5,hg,hncl,kC,eU,D, .inl ⟨λhf=>?_,rfl⟩⟩)<|λh=>?_
 ·have:=e2.2 hf;rw[this]at h;cases h
 ·have hf:Tk kC eU:=e2.1 (by cases okk <;> simp_all);have hpr:∀p∈cK 0 eU,p.iU.length<=1073741824:=λp hp=>by
   obtain⟨i,r,s,ps,u,j,k,hP⟩:=MS hg D hp;have:=(hP.MM hg).2.2;omega
  have hf2:=hf.2;refine VT (MO hg.gb (by omega) hpr) ?_;refine V3 (FJ (N:=N) hg.gb (by omega) hpr (by omega) hN) ?_;rintro⟨gs,ofP,ofB,mq,mj⟩⟨r,hC⟩;exact VV<|.inr ⟨pe5,hg,hncl,kC,eU,D, .inr ⟨hf,r,gs,ofP,ofB,mq,mj,hC,rfl⟩⟩
end
section
variable {N:Nat}
theorem JX{w:Nat}{g:Nat->Nat}{a:Nat}:∀{ks:aL Nat},ks.Nodup->a∈ks->(ks.map<|λk=>(if a=k then w else 0)+g k).sum=w+(ks.map g).sum
 | [],_,h=>by cases h
 |k::ks,hn,h=>by
  have hn':=List.nodup_cons.1 hn;simp only[eZ,List.sum_cons]
  by_cases e:a=k
  ·subst e;rw[aH rfl];have:ks.map (λk=>(if a=k then w else 0)+g k)=ks.map g:=List.map_congr_left λx hx=>by
    rw[aF<|λe=>hn'.1 (by grind),gL]
   rw[this];omega
  ·rw[aF e,JX hn'.2 (by grind)];omega
theorem Hm{α:Type}{ks:aL Nat}(hn:ks.Nodup)(f w:α->Nat):∀{l:aL α},(∀x∈l,f x∈ks)->(ks.map<|λk=>((l.filter<|λx=>decide<|f x=k).map w).sum).sum=(l.map w).sum
 | [],_=>by
  have:∀ks:aL Nat,(ks.map<|λ_=>0).sum=0:=λks=>by
   induction ks with
   |nil=>rfl
   |cons k ks ih=>simp only[eZ,List.sum_cons,ih]
  simpa using this ks
 |x::l,h=>by
  have ih:=Hm hn f w (l:=l) λy hy=>h y<|mP _ hy
  have:ks.map (λk=>(((x::l).filter<|λx=>decide<|f x=k).map w).sum)=ks.map (λk=>(if f x=k then w x else 0)+((l.filter<|λx=>decide<|f x=k).map w).sum):=List.map_congr_left λk _=>by
   rw[List.filter_cons]
   by_cases e:f x=k
   ·rw[aH (by simpa using e),aH e,eZ,List.sum_cons]
   ·rw[aF (by simpa using e),aF e,gL]
  rw[this,JX hn<|h x (by simp),ih,eZ,List.sum_cons]
theorem zS.ne{a:iE}{kC:aL (aL aB)}{eU:aL (aL<|aL aB)}{p:aI}{i:Nat}{r:aL aK}{s:aL aB}{ps:aL (aL aB)}{u:Nat->Nat}{j k:Nat}(h:zS a kC eU p i r s ps u j k):p.Set≠[]:=by
 intro e;have hh:=jO.1<|gA h.head
 have hx:(aT s)[k]? =some (aT s)[k]:=aM hh.1;have hm:(aT s)[k]∈nI (aT s) (aT s).length u k:=oY.2 ⟨k,hh.1,hh.2,hx⟩;obtain⟨b,hb,q,hq,hr⟩:=rl<|gA hx
 have hbm:cH b∈s.map cH:=cX.2 ⟨b,hb,rfl⟩;have hq1:=Iw (h.dr.can.each _ hbm).2.2.1 q hq;have hb1:=(h.dr.can.each _ hbm).1;have hc:=h.set.cover q.1 b.Y0;rw[e]at hc;have:v9 (nI (aT s) (aT s).length u k) q.1 b.Y0=true:=m6.2 ⟨_,hm,by rw[hr];exact⟨⟨Int.le_refl _,hq1⟩,Int.le_refl _,hb1⟩⟩;rw[this]at hc
 cases hc
structure mO (a:iE) (kC:aL (aL aB)) (eU:aL (aL (aL aB))) (r:Nat->Nat) (gs:aL bM) (ofP ofB mq:aL Int) (mj:aL fN):Prop where
 MV:q8 a
 VI:¬A4 a
 dr:yw a.aS a.bQ a.aS.length kC eU
 Ew:Tk kC eU
 KZ:yz a.bQ a.bX (cK 0 eU) r gs ofP ofB mq mj
inductive Qq (N:Nat) (a:iE):Prop
 |err (e:Int) (he:e≠0) (h:gE N a=some (none,e))
 |ok {kC:aL (aL aB)} {eU:aL (aL (aL aB))} {r:Nat->Nat} {gs:aL bM} {ofP ofB mq:aL Int} {mj:aL fN} (b:mO a kC eU r gs ofP ofB mq mj)
  (h:gE N a=some (some (a.aS,a.dU,a.bQ,a.bX,kC,cK 0 eU,lj a.bQ<|cK 0 eU,gs,ofP,ofB,mq,mj),0))
theorem opened{a:iE}(hs:zT a)(hN:nb N):Qq N a:=by
 obtain⟨x,hx,hI⟩:=EB (N:=N) hs hN
 rcases hI with⟨he,rfl⟩|⟨_,hg,hcl,kC,eU,D,⟨_,rfl⟩|⟨hf,r,gs,ofP,ofB,mq,mj,hC,rfl⟩⟩
 ·exact .err _ he hx
 ·exact .err 2 (by omega) hx
 ·exact .ok ⟨hg,hcl,D,hf,hC⟩ hx
end
section
variable {S R:Type}
theorem Xv{body:S->aU (Fl S R)}{N n:Nat}{s:S}(ι:S->Int)(Inv:Nat->S->Prop){Go:S->Prop}{Rt:R->Prop}
  (h1:∀k s,k<n->ι s=((k:Nat):Int)->Inv k s->Ok (body s) (Pm (λs'=>ι s'=((k+1:Nat):Int)/\Inv (k+1) s') Go Rt))
  (h2:∀s,ι s=(n:Int)->Inv n s->Ok (body s) (Pm (λ_=>False) Go Rt))
  {k0:Nat} (hk:k0<=n) (hi:ι s=(k0:Int)) (h0:Inv k0 s) (hn:n<N):Ok (Gk.kb body N s) (NL Go Rt):=by
 refine WS (λs=>∃k:Nat,k<=n/\ι s=((k:Nat):Int)/\Inv k s) (λs=>n -(ι s).toNat) ?_ ⟨k0,hk,hi,h0⟩ (by omega);rintro s⟨k,hk,e,hI⟩
 by_cases hlt:k<n
 ·refine(h1 k s hlt e hI).mono ?_;rintro(s'|s'|r)hp
  ·have hp1:ι s'=((k+1:Nat):Int):=hp.1;exact⟨⟨k+1,hlt,hp.1,hp.2⟩,by omega⟩
  ·exact hp
  ·exact hp
 grind
theorem Bu{k n:Nat}(h:k<n):decide ((k:Int)<(n:Int))=true:=bU (by omega)
theorem FK(n:Nat):decide ((n:Int)<(n:Int))=false:=bS (by omega)
theorem JY{k n:Nat}(h:n<=k):decide ((k:Int)<(n:Int))=false:=bS (by omega)
end
section
variable {N:Nat}
theorem FL(a b:Int):(if a<b then b else a)=max a b:=by omega
end
end Go.Gk
namespace Go.Gk
open Go IntKind
section
variable {α:Type}{R:α->α->Prop}{lt:α->α->Bool}
def wu(R:α->α->Prop)(lt:α->α->Bool)(x y:α):Prop:=(lt y x=true↔R y x)/\(R x y\/R y x)
theorem wu.t{x y:α}(h:wu R lt x y)(e:lt y x=true):R y x:=h.1.1 e
theorem wu.f{x y:α}(h:wu R lt x y)(e:lt y x=false):R x y:=by
 rcases h.2 with h2|h2
 ·exact h2
 ·rw[h.1.2 h2]at e;cases e
structure qN (R:α->α->Prop) (lt:α->α->Bool) (X Y:aL α):Prop where
 l:X.Pairwise R
 r:Y.Pairwise R
 asks:∀x∈X,∀y∈Y,wu R lt x y
structure Bv (R:α->α->Prop) (X Y Z:aL α):Prop where
 perm:Z.Perm (X++Y)
 sorted:Z.Pairwise R
theorem FM{X:aL α}{x u:α}(h:(X++[x]).Pairwise R)(hu:u∈X++[x]):u=x\/R u x:=by
 rw[eH]at h
 rcases dJ.1 hu with hu|hu
 ·exact .inr<|h.2.2 u hu x (by simp)
 ·exact .inl (by simpa using hu)
theorem JZ{X:aL α}{x u:α}(h:(x::X).Pairwise R)(hu:u∈x::X):u=x\/R x u:=by
 rw[jD]at h
 rcases eV.1 hu with hu|hu
 ·exact .inl hu
 ·exact .inr<|h.1 u hu
theorem K0{X1 X2 Y1 Y2:aL α}(tr:∀x y z,R x y->R y z->R x z)(h:qN R lt (X1++X2) (Y1++Y2))
  (h1:X1= []\/Y2= []\/∃X0 x y Y0,X1=X0++[x]/\Y2=y::Y0/\lt y x=false)
  (h2:Y1= []\/X2= []\/∃Y0 y x X0,Y1=Y0++[y]/\X2=x::X0/\lt y x=true):∀u∈X1++Y1,∀v∈X2++Y2,R u v:=by
 intro u hu v hv;have hl:=eH.1 h.l;have hr:=eH.1 h.r
 rcases dJ.1 hu with hu|hu <;> rcases dJ.1 hv with hv|hv
 ·exact hl.2.2 u hu v hv
 ·rcases h1 with rfl|rfl|⟨X0,x,y,Y0,rfl,rfl,e⟩
  ·simp at hu
  ·simp at hv
  ·have hxy:R x y:=(h.asks x (by simp) y (by simp)).f e
   rcases FM hl.1 hu with rfl|h3 <;> rcases JZ hr.2.1 hv with rfl|h4
   ·exact hxy
   ·exact tr _ _ _ hxy h4
   ·exact tr _ _ _ h3 hxy
   ·exact tr _ _ _ h3<|tr _ _ _ hxy h4
 ·rcases h2 with rfl|rfl|⟨Y0,y,x,X0,rfl,rfl,e⟩
  ·simp at hu
  ·simp at hv
  ·have hyx:R y x:=(h.asks x (by simp) y (by simp)).t e
   rcases FM hr.1 hu with rfl|h3 <;> rcases JZ hl.2.1 hv with rfl|h4
   ·exact hyx
   ·exact tr _ _ _ hyx h4
   ·exact tr _ _ _ h3 hyx
   ·exact tr _ _ _ h3<|tr _ _ _ hyx h4
 ·exact hr.2.2 u hu v hv
theorem qN.left{X1 X2 Y1 Y2:aL α}(h:qN R lt (X1++X2) (Y1++Y2)):qN R lt X1 Y1:=
 ⟨(eH.1 h.l).1,(eH.1 h.r).1,λx hx y hy=>h.asks x (by simp[hx]) y (by simp[hy])⟩
theorem qN.right{X1 X2 Y1 Y2:aL α}(h:qN R lt (X1++X2) (Y1++Y2)):qN R lt X2 Y2:=
 ⟨(eH.1 h.l).2.1,(eH.1 h.r).2.1,λx hx y hy=>h.asks x (by simp[hx]) y (by simp[hy])⟩
theorem Bv.Pt{Y:aL α}(h:Y.Pairwise R):Bv R [] Y Y:=⟨List.Perm.refl _,h⟩
theorem Bv.Pv{X:aL α}(h:X.Pairwise R):Bv R X [] X:=⟨by simp,h⟩
theorem Bv.both{X1 X2 Y1 Y2 Z1 Z2:aL α}(hb:∀u∈X1++Y1,∀v∈X2++Y2,R u v)(h1:Bv R X1 Y1 Z1)(h2:Bv R X2 Y2 Z2):Bv R (X1++X2) (Y1++Y2) (Z1++Z2):=by
 refine⟨?_,eH.2 ⟨h1.sorted,h2.sorted,λu hu v hv=>hb u (h1.perm.mem_iff.1 hu) v<|h2.perm.mem_iff.1 hv⟩⟩;refine(h1.perm.append h2.perm).trans ?_;rw[dL,dL];refine List.Perm.append_left _ ?_;rw[<-dL,<-dL];exact List.perm_append_comm.append_right _
theorem Bv.S6{x:α}{Y1 Y2:aL α}(tr:∀x y z,R x y->R y z->R x z)(h:qN R lt [x] (Y1++Y2))(h1:∀y∈Y1,lt y x=true)(h2:∀y∈Y2,lt y x=false):Bv R [x] (Y1++Y2) (Y1++x::Y2):=by
 have hr:=eH.1 h.r;have a1:∀y∈Y1,R y x:=λy hy=>(h.asks x (by simp) y (by simp[hy])).t<|h1 y hy
 have a2:∀y∈Y2,R x y:=λy hy=>(h.asks x (by simp) y (by simp[hy])).f<|h2 y hy
 refine⟨List.perm_middle,eH.2 ⟨hr.1,jD.2 ⟨a2,hr.2.1⟩,λu hu v hv=>?_⟩⟩
 rcases eV.1 hv with rfl|hv
 ·exact a1 u hu
 ·exact hr.2.2 u hu v hv
theorem Bv.S7{y:α}{X1 X2:aL α}(tr:∀x y z,R x y->R y z->R x z)(h:qN R lt (X1++X2) [y])(h1:∀x∈X1,lt y x=false)(h2:∀x∈X2,lt y x=true):Bv R (X1++X2) [y] (X1++y::X2):=by
 have hl:=eH.1 h.l;have a1:∀x∈X1,R x y:=λx hx=>(h.asks x (by simp[hx]) y (by simp)).f<|h1 x hx
 have a2:∀x∈X2,R y x:=λx hx=>(h.asks x (by simp[hx]) y (by simp)).t<|h2 x hx
 refine⟨?_,eH.2 ⟨hl.1,jD.2 ⟨a2,hl.2.1⟩,λu hu v hv=>?_⟩⟩
 ·exact List.perm_middle.trans<|List.perm_append_comm (l₁:=[y]) (l₂:=X1++X2)
 rcases eV.1 hv with rfl|hv
 ·exact a1 u hu
 ·exact hl.2.2 u hu v hv
theorem OC(A B C D E:aL α)(p:Nat):(A++B++C++D++E)[p]? =if p<A.length then A[p]? else if p<A.length+B.length then B[p - A.length]? else if p<A.length+B.length+C.length then C[p -(A.length+B.length)]?
  else if p<A.length+B.length+C.length+D.length then D[p -(A.length+B.length+C.length)]? else E[p -(A.length+B.length+C.length+D.length)]? :=by
 by_cases h4:p<A.length+B.length+C.length+D.length
 ·rw[gD (by simp only[bO];exact h4)]
  by_cases h3:p<A.length+B.length+C.length
  ·rw[gD (by simp only[bO];exact h3)]
   by_cases h2:p<A.length+B.length
   ·rw[gD (by simp only[bO];exact h2)]
    by_cases h1:p<A.length
    ·rw[gD h1,aH h1]
    ·rw[fZ (by omega),aF h1,aH h2]
   ·rw[fZ (by simp only[bO];omega),aF (by omega),aF h2,aH h3,bO]
  ·rw[fZ (by simp only[bO];omega),aF (by omega),aF (by omega),aF h3,aH h4,bO,bO]
 ·rw[fZ (by simp only[bO];omega),aF (by omega),aF (by omega),aF (by omega),aF h4,bO,bO,bO]
theorem MW{P U Q V S D:aL α}{a b n:Nat}(ha:P.length=a)(hb:a+n+Q.length=b)(hu:U.length=n)(hv:V.length=n)
  (h:∀p:Nat,D[p]? =if a<=p/\p<a+n then(P++U++Q++V++S)[p - a+b]? else if b<=p/\p<b+n then(P++U++Q++V++S)[p - b+a]? else(P++U++Q++V++S)[p]?):D=P++V++Q++U++S:=by
 refine List.ext_getElem? λp=>?_;rw[h p,OC,OC,OC,OC,ha,hu,hv]
 by_cases h1:p<a
 ·rw[aF (by omega),aF (by omega),aH h1,aH h1]
 by_cases h2:p<a+n
 ·rw[aH ⟨by omega,h2⟩,aF (by omega),aF (by omega),aF (by omega),aH (by omega),aF h1,aH h2];congr 1;omega
 by_cases h3:p<b
 ·rw[aF (by omega),aF (by omega),aF h1,aF h2,aH (by omega),aF h1,aF h2,aH (by omega)]
 by_cases h4:p<b+n
 ·rw[aF (by omega),aH ⟨by omega,h4⟩,aF (by omega),aH (by omega),aF h1,aF h2,aF (by omega),aH (by omega)];congr 1;omega
 ·rw[aF (by omega),aF (by omega),aF h1,aF h2,aF (by omega),aF (by omega),aF h1,aF h2,aF (by omega),aF (by omega)]
end
section
variable {α:Type}
theorem iZ{n m:Nat}(h:m<=n)(hn:n<=4611686018427387904):wrap .i64 ((n:Int) -(m:Int))=((n - m:Nat):Int):=by
 rw[show(n:Int) -(m:Int)=((n - m:Nat):Int)by omega];exact qj (by omega)
theorem wv{n:Nat}(h:0<n)(hn:n<=4611686018427387904):wrap .i64 ((n:Int) - 1)=((n - 1:Nat):Int):=iZ (m:=1) h hn
theorem sC{L W:aL α}{u:α}{k:Nat}(hk:L.length=k):(L++u::W)[k]? =some u:=by
 subst hk;simp
theorem OD{L W:aL α}{u v:α}{k:Nat}(hk:L.length=k):((L++u::v::W).set k v).set (k+1) u=L++v::u::W:=by
 subst hk;rw[List.set_append_right _ _<|bW _,Nat.sub_self,List.set_cons_zero,List.set_append_right _ _ (by omega),show L.length+1 - L.length=1 by omega,List.set_cons_succ,List.set_cons_zero]
theorem Hn{L W:aL α}{u v:α}{k:Nat}(hk:L.length=k):((L++u::v::W).set (k+1) u).set k v=L++v::u::W:=by
 subst hk;rw[List.set_append_right _ _ (by omega),show L.length+1 - L.length=1 by omega,List.set_cons_succ,List.set_cons_zero,List.set_append_right _ _<|bW _,Nat.sub_self,List.set_cons_zero]
theorem FN{N lo hi:Nat}{body:Int×Int->aU (Fl (Int×Int) Empty)}(pr:Nat->Bool)(hmono:∀c d,lo<=c->c<=d->d<hi->pr d=true->pr c=true)
  (hb:∀i j:Nat,lo<=i->i<j->j<=hi->body ((i:Int),(j:Int))=some (.nx (if pr ((i+j) / 2)=true then((((i+j) / 2+1:Nat):Int),(j:Int))else((i:Int),(((i+j) / 2:Nat):Int)))))
  (he:∀i:Nat,body ((i:Int),(i:Int))=some (.br ((i:Int),(i:Int)))) (hle:lo<=hi) (hN:hi<N):
  ∃c:Nat,kb body N ((lo:Int),(hi:Int))=some (.go (((c:Nat):Int),((c:Nat):Int)))/\lo<=c/\c<=hi/\(∀x,lo<=x->x<c->pr x=true)/\(∀x,c<=x->x<hi->pr x=false):=by
 have key:Ok (kb body N ((lo:Int),(hi:Int))) (NL (λs=>∃c:Nat,s=(((c:Nat):Int),((c:Nat):Int))/\lo<=c/\c<=hi/\(∀x,lo<=x->x<c->pr x=true)/\(∀x,c<=x->x<hi->pr x=false))<|λ_=>False):=by
  refine WS (λs=>∃i j:Nat,s=((i:Int),(j:Int))/\lo<=i/\i<=j/\j<=hi/\(∀x,lo<=x->x<i->pr x=true)/\(∀x,j<=x->x<hi->pr x=false)) (λs=>(s.2 - s.1).toNat) ?_ ⟨lo,hi,rfl,bW _,hle,bW _,λx h1 h2=>by omega,λx h1 h2=>by omega⟩ (by dsimp only;omega);rintro s⟨i,j,rfl,h1,h2,h3,h4,h5⟩
  by_cases hij:i=j
  ·subst hij;rw[he i];exact WG ⟨i,rfl,h1,h3,h4,h5⟩
  ·rw[hb i j h1 (by omega) h3];have hm1:i<=(i+j) / 2:=by omega
   have hm2:(i+j) / 2<j:=by omega
   cases hp:pr ((i+j) / 2)with
   |true=>
    rw[aH rfl];refine Wz ⟨⟨(i+j) / 2+1,j,rfl,by omega,by omega,h3,λx hx1 hx2=>hmono x ((i+j) / 2) hx1 (by omega) (by omega) hp,h5⟩,by dsimp only;omega⟩
   |false=>
    rw[aF wF];refine Wz ⟨⟨i,(i+j) / 2,rfl,h1,by omega,by omega,h4,λx hx1 hx2=>?_⟩,by dsimp only;omega⟩
    cases hx:pr x with
    |false=>rfl
    |true=>rw[hmono ((i+j) / 2) x (by omega) hx1 hx2 hx]at hp;cases hp
 obtain⟨o,h1,h2⟩:=key
 cases o with
 |rt r=>exact h2.elim
 |go s=>obtain⟨c,rfl,h⟩:=h2;exact⟨c,h1,h⟩
end
section
variable {N:Nat}{φ:aC->aC->aU Int}{cf:aC->aC->Int}{R:aC->aC->Prop}
theorem C9{P U Q V S:aL aC}{a b n:Nat}(ha:P.length=a)(hb:a+n+Q.length=b)(hu:U.length=n)(hv:V.length=n)(hl:(P++U++Q++V++S).length<=1073741824)(hN:nb N):
  dT N (P++U++Q++V++S) (a:Int) (b:Int) (n:Int) φ=some (P++V++Q++U++S):=by
 refine W9 ?_;unfold dT;have hlen:(P++U++Q++V++S).length=b+n+S.length:=by simp only[bO];omega
 generalize hD:P++U++Q++V++S=D at *
 refine V3 (Xv (n:=n) (λs=>s.2) (λk s=>∀p:Nat,s.1[p]? =if a<=p/\p<a+k then D[p - a+b]? else if b<=p/\p<b+k then D[p - b+a]? else D[p]?) (Go:=λs=>s.1=P++V++Q++U++S) (Rt:=λ_=>False) ?_ ?_ (ox _) rfl (λp=>by
   rw[aF (by omega),aF (by omega)]) (by omega)) ?_
 ·rintro k⟨T,i⟩hk e hI;dsimp only at e hI ⊢;subst e;rw[Bu hk,aQ,wrap_add (by omega),wrap_add (by omega)];have e1:T[b+k]? =some (D[b+k]'(by omega)):=by rw[hI,aF (by omega),aF (by omega)];exact aM _
  have e2:T[a+k]? =some (D[a+k]'(by omega)):=by rw[hI,aF (by omega),aF (by omega)];exact aM _
  have e3:(T.set (a+k)<|D[b+k]'(by omega))[b+k]? =some (D[b+k]'(by omega)):=by rw[List.getElem?_set_ne (by omega)];exact e1
  have hT1:=(bN.1 e1).1;have hT2:=(bN.1 e2).1;rw[cG e1,aA,cG e2,aA,aA,cR,cG e3,aA,cR];refine Wz ⟨eN (by omega),λp=>?_⟩;dsimp only;rw[lk,lk,j8];have:=hI p
  by_cases p1:b+k=p
  ·subst p1;rw[aH rfl,aH hT1,aF (by omega),aH (by omega),show b+k - b+a=a+k by omega];exact(aM _).symm
  ·rw[aF p1]
   by_cases p2:a+k=p
   ·subst p2;rw[aH rfl,aH hT2,aH (by omega),show a+k - a+b=b+k by omega];exact(aM _).symm
   ·rw[aF p2,this]
    by_cases q1:a<=p/\p<a+k
    ·rw[aH q1,aH (by omega)]
    ·rw[aF q1,aF (show ¬(a<=p/\p<a+(k+1))by omega)]
     by_cases q2:b<=p/\p<b+k
     ·rw[aH q2,aH (show b<=p/\p<b+(k+1)by omega)]
     ·rw[aF q2,aF (show ¬(b<=p/\p<b+(k+1))by omega)]
 ·rintro⟨T,i⟩e hI;dsimp only at e hI ⊢;subst e;rw[FK,aP];refine WG ?_;subst hD;exact MW ha hb hu hv hI
 ·intro o ho;exact WH ho (λs hs=>VV hs)<|λr h=>h.elim
theorem Qr{P X Y S:aL aC}{a m b:Nat}(ha:P.length=a)(hm:a+X.length=m)(hb:m+Y.length=b)(hx:0<X.length)(hy:0<Y.length)(hl:(P++X++Y++S).length<=1073741824)(hN:nb N):
  fz N (P++X++Y++S) (a:Int) (m:Int) (b:Int) φ=some (P++Y++X++S):=by
 have hlen:(P++X++Y++S).length=b+S.length:=by simp only[bO];omega
 refine W9 ?_;unfold fz;rw[iZ (by omega) (by omega),iZ (by omega) (by omega)]
 refine V3 (WS (λs=>∃(P' X' Y' S':aL aC),s=(P'++X'++Y'++S',(X'.length:Int),(Y'.length:Int))/\P'.length+X'.length=m/\0<X'.length/\0<Y'.length/\P'++Y'++X'++S'=P++Y++X++S)
  (λs=>(s.2.1+s.2.2).toNat) (Go:=λs=>∃(P' X' Y' S':aL aC),s=(P'++X'++Y'++S',(X'.length:Int),(X'.length:Int))/\P'.length+X'.length=m/\X'.length=Y'.length/\P'++Y'++X'++S'=P++Y++X++S) (Rt:=λ_=>False) ?_
  ⟨P,X,Y,S,by rw[show m - a=X.length by omega,show b - m=Y.length by omega],by omega,hx,hy,rfl⟩ (by dsimp only;omega)) ?_
 ·rintro s⟨P',X',Y',S',rfl,h1,h2,h3,h4⟩;dsimp only;have hl':P'.length+Y'.length+X'.length+S'.length=b+S.length:=by
   have:=congrArg List.length h4;simp only[bO]at this;omega
  by_cases he:X'.length=Y'.length
  ·rw[he,bne_self_eq_false,aP,<-he];exact WG ⟨P',X',Y',S',by rw[he],h1,he,h4⟩
  ·rw[show((X'.length:Int) != (Y'.length:Int))=true by rw[bne_iff_ne];omega,aQ]
   by_cases hg:Y'.length<X'.length
   ·rw[bU (show(X'.length:Int)>(Y'.length:Int)by omega),aQ,iZ (by omega) (by omega),iZ (by omega) (by omega)];have hs:=C9 (N:=N) (φ:=φ) (P:=P') (U:=X'.take Y'.length) (Q:=X'.drop Y'.length) (V:=Y') (S:=S') (a:=m - X'.length) (b:=m) (n:=Y'.length) (by omega) (by rw[f9];omega) (by rw[dD];omega) rfl (by simp only[bO,dD,f9];omega) hN;rw[show P'++X'.take Y'.length++X'.drop Y'.length=P'++X' by rw[dL,List.take_append_drop]]at hs;rw[hs,aA,aA];refine Wz ⟨⟨P'++Y',X'.drop Y'.length,X'.take Y'.length,S',?_,?_,?_,?_,?_⟩,?_⟩
    ·rw[f9,dD,show min Y'.length X'.length=Y'.length by omega]
    ·simp only[bO,f9];omega
    ·simp only[f9];omega
    ·simp only[dD];omega
    ·rw[<-h4];simp
    ·dsimp only;omega
   ·rw[bS (show ¬(X'.length:Int)>(Y'.length:Int)by omega),aP,iZ (by omega) (by omega),wrap_add (by omega),iZ (by omega) (by omega),iZ (by omega) (by omega)];have hs:=C9 (N:=N) (φ:=φ) (P:=P') (U:=X') (Q:=Y'.take<|Y'.length - X'.length) (V:=Y'.drop<|Y'.length - X'.length) (S:=S') (a:=m - X'.length) (b:=m+Y'.length - X'.length) (n:=X'.length) (by omega) (by rw[dD];omega) rfl (by rw[f9];omega) (by simp only[bO,dD,f9];omega) hN;rw[show P'++X'++Y'.take (Y'.length - X'.length)++Y'.drop (Y'.length - X'.length)=P'++X'++Y' by rw[dL<|P'++X',List.take_append_drop]]at hs;rw[hs,aA,aA];refine Wz ⟨⟨P',Y'.drop<|Y'.length - X'.length,Y'.take<|Y'.length - X'.length,X'++S',?_,?_,?_,?_,?_⟩,?_⟩
    ·rw[f9,dD,show min (Y'.length - X'.length) Y'.length=Y'.length - X'.length by omega,show Y'.length -(Y'.length - X'.length)=X'.length by omega];simp
    ·simp only[f9];omega
    ·simp only[f9];omega
    ·simp only[dD];omega
    ·rw[<-h4,show P'++Y'.take (Y'.length - X'.length)++Y'.drop (Y'.length - X'.length)=P'++Y' by rw[dL,List.take_append_drop]];simp
    ·dsimp only;omega
 ·intro o ho;refine WH ho ?_<|λr h=>h.elim
  rintro s⟨P',X',Y',S',rfl,h1,h2,h4⟩;dsimp only;have hl':P'.length+Y'.length+X'.length+S'.length=b+S.length:=by
   have:=congrArg List.length h4;simp only[bO]at this;omega
  rw[iZ (by omega) (by omega)];have hs:=C9 (N:=N) (φ:=φ) (P:=P') (U:=X') (Q:=[]) (V:=Y') (S:=S') (a:=m - X'.length) (b:=m) (n:=X'.length) (by omega) (by simp;omega) rfl h2.symm (by simp only[bO,List.length_nil];omega) hN;rw[iR,iR]at hs;rw[hs,aA,h4];exact VV rfl
end
section
variable {N:Nat}{φ:aC->aC->aU Int}{cf:aC->aC->Int}{R:aC->aC->Prop}
def xU(cf:aC->aC->Int)(x y:aC):Bool:=decide<|cf x y<0
theorem MX(hφ:∀x y,φ x y=some (cf x y))(tr:∀x y z,R x y->R y z->R x z){P X S:aL aC}{a b:Nat}(ha:P.length=a)(hb:a+X.length=b)(hA:X.Pairwise (wu R<|xU cf))(hl:(P++X++S).length<=1073741824)(hN:nb N):
  ∃Z,cY N (P++X++S) (a:Int) (b:Int) φ=some (P++Z++S)/\Z.Perm X/\Z.Pairwise R:=by
 have hlen:(P++X++S).length=b+S.length:=by simp only[bO];omega
 have key:Ok (cY N (P++X++S) (a:Int) (b:Int) φ) (λD=>∃Z,D=P++Z++S/\Z.Perm X/\Z.Pairwise R):=by
  unfold cY;rw[eN (by omega)]
  refine V3 (WS (λs=>∃(i:Nat)(Z:aL aC),s=(P++Z++(X.drop i++S),((a+i:Nat):Int))/\1<=i/\i<=X.length+1/\Z.Perm (X.take i)/\Z.Pairwise R) (λs=>b+1 - s.2.toNat)
   (Go:=λs=>∃Z,s.1=P++Z++S/\Z.Perm X/\Z.Pairwise R) (Rt:=λ_=>False) ?_ ⟨1,X.take 1,by rw[show P++X.take 1++(X.drop 1++S)=P++X++S by rw[<-dL,dL P,List.take_append_drop]],bW _,by omega,List.Perm.refl _,by
    cases X with
    |nil=>simp
    |cons x X=>simp⟩ (by omega)) ?_
  ·rintro s⟨i,Z,rfl,h1,h2,hp,hs⟩;dsimp only
   by_cases hi:i<X.length
   ·rw[Bu (show a+i<b by omega),aQ];have hZl:Z.length=i:=by rw[hp.length_eq,dD];omega
    have hX:X.drop i=X[i]::X.drop (i+1):=oy hi;have hask:∀c∈Z,wu R (xU cf) c X[i]:=λc hc=>by
     have h3:=eH.1 (show(X.take i++X.drop i).Pairwise (wu R<|xU cf)by rw[List.take_append_drop];exact hA);exact h3.2.2 c (hp.mem_iff.1 hc) X[i] (by rw[hX];exact List.mem_cons_self)
    refine V3 (WS (λs=>∃A B:aL aC,s=(P++A++X[i]::(B++(X.drop (i+1)++S)),((a+A.length:Nat):Int))/\A++B=Z/\∀u∈B,R X[i] u) (λs=>s.2.toNat)
     (Go:=λs=>∃A B:aL aC,s.1=P++A++X[i]::(B++(X.drop (i+1)++S))/\A++B=Z/\(∀u∈B,R X[i] u)/\∀u∈A,R u X[i]) (Rt:=λ_=>False) ?_ ⟨Z,[],by rw[hX,hZl];rfl,by simp,by simp⟩ (by dsimp only;omega)) ?_
    ·rintro s⟨A,B,rfl,hAB,hB⟩;dsimp only;have hABl:A.length+B.length=i:=by rw[<-bO,hAB,hZl]
     rcases List.eq_nil_or_concat A with rfl|⟨A0,c,rfl⟩
     ·rw[bS (show ¬((a+([]:aL aC).length:Nat):Int)>(a:Int)by simp),aP,aA,aP];exact WG ⟨[],B,rfl,hAB,hB,by simp⟩
     ·rw[List.concat_eq_append]at hAB hABl ⊢;simp only[bO,fQ,List.length_nil]at hABl ⊢;rw[bU (show((a+(A0.length+(0+1)):Nat):Int)>(a:Int)by omega),aQ,wv (by omega) (by omega)];have eL:P++(A0++[c])++X[i]::(B++(X.drop (i+1)++S))=(P++A0)++c::X[i]::(B++(X.drop (i+1)++S)):=by simp
      rw[eL];have g1:((P++A0)++c::X[i]::(B++(X.drop (i+1)++S)))[a+(A0.length+(0+1))]? =some X[i]:=by
       have:=sC (L:=P++A0++[c]) (W:=B++(X.drop (i+1)++S)) (u:=X[i]) (k:=a+(A0.length+(0+1))) (by simp only[bO,fQ,List.length_nil];omega);simpa using this
      have g2:((P++A0)++c::X[i]::(B++(X.drop (i+1)++S)))[a+(A0.length+(0+1)) - 1]? =some c:=sC (by simp only[bO];omega);rw[cG g1,aA,cG g2,aA,hφ,aA,aA];have hcZ:c∈Z:=by rw[<-hAB];simp
      cases hc:decide (cf X[i] c<0)with
      |true=>
       rw[aQ,aA,aA,aA,cR,cR];have hkk:a+(A0.length+(0+1))=a+A0.length+1:=by omega
       have g3:(((P++A0)++c::X[i]::(B++(X.drop (i+1)++S))).set (a+(A0.length+(0+1))) c)[a+(A0.length+(0+1)) - 1]? =some c:=by
        rw[List.getElem?_set_ne (by omega)];exact g2
       rw[cG g3,aA];have hsw:=Hn (L:=P++A0) (W:=B++(X.drop (i+1)++S)) (u:=c) (v:=X[i]) (k:=a+A0.length) (by simp only[bO];omega);rw[hkk,show a+A0.length+1 - 1=a+A0.length by omega,hsw];refine Wz ⟨⟨A0,c::B,by simp,by rw[<-hAB];simp,λu hu=>?_⟩,by simp only[cR];omega⟩
       rcases eV.1 hu with rfl|hu
       ·exact(hask _ hcZ).t hc
       ·exact hB u hu
      |false=>
       rw[aP];have hce:R c X[i]:=(hask _ hcZ).f hc;refine WG ⟨A0++[c],B,by simp,hAB,hB,λu hu=>?_⟩;have hsA:(A0++[c]).Pairwise R:=by rw[<-hAB]at hs;exact(eH.1 hs).1
       rcases FM hsA hu with rfl|h
       ·exact hce
       ·exact tr _ _ _ h hce
    ·intro o ho;refine WH ho ?_<|λr h=>h.elim
     rintro⟨T,j⟩⟨A,B,hT,hAB,hB,hA2⟩;dsimp only at hT ⊢;subst hT;rw[eN (by omega)];refine Wz ⟨⟨i+1,A++X[i]::B,by simp;omega,by omega,by omega,?_,?_⟩,by simp only[cR];omega⟩
     ·rw[eO hi];refine List.Perm.trans ?_<|hp.append_right _
      rw[<-hAB];exact List.perm_middle.trans<|List.perm_append_comm (l₁:=[X[i]])
     ·rw[<-hAB,eH]at hs;refine eH.2 ⟨hs.1,jD.2 ⟨hB,hs.2.1⟩,λu hu v hv=>?_⟩
      rcases eV.1 hv with rfl|hv
      ·exact hA2 u hu
      ·exact hs.2.2 u hu v hv
   ·rw[JY (show b<=a+i by omega),aP];refine WG ⟨Z,?_,?_,hs⟩
    ·dsimp only;rw[List.drop_eq_nil_of_le (by omega),List.nil_append]
    ·rw[pK (by omega)]at hp;exact hp
  ·intro o ho;exact WH ho (λs hs=>VV hs)<|λr h=>h.elim
 obtain⟨D,h1,Z,rfl,h2,h3⟩:=key;exact⟨Z,h1,h2,h3⟩
theorem BQ{a b:Nat}(h:a<=b)(hb:b<=1073741824):wrap .i64 (Int.fdiv (wrap .u64<|wrap .i64<|(a:Int)+(b:Int)) 2)=(((a+b) / 2:Nat):Int):=by
 rw[wrap_add (by omega)];have e:wrap .u64 ((a+b:Nat):Int)=((a+b:Nat):Int):=by
  show((a+b:Nat):Int) % 18446744073709551616=_;omega
 rw[e,Int.fdiv_eq_ediv_of_nonneg _ (by omega),show((a+b:Nat):Int) / 2=(((a+b) / 2:Nat):Int)by omega];exact qj (by omega)
theorem K3(hφ:∀x y,φ x y=some (cf x y))(tr:∀x y z,R x y->R y z->R x z){rc:aL aC->Int->Int->Int->(aC->aC->aU Int)->aU (aL aC)}{P Y S:aL aC}{x:aC}{a m b:Nat}(ha:P.length=a)(hm:a+1=m)(hb:m+Y.length=b)
  (h:qN R (xU cf) [x] Y) (hl:(P++[x]++Y++S).length<=1073741824) (hN:nb N):
  ∃Z,cZ N rc (P++[x]++Y++S) (a:Int) (m:Int) (b:Int) φ=some (P++Z++S)/\Bv R [x] Y Z:=by
 have hlen:(P++[x]++Y++S).length=b+S.length:=by simp only[bO,fQ,List.length_nil];omega
 have gx:(P++[x]++Y++S)[a]? =some x:=by
  have:=sC (L:=P) (W:=Y++S) (u:=x) ha;simpa using this
 have gy:∀h:Nat,(h0:m<=h)->(hh:h<b)->(P++[x]++Y++S)[h]? =some (Y[h - m]'(by omega)):=λh h1 h2=>by
  rw[dL<|P++[x],fZ (by simp;omega),gD (by simp;omega),aM (by simp;omega)];congr 2;simp;omega
 unfold cZ;rw[iZ (by omega) (by omega),show((((m - a:Nat):Nat):Int)==1)=true by rw[beq_iff_eq];omega,aQ];obtain⟨c,hc,h1,h2,h3,h4⟩:=FN (N:=N) (lo:=m) (hi:=b) (body:=λ(s74:Int×Int)=>(bif s74.1<s74.2 then((idx (P++[x]++Y++S)<|wrap .i64<|Int.fdiv (wrap .u64<|wrap .i64<|s74.1+s74.2) 2).bind λx87=>(idx (P++[x]++Y++S) (a:Int)).bind λx89=>(φ x87 x89).bind λx91=>(bif x91<0 then some (wrap .i64<|wrap .i64 (Int.fdiv (wrap .u64<|wrap .i64<|s74.1+s74.2) 2)+1,s74.2)else some (s74.1,wrap .i64<|Int.fdiv (wrap .u64<|wrap .i64<|s74.1+s74.2) 2)).bind λs92=>some<|.nx (s92.1,s92.2))else(some<|.br (s74.1,s74.2)):aU (Fl (Int×Int) Empty)))
  (λh=>match Y[h - m]? with|some y=>xU cf y x|none=>false) (λc d h1 h2 h3 h4=>by
   have e1:Y[c - m]? =some (Y[c - m]'(by omega)):=aM _;have e2:Y[d - m]? =some (Y[d - m]'(by omega)):=aM _;rw[e2]at h4;rw[e1];dsimp only at h4 ⊢
   by_cases hcd:c=d
   ·subst hcd;exact h4
   ·have a1:=(h.asks x (by simp) _<|cS (l:=Y) (n:=d - m) (by omega)).t h4;have a2:=iS.1 h.r (c - m) (d - m) (by omega) (by omega) (by omega)
    exact(h.asks x (by simp) _ (cS (l:=Y) (n:=c - m) (by omega))).1.2 (tr _ _ _ a2 a1))
  (λi j h1 h2 h3=>by
   dsimp only;have hm1:m<=(i+j) / 2:=by omega
   have hm2:(i+j) / 2<b:=by omega
   rw[Bu h2,aQ,BQ (by omega) (by omega),cG<|gy _ hm1 hm2,aA,cG gx,aA,hφ,aA,aM (show(i+j) / 2 - m<Y.length by omega)];show Option.bind (bif xU cf _ x then _ else _) _=_
   cases hlt:xU cf (Y[(i+j) / 2 - m]'(by omega)) x with
   |true=>rw[aQ,aA,eN (by omega)];simp only[hlt,if_true]
   |false=>rw[aP,aA];simp only[hlt,Bool.false_eq_true,if_false])
  (λi=>by dsimp only;rw[FK,aP]) (by omega) (by omega)
 rw[hc,aA];show ∃Z,Fo.cs (Fo.go _) _ _=_/\_;unfold Fo.cs;dsimp only;rw[wv (by omega) (by omega)];have key:Ok ((kb (λ(s94:aL aC×Int)=>(bif decide (s94.2<((c - 1:Nat):Int))then((idx s94.1<|wrap .i64<|s94.2+1).bind λx107=>(idx s94.1 s94.2).bind λx109=>(idx s94.1 s94.2).bind λx111=>(idx (s94.1.set (Int.toNat s94.2) x107)<|wrap .i64<|s94.2+1).bind λx112=>some<|.nx ((s94.1.set (Int.toNat s94.2) x107).set (Int.toNat<|wrap .i64<|s94.2+1) x109,wrap .i64<|s94.2+1))else(some<|.br (s94.1,s94.2)):aU (Fl (aL aC×Int) Empty))) N (P++[x]++Y++S,(a:Int))).bind λo113=>o113.cs (λ(s94:aL aC×Int)=>some s94.1)<|λr=>r.elim)
   (λD=>D=P++(Y.take (c - m)++x::Y.drop (c - m))++S):=by
  refine V3 (Xv (n:=c - 1) (λs=>s.2) (λk s=>a<=k/\s.1=(P++Y.take (k - a))++x::(Y.drop (k - a)++S)) (Go:=λs=>s.1=P++(Y.take (c - m)++x::Y.drop (c - m))++S) (Rt:=λ_=>False) ?_ ?_ (k0:=a) (by omega) rfl ⟨bW _,by simp⟩ (by omega)) ?_
  ·rintro k⟨T,j⟩hk e⟨hak,hT⟩;dsimp only at e hT ⊢;subst e;subst hT;rw[Bu hk,aQ,eN (by omega)];have hkY:k - a<Y.length:=by omega
   have hPl:(P++Y.take (k - a)).length=k:=by simp only[bO,dD];omega
   have hd:Y.drop (k - a)=Y[k - a]::Y.drop (k - a+1):=oy hkY;rw[hd,List.cons_append];have g1:((P++Y.take (k - a))++x::Y[k - a]::(Y.drop (k - a+1)++S))[k+1]? =some Y[k - a]:=by
    have:=sC (L:=P++Y.take (k - a)++[x]) (W:=Y.drop (k - a+1)++S) (u:=Y[k - a]) (k:=k+1) (by rw[bO,hPl];rfl);simpa only[dL,List.cons_append,List.nil_append]using this
   have g2:((P++Y.take (k - a))++x::Y[k - a]::(Y.drop (k - a+1)++S))[k]? =some x:=sC hPl;have g3:(((P++Y.take (k - a))++x::Y[k - a]::(Y.drop (k - a+1)++S)).set k Y[k - a])[k+1]? =some Y[k - a]:=by
    rw[List.getElem?_set_ne (by omega)];exact g1
   rw[cG g1,aA,cG g2,aA,aA,cR,cR,cG g3,aA,OD hPl];refine Wz ⟨rfl,by omega,?_⟩;dsimp only;rw[show k+1 - a=k - a+1 by omega,eO hkY];simp only[dL,List.cons_append,List.nil_append]
  ·rintro⟨T,j⟩e⟨hak,hT⟩;dsimp only at e hT ⊢;subst e;subst hT;rw[FK,aP];refine WG ?_;dsimp only;rw[show c - 1 - a=c - m by omega];simp
  ·intro o ho;exact WH ho (λs hs=>VV hs)<|λr h=>h.elim
 refine⟨_,W9 key,?_⟩;have hM:qN R (xU cf) [x] (Y.take (c - m)++Y.drop (c - m)):=by rw[List.take_append_drop];exact h
 have:=Bv.S6 tr hM (λy hy=>by
  obtain⟨t,ht,rfl⟩:=List.mem_iff_getElem.1 hy;rw[dD]at ht;have:=h3 (m+t) (by omega) (by omega);rw[show m+t - m=t by omega,aM (show t<Y.length by omega)]at this
  rw[List.getElem_take];exact this) (λy hy=>by
  obtain⟨t,ht,rfl⟩:=List.mem_iff_getElem.1 hy;rw[f9]at ht;have:=h4 (c+t) (by omega) (by omega);rw[show c+t - m=c - m+t by omega,aM (show c - m+t<Y.length by omega)]at this
  rw[List.getElem_drop];exact this)
 rw[List.take_append_drop]at this;exact this
theorem K4(hφ:∀x y,φ x y=some (cf x y))(tr:∀x y z,R x y->R y z->R x z)(asy:∀x y,R x y->R y x->False){rc:aL aC->Int->Int->Int->(aC->aC->aU Int)->aU (aL aC)}{P X S:aL aC}{y:aC}{a m b:Nat}(ha:P.length=a)(hm:a+X.length=m)(hb:m+1=b)
  (hx:X.length≠1) (h:qN R (xU cf) X [y]) (hl:(P++X++[y]++S).length<=1073741824) (hN:nb N):
  ∃Z,cZ N rc (P++X++[y]++S) (a:Int) (m:Int) (b:Int) φ=some (P++Z++S)/\Bv R X [y] Z:=by
 have hlen:(P++X++[y]++S).length=b+S.length:=by simp only[bO,fQ,List.length_nil];omega
 have gy:(P++X++[y]++S)[m]? =some y:=by
  have:=sC (L:=P++X) (W:=S) (u:=y) (k:=m) (by rw[bO];omega);simpa using this
 have gx:∀h:Nat,(h0:a<=h)->(hh:h<m)->(P++X++[y]++S)[h]? =some (X[h - a]'(by omega)):=λh h1 h2=>by
  rw[dL P,dL P,fZ (by omega),dL,gD (by omega),aM (by omega)];congr 2;omega
 unfold cZ;rw[iZ (show a<=m by omega) (by omega),show((((m - a:Nat):Nat):Int)==1)=false by rw[beq_eq_false_iff_ne];omega,aP,iZ (show m<=b by omega) (by omega),show((((b - m:Nat):Nat):Int)==1)=true by rw[beq_iff_eq];omega,aQ];obtain⟨c,hc,h1,h2,h3,h4⟩:=FN (N:=N) (lo:=a) (hi:=m) (body:=λ(s158:Int×Int)=>(bif s158.1<s158.2 then((idx (P++X++[y]++S) (m:Int)).bind λx171=>(idx (P++X++[y]++S)<|wrap .i64<|Int.fdiv (wrap .u64<|wrap .i64<|s158.1+s158.2) 2).bind λx173=>(φ x171 x173).bind λx175=>(bif(!(decide<|x175<0))then some (wrap .i64<|wrap .i64 (Int.fdiv (wrap .u64<|wrap .i64<|s158.1+s158.2) 2)+1,s158.2)else some (s158.1,wrap .i64<|Int.fdiv (wrap .u64<|wrap .i64<|s158.1+s158.2) 2)).bind λs176=>some<|.nx (s176.1,s176.2))else(some<|.br (s158.1,s158.2)):aU (Fl (Int×Int) Empty)))
  (λh=>match X[h - a]? with|some x=> !xU cf y x|none=>false) (λc d h1 h2 h3 h4=>by
   have e1:X[c - a]? =some (X[c - a]'(by omega)):=aM _;have e2:X[d - a]? =some (X[d - a]'(by omega)):=aM _;rw[e2]at h4;rw[e1];dsimp only at h4 ⊢
   by_cases hcd:c=d
   ·subst hcd;exact h4
   ·have k1:=h.asks _ (cS (l:=X) (n:=d - a) (by omega)) y (by simp);have k2:=h.asks _ (cS (l:=X) (n:=c - a) (by omega)) y (by simp);have a1:=k1.f (by simpa using h4);have a2:=iS.1 h.l (c - a) (d - a) (by omega) (by omega) (by omega);have a3:=tr _ _ _ a2 a1
    cases hq:xU cf y (X[c - a]'(by omega))with
    |false=>rfl
    |true=>exact(asy _ _ a3 (k2.t hq)).elim)
  (λi j h1 h2 h3=>by
   dsimp only;have hm1:a<=(i+j) / 2:=by omega
   have hm2:(i+j) / 2<m:=by omega
   rw[Bu h2,aQ,BQ (by omega) (by omega),cG gy,aA,cG<|gx _ hm1 hm2,aA,hφ,aA,aM (show(i+j) / 2 - a<X.length by omega)];show Option.bind (bif !xU cf y _ then _ else _) _=_
   cases hlt:xU cf y (X[(i+j) / 2 - a]'(by omega))with
   |false=>rw[ln,aQ,aA,eN (by omega)];simp only[hlt,ln,if_true]
   |true=>rw[ll,aP,aA];simp only[hlt,ll,Bool.false_eq_true,if_false])
  (λi=>by dsimp only;rw[FK,aP]) (by omega) (by omega)
 rw[hc,aA];unfold Fo.cs;dsimp only;have key:Ok ((kb (λ(s178:aL aC×Int)=>(bif decide (s178.2>((c:Nat):Int))then((idx s178.1<|wrap .i64<|s178.2 - 1).bind λx191=>(idx s178.1 s178.2).bind λx193=>(idx s178.1 s178.2).bind λx195=>(idx (s178.1.set (Int.toNat s178.2) x191)<|wrap .i64<|s178.2 - 1).bind λx196=>some<|.nx ((s178.1.set (Int.toNat s178.2) x191).set (Int.toNat<|wrap .i64<|s178.2 - 1) x193,wrap .i64<|s178.2 - 1))else(some<|.br (s178.1,s178.2)):aU (Fl (aL aC×Int) Empty))) N (P++X++[y]++S,(m:Int))).bind λo197=>o197.cs (λ(s178:aL aC×Int)=>some s178.1)<|λr=>r.elim)
   (λD=>D=P++(X.take (c - a)++y::X.drop (c - a))++S):=by
  refine V3 (WS (λs=>∃k:Nat,s=((P++X.take (k - a))++y::(X.drop (k - a)++S),(k:Int))/\c<=k/\k<=m) (λs=>s.2.toNat) (Go:=λs=>s.1=P++(X.take (c - a)++y::X.drop (c - a))++S) (Rt:=λ_=>False) ?_ ⟨m,by
   rw[pK (by omega),List.drop_eq_nil_of_le (by omega)];simp,h2,bW _⟩ (by dsimp only;omega)) ?_
  ·rintro s⟨k,rfl,hck,hkm⟩;dsimp only
   by_cases hk:c=k
   ·subst hk;rw[bS (show ¬((c:Nat):Int)>((c:Nat):Int)by omega),aP];exact WG (by simp)
   ·rw[bU (show(k:Int)>((c:Nat):Int)by omega),aQ,wv (by omega) (by omega)];have hkX:k - 1 - a<X.length:=by omega
    have e1:X.take (k - a)=X.take (k - 1 - a)++[X[k - 1 - a]]:=by
     rw[show k - a=k - 1 - a+1 by omega,eO hkX]
    have hPl:(P++X.take (k - 1 - a)).length=k - 1:=by simp only[bO,dD];omega
    rw[show(P++X.take (k - a))++y::(X.drop (k - a)++S)=(P++X.take (k - 1 - a))++X[k - 1 - a]::y::(X.drop (k - a)++S)by rw[e1];simp only[dL,List.cons_append,List.nil_append]];have g1:((P++X.take (k - 1 - a))++X[k - 1 - a]::y::(X.drop (k - a)++S))[k - 1]? =some X[k - 1 - a]:=sC hPl;have g2:((P++X.take (k - 1 - a))++X[k - 1 - a]::y::(X.drop (k - a)++S))[k]? =some y:=by
     have:=sC (L:=P++X.take (k - 1 - a)++[X[k - 1 - a]]) (W:=X.drop (k - a)++S) (u:=y) (k:=k) (by rw[bO,hPl];simp;omega);simpa only[dL,List.cons_append,List.nil_append]using this
    have g3:(((P++X.take (k - 1 - a))++X[k - 1 - a]::y::(X.drop (k - a)++S)).set k X[k - 1 - a])[k - 1]? =some X[k - 1 - a]:=by
     rw[List.getElem?_set_ne (by omega)];exact g1
    rw[cG g1,aA,cG g2,aA,aA,cR,cR,cG g3,aA];have hsw:=Hn (L:=P++X.take (k - 1 - a)) (W:=X.drop (k - a)++S) (u:=X[k - 1 - a]) (v:=y) (k:=k - 1) hPl;rw[show k - 1+1=k by omega]at hsw;rw[hsw];refine Wz ⟨⟨k - 1,?_,by omega,by omega⟩,by simp only[cR];omega⟩;rw[show X.drop (k - 1 - a)=X[k - 1 - a]::X.drop (k - a)by rw[oy hkX,show k - 1 - a+1=k - a by omega]];rfl
  ·intro o ho;exact WH ho (λs hs=>VV hs)<|λr h=>h.elim
 refine⟨_,W9 key,?_⟩;have hM:qN R (xU cf) (X.take (c - a)++X.drop (c - a)) [y]:=by rw[List.take_append_drop];exact h
 have:=Bv.S7 tr hM (λx hx=>by
  obtain⟨t,ht,rfl⟩:=List.mem_iff_getElem.1 hx;rw[dD]at ht;have:=h3 (a+t) (by omega) (by omega);rw[show a+t - a=t by omega,aM (show t<X.length by omega)]at this
  rw[List.getElem_take];simpa using this) (λx hx=>by
  obtain⟨t,ht,rfl⟩:=List.mem_iff_getElem.1 hx;rw[f9]at ht;have:=h4 (c+t) (by omega) (by omega);rw[show c+t - a=c - a+t by omega,aM (show c - a+t<X.length by omega)]at this
  rw[List.getElem_drop];simpa using this)
 rw[List.take_append_drop]at this;exact this
end
section
variable {N:Nat}{φ:aC->aC->aU Int}{cf:aC->aC->Int}{R:aC->aC->Prop}
def MY(N:Nat)(φ:aC->aC->aU Int)(cf:aC->aC->Int)(R:aC->aC->Prop)(rc:aL aC->Int->Int->Int->(aC->aC->aU Int)->aU (aL aC))(d:Nat):Prop:=
 ∀(P X Y S:aL aC)(a m b:Nat),P.length=a->a+X.length=m->m+Y.length=b->0<X.length->0<Y.length->X.length+Y.length<=d->qN R (xU cf) X Y->(P++X++Y++S).length<=1073741824->
  ∃Z,rc (P++X++Y++S) (a:Int) (m:Int) (b:Int) φ=some (P++Z++S)/\Bv R X Y Z
theorem MZ(hφ:∀x y,φ x y=some (cf x y))(tr:∀x y z,R x y->R y z->R x z)(asy:∀x y,R x y->R y x->False){rc:aL aC->Int->Int->Int->(aC->aC->aU Int)->aU (aL aC)}{d:Nat}(ih:MY N φ cf R rc d)(hN:nb N):
  MY N φ cf R (cZ N rc) (d+1):=by
 intro P X Y S a m b ha hm hb hx hy hd h hl
 by_cases hx1:X.length=1
 ·obtain⟨x,rfl⟩:=List.length_eq_one_iff.1 hx1;exact K3 hφ tr ha (by simpa using hm) hb h hl hN
 by_cases hy1:Y.length=1
 ·obtain⟨y,rfl⟩:=List.length_eq_one_iff.1 hy1;exact K4 hφ tr asy ha hm (by simpa using hb) hx1 h hl hN
 have hlen:(P++X++Y++S).length=b+S.length:=by simp only[bO];omega
 have gx:∀h:Nat,(h0:a<=h)->(hh:h<m)->(P++X++Y++S)[h]? =some (X[h - a]'(by omega)):=λh h1 h2=>by
  rw[dL P,dL P,fZ (by omega),dL,gD (by omega),aM (by omega)];congr 2;omega
 have gy:∀h:Nat,(h0:m<=h)->(hh:h<b)->(P++X++Y++S)[h]? =some (Y[h - m]'(by omega)):=λh h1 h2=>by
  rw[dL<|P++X,fZ (by rw[bO];omega),gD (by rw[bO];omega),aM (by rw[bO];omega)];congr 2;rw[bO];omega
 unfold cZ;rw[iZ (show a<=m by omega) (by omega),show((((m - a:Nat):Nat):Int)==1)=false by rw[beq_eq_false_iff_ne];omega,aP,iZ (show m<=b by omega) (by omega),show((((b - m:Nat):Nat):Int)==1)=false by rw[beq_eq_false_iff_ne];omega,aP];rw[BQ (show a<=b by omega) (by omega)];generalize hM:(a+b) / 2=M;have hM1:a<M:=by omega
 have hM2:M<b:=by omega
 rw[wrap_add (n:=M) (m:=m) (by omega),wv (n:=M+m) (by omega) (by omega)];have hst:∃s0 r0:Nat,(bif decide ((m:Int)>(M:Int))then some (wrap .i64<|((M+m:Nat):Int) -(b:Int),(M:Int))else some ((a:Int),(m:Int)))=some ((s0:Int),(r0:Int))/\
   a<=s0/\s0<=r0/\r0<=m/\r0<=M/\M+m<=b+s0/\(s0=a\/s0+b=M+m)/\(r0=m\/r0=M):=by
  by_cases hg:M<m
  ·refine⟨M+m - b,M,?_,by omega,by omega,by omega,bW _,by omega, .inr (by omega), .inr rfl⟩;rw[bU (show(m:Int)>(M:Int)by omega),aQ,iZ (by omega) (by omega)]
  ·refine⟨a,m,?_,bW _,by omega,bW _,by omega,by omega, .inl rfl, .inl rfl⟩;rw[bS (show ¬(m:Int)>(M:Int)by omega),aP]
 obtain⟨s0,r0,e0,k1,k2,k3,k4,k5,k6,k7⟩:=hst;rw[e0,aA];dsimp only;obtain⟨c,hc,h1,h2,h3,h4⟩:=FN (N:=N) (lo:=s0) (hi:=r0) (body:=λ(s201:Int×Int)=>(bif s201.1<s201.2 then((idx (P++X++Y++S)<|wrap .i64<|((M+m - 1:Nat):Int) -(wrap .i64<|Int.fdiv (wrap .u64<|wrap .i64<|s201.1+s201.2) 2)).bind λx214=>(idx (P++X++Y++S)<|wrap .i64<|Int.fdiv (wrap .u64<|wrap .i64<|s201.1+s201.2) 2).bind λx216=>(φ x214 x216).bind λx218=>(bif(!(decide<|x218<0))then some (wrap .i64<|wrap .i64 (Int.fdiv (wrap .u64<|wrap .i64<|s201.1+s201.2) 2)+1,s201.2)else some (s201.1,wrap .i64<|Int.fdiv (wrap .u64<|wrap .i64<|s201.1+s201.2) 2)).bind λs219=>some<|.nx (s219.1,s219.2))else(some<|.br (s201.1,s201.2)):aU (Fl (Int×Int) Empty)))
  (λh=>match X[h - a]?,Y[M+m - 1 - h - m]? with|some x,some y=> !xU cf y x|_,_=>false) (λc e h1 h2 h3 h4=>by
   have e1:X[c - a]? =some (X[c - a]'(by omega)):=aM _;have e2:X[e - a]? =some (X[e - a]'(by omega)):=aM _;have e3:Y[M+m - 1 - c - m]? =some (Y[M+m - 1 - c - m]'(by omega)):=aM _;have e4:Y[M+m - 1 - e - m]? =some (Y[M+m - 1 - e - m]'(by omega)):=aM _;rw[e2,e4]at h4;rw[e1,e3];dsimp only at h4 ⊢
   by_cases hce:c=e
   ·subst hce;exact h4
   ·have q1:=h.asks _ (cS (l:=X) (n:=e - a) (by omega)) _<|cS (l:=Y) (n:=M+m - 1 - e - m) (by omega)
    have q2:=h.asks _ (cS (l:=X) (n:=c - a) (by omega)) _<|cS (l:=Y) (n:=M+m - 1 - c - m) (by omega)
    have a1:=q1.f (by simpa using h4);have a2:=iS.1 h.l (c - a) (e - a) (by omega) (by omega) (by omega);have a3:=iS.1 h.r (M+m - 1 - e - m) (M+m - 1 - c - m) (by omega) (by omega) (by omega);have a4:=tr _ _ _ a2<|tr _ _ _ a1 a3
    cases hq:xU cf (Y[M+m - 1 - c - m]'(by omega)) (X[c - a]'(by omega))with
    |false=>rfl
    |true=>exact(asy _ _ a4 (q2.t hq)).elim)
  (λi j h1 h2 h3=>by
   dsimp only;have hm1:s0<=(i+j) / 2:=by omega
   have hm2:(i+j) / 2<r0:=by omega
   rw[Bu h2,aQ,BQ (by omega) (by omega),iZ (by omega) (by omega),cG (gy (M+m - 1 -(i+j) / 2) (by omega) (by omega)),aA,cG (gx ((i+j) / 2) (by omega) (by omega)),aA,hφ,aA,
    aM (show(i+j) / 2 - a<X.length by omega),aM (show M+m - 1 -(i+j) / 2 - m<Y.length by omega)]
   show Option.bind (bif !xU cf _ _ then _ else _) _=_
   cases hlt:xU cf (Y[M+m - 1 -(i+j) / 2 - m]'(by omega)) (X[(i+j) / 2 - a]'(by omega))with
   |false=>rw[ln,aQ,aA,eN (by omega)];simp only[hlt,ln,if_true]
   |true=>rw[ll,aP,aA];simp only[hlt,ll,Bool.false_eq_true,if_false])
  (λi=>by dsimp only;rw[FK,aP]) k2 (by omega)
 rw[hc,aA];unfold Fo.cs;dsimp only;rw[iZ (n:=M+m) (m:=c) (by omega) (by omega)];generalize hX1:X.take (c - a)=X1;generalize hX2:X.drop (c - a)=X2;generalize hY1:Y.take (M - c)=Y1;generalize hY2:Y.drop (M - c)=Y2;have eX:X1++X2=X:=by rw[<-hX1,<-hX2,List.take_append_drop]
 have eY:Y1++Y2=Y:=by rw[<-hY1,<-hY2,List.take_append_drop]
 have lX1:X1.length=c - a:=by rw[<-hX1,dD];omega
 have lX2:X2.length=m - c:=by rw[<-hX2,f9];omega
 have lY1:Y1.length=M - c:=by rw[<-hY1,dD];omega
 have lY2:Y2.length=b+c - M - m:=by rw[<-hY2,f9];omega
 have hR:(bif decide (((c:Nat):Int)<(m:Int))&&decide ((m:Int)<((M+m - c:Nat):Int))then((fz N (P++X++Y++S) ((c:Nat):Int) (m:Int) ((M+m - c:Nat):Int) φ).bind λx222=>some x222)else some (P++X++Y++S))=some (P++X1++Y1++(X2++Y2++S)):=by
  by_cases hr:c<m/\c<M
  ·rw[bU (show((c:Nat):Int)<(m:Int)by omega),bU (show(m:Int)<((M+m - c:Nat):Int)by omega),Bool.and_true,aQ]
   have:=Qr (N:=N) (φ:=φ) (P:=P++X1) (X:=X2) (Y:=Y1) (S:=Y2++S) (a:=c) (m:=m) (b:=M+m - c) (by rw[bO];omega) (by omega) (by omega) (by omega) (by omega) (by
    simp only[bO];omega) hN
   rw[show P++X1++X2++Y1++(Y2++S)=P++X++Y++S by rw[<-eX,<-eY];simp]at this;rw[this,aA];congr 1;simp
  ·have hz:(decide (((c:Nat):Int)<(m:Int))&&decide ((m:Int)<((M+m - c:Nat):Int)))=false:=by
    rw[Bool.and_eq_false_iff,decide_eq_false_iff_not,decide_eq_false_iff_not];omega
   rw[hz,aP];congr 1;rw[<-eX,<-eY]
   by_cases hcm:c<m
   ·have:Y1= []:=List.length_eq_zero_iff.1 (by omega);rw[this];simp
   ·have:X2= []:=List.length_eq_zero_iff.1 (by omega);rw[this];simp
 rw[hR,aA];have hrows:qN R (xU cf) (X1++X2) (Y1++Y2):=by rw[eX,eY];exact h
 have hbelow:=K0 tr hrows (by
  by_cases hcs:c=s0
  ·rcases k6 with k6|k6
   ·exact .inl<|List.length_eq_zero_iff.1 (by omega)
   ·exact .inr<|.inl<|List.length_eq_zero_iff.1 (by omega)
  ·have:=h3 (c - 1) (by omega) (by omega)
   by_cases hy2:Y2= []
   ·exact .inr<|.inl hy2
   have hy2l:0<Y2.length:=List.length_pos_iff.2 hy2;rw[aM (show c - 1 - a<X.length by omega),aM (show M+m - 1 -(c - 1) - m<Y.length by omega)]at this;refine .inr<|.inr ⟨X1.take<|c - a - 1,X[c - 1 - a]'(by omega),Y[M+m - 1 -(c - 1) - m]'(by omega),Y2.drop 1,?_,?_,by simpa using this⟩
   ·rw[<-hX1,List.take_take,show min (c - a - 1) (c - a)=c - 1 - a by omega,show c - a=c - 1 - a+1 by omega,eO (by omega)]
   ·rw[<-hY2,oy (show M - c<Y.length by omega),List.drop_succ_cons,List.drop_zero]
    congr 2;omega) (by
  by_cases hcr:c=r0
  ·rcases k7 with k7|k7
   ·exact .inr<|.inl<|List.length_eq_zero_iff.1 (by omega)
   ·exact .inl<|List.length_eq_zero_iff.1 (by omega)
  ·have:=h4 c (bW _) (by omega);rw[aM (show c - a<X.length by omega),aM (show M+m - 1 - c - m<Y.length by omega)]at this;refine .inr<|.inr ⟨Y1.take<|M - c - 1,Y[M+m - 1 - c - m]'(by omega),X[c - a]'(by omega),X2.drop 1,?_,?_,by simpa using this⟩
   ·rw[<-hY1,List.take_take,show min (M - c - 1) (M - c)=M+m - 1 - c - m by omega,show M - c=M+m - 1 - c - m+1 by omega,eO (by omega)]
   ·rw[<-hX2,oy (show c - a<X.length by omega),List.drop_succ_cons,List.drop_zero])
 have hL:∃Z1,(bif decide ((a:Int)<((c:Nat):Int))&&decide (((c:Nat):Int)<(M:Int))then((rc (P++X1++Y1++(X2++Y2++S)) (a:Int) ((c:Nat):Int) (M:Int) φ).bind λx225=>some x225)else some (P++X1++Y1++(X2++Y2++S)))=some (P++Z1++(X2++Y2++S))/\Bv R X1 Y1 Z1:=by
  by_cases hr:a<c/\c<M
  ·rw[bU (show(a:Int)<((c:Nat):Int)by omega),bU (show((c:Nat):Int)<(M:Int)by omega),Bool.and_true,aQ]
   obtain⟨Z1,z1,z2⟩:=ih P X1 Y1 (X2++Y2++S) a c M ha (by omega) (by omega) (by omega) (by omega) (by omega) hrows.left (by
    simp only[bO];omega)
   exact⟨Z1,by rw[z1,aA],z2⟩
  ·have hz:(decide ((a:Int)<((c:Nat):Int))&&decide (((c:Nat):Int)<(M:Int)))=false:=by
    rw[Bool.and_eq_false_iff,decide_eq_false_iff_not,decide_eq_false_iff_not];omega
   rw[hz,aP];refine⟨X1++Y1,by simp,?_⟩
   by_cases hac:a<c
   ·have:Y1= []:=List.length_eq_zero_iff.1 (by omega);subst this;rw[iR];exact Bv.Pv hrows.left.l
   ·have:X1= []:=List.length_eq_zero_iff.1 (by omega);subst this;exact Bv.Pt hrows.left.r
 obtain⟨Z1,hL1,hL2⟩:=hL;rw[hL1,aA];have lZ1:Z1.length=M - a:=by rw[hL2.perm.length_eq,bO];omega
 have hQ:∃Z2,(bif decide ((M:Int)<((M+m - c:Nat):Int))&&decide (((M+m - c:Nat):Int)<(b:Int))then((rc (P++Z1++(X2++Y2++S)) (M:Int) ((M+m - c:Nat):Int) (b:Int) φ).bind λx228=>some x228)else some (P++Z1++(X2++Y2++S)))=some (P++(Z1++Z2)++S)/\Bv R X2 Y2 Z2:=by
  by_cases hr:c<m/\M+m<b+c
  ·rw[bU (show(M:Int)<((M+m - c:Nat):Int)by omega),bU (show((M+m - c:Nat):Int)<(b:Int)by omega),Bool.and_true,aQ]
   obtain⟨Z2,z1,z2⟩:=ih (P++Z1) X2 Y2 S M (M+m - c) b (by rw[bO];omega) (by omega) (by omega) (by omega) (by omega) (by omega) hrows.right (by
    simp only[bO];omega)
   rw[show P++Z1++X2++Y2++S=P++Z1++(X2++Y2++S)by simp]at z1;exact⟨Z2,by rw[z1,aA];simp,z2⟩
  ·have hz:(decide ((M:Int)<((M+m - c:Nat):Int))&&decide (((M+m - c:Nat):Int)<(b:Int)))=false:=by
    rw[Bool.and_eq_false_iff,decide_eq_false_iff_not,decide_eq_false_iff_not];omega
   rw[hz,aP];refine⟨X2++Y2,by simp,?_⟩
   by_cases hcm:c<m
   ·have:Y2= []:=List.length_eq_zero_iff.1 (by omega);subst this;rw[iR];exact Bv.Pv hrows.right.l
   ·have:X2= []:=List.length_eq_zero_iff.1 (by omega);subst this;exact Bv.Pt hrows.right.r
 obtain⟨Z2,hQ1,hQ2⟩:=hQ;rw[hQ1,aA];refine⟨Z1++Z2,rfl,?_⟩;have:=Bv.both hbelow hL2 hQ2;rw[eX,eY]at this;exact this
theorem Pw(hφ:∀x y,φ x y=some (cf x y))(tr:∀x y z,R x y->R y z->R x z)(asy:∀x y,R x y->R y x->False)(hN:nb N):∀d,MY N φ cf R (gF N d) d
 | 0=>λP X Y S a m b _ _ _ hx hy hd=>by omega
 |d+1=>MZ hφ tr asy (Pw hφ tr asy hN d) hN
theorem M1(hφ:∀x y,φ x y=some (cf x y))(tr:∀x y z,R x y->R y z->R x z)(asy:∀x y,R x y->R y x->False)(hN:nb N){P X Y S:aL aC}{a m b:Nat}(ha:P.length=a)(hm:a+X.length=m)(hb:m+Y.length=b)(hx:0<X.length)(hy:0<Y.length)
  (h:qN R (xU cf) X Y) (hl:(P++X++Y++S).length<=1073741824):∃Z,dV N (P++X++Y++S) (a:Int) (m:Int) (b:Int) φ=some (P++Z++S)/\Bv R X Y Z:=
 Pw hφ tr asy hN N P X Y S a m b ha hm hb hx hy (by simp only[bO]at hl;omega) h hl
end
section
variable {N:Nat}{φ:aC->aC->aU Int}{cf:aC->aC->Int}{R:aC->aC->Prop}
def qm(R:aC->aC->Prop)(cf:aC->aC->Int)(X Y:aL aC):Prop:=∀x∈X,∀y∈Y,wu R (xU cf) x y
def DV(R:aC->aC->Prop)(n:Nat)(F:aL (aL aC)):Prop:=∀Z∈F,Z.length=n/\Z.Pairwise R
theorem DV.len{n:Nat}:∀{F:aL (aL aC)},DV R n F->F.flatten.length=F.length*n
 | [],_=>by simp
 |Z::F,h=>by
  have h1:=(h Z (by simp)).1;have h2:=DV.len (F:=F)<|λY hY=>h Y (by simp[hY])
  rw[List.flatten_cons,bO,h1,h2,fQ,Nat.succ_mul];omega
structure S8 (R:aC->aC->Prop) (cf:aC->aC->Int) (L:aL aC) (n:Nat) (D:aL aC):Prop where
 perm:D.Perm L
 ex:∃F t,D=F.flatten++t/\DV R n F/\t.length<n/\t.Pairwise R/\(F++[t]).Pairwise (qm R cf)
theorem qm.IM{X Y Z:aL aC}(h:qm R cf X Y)(hp:Z.Perm Y):qm R cf X Z:=λx hx z hz=>h x hx z<|hp.mem_iff.1 hz
theorem qm.M3{X Y Z:aL aC}(h:qm R cf X Y)(hp:Z.Perm X):qm R cf Z Y:=λx hx z hz=>h x (hp.mem_iff.1 hx) z hz
theorem qm.Px{X Y Z:aL aC}(h1:qm R cf X Y)(h2:qm R cf X Z):qm R cf X (Y++Z):=λx hx z hz=>by
 rcases dJ.1 hz with hz|hz
 ·exact h1 x hx z hz
 ·exact h2 x hx z hz
theorem qm.S9{X Y Z:aL aC}(h1:qm R cf X Z)(h2:qm R cf Y Z):qm R cf (X++Y) Z:=λx hx z hz=>by
 rcases dJ.1 hx with hx|hx
 ·exact h1 x hx z hz
 ·exact h2 x hx z hz
theorem M4{X:aL aC}(h:X.Pairwise (wu R<|xU cf))(n:Nat):(X.take n).Pairwise (wu R<|xU cf)/\(X.drop n).Pairwise (wu R<|xU cf)/\qm R cf (X.take n) (X.drop n):=by
 rw[<-List.take_append_drop n X,eH]at h;exact⟨h.1,h.2.1,h.2.2⟩
theorem M5(hφ:∀x y,φ x y=some (cf x y))(tr:∀x y z,R x y->R y z->R x z){L:aL aC}(hA:L.Pairwise (wu R<|xU cf))(hl:L.length<=268435456)(hN:nb N):
  Ok (kb (λ(s32:aL aC×Int×Int)=>(bif decide (s32.2.2<=(L.length:Int))then((cY N s32.1 s32.2.1 s32.2.2 φ).bind λx35=>some<|.nx (x35,s32.2.2,wrap .i64<|s32.2.2+20))else(some<|.br (s32.1,s32.2.1,s32.2.2)):aU (Fl (aL aC×Int×Int) Empty))) N (L,0,20))
   (NL (λs=>∃(F:aL (aL aC))(X:aL aC),s.1=F.flatten++X/\s.2.1=((F.flatten.length:Nat):Int)/\DV R 20 F/\X.length<20/\X.Pairwise (wu R<|xU cf)/\(F++[X]).Pairwise (qm R cf)/\s.1.Perm L)<|λ_=>False):=by
 refine WS (λs=>∃(F:aL (aL aC))(X:aL aC),s=(F.flatten++X,((F.flatten.length:Nat):Int),((F.flatten.length+20:Nat):Int))/\DV R 20 F/\X.Pairwise (wu R<|xU cf)/\(F++[X]).Pairwise (qm R cf)/\(F.flatten++X).Perm L) (λs=>L.length+20 - s.2.2.toNat) ?_
  ⟨[],L,by simp,λZ hZ=>by simp at hZ,hA,by simp,by simp⟩ (by dsimp only;omega)
 rintro s⟨F,X,rfl,hF,hX,hFX,hp⟩;dsimp only;have hlen:=hp.length_eq;rw[bO]at hlen
 by_cases h:F.flatten.length+20<=L.length
 ·rw[bU (show((F.flatten.length+20:Nat):Int)<=(L.length:Int)by omega),aQ];obtain⟨q1,q2,q3⟩:=M4 hX 20;obtain⟨Z,z1,z2,z3⟩:=MX (N:=N) hφ tr (P:=F.flatten) (X:=X.take 20) (S:=X.drop 20) (a:=F.flatten.length) (b:=F.flatten.length+20) rfl (by rw[dD];omega) q1 (by simp only[bO,dD,f9];omega) hN;rw[dL,List.take_append_drop]at z1;have hZl:Z.length=20:=by rw[z2.length_eq,dD];omega
  rw[z1,aA,show((F.flatten.length+20:Nat):Int)+20=((F.flatten.length+20+20:Nat):Int)by omega,qj (by omega)];have e1:(F++[Z]).flatten=F.flatten++Z:=by simp
  have e2:(F++[Z]).flatten.length=F.flatten.length+20:=by rw[e1,bO,hZl]
  rw[eH]at hFX;refine Wz ⟨⟨F++[Z],X.drop 20,by rw[e2,e1],λY hY=>?_,q2,?_,?_⟩,by simp only[cR];omega⟩
  ·rcases dJ.1 hY with hY|hY
   ·exact hF Y hY
   ·rw[pJ]at hY;subst hY;exact⟨hZl,z3⟩
  ·rw[eH,eH];have hm:∀Y∈F,qm R cf Y X:=λY hY=>hFX.2.2 Y hY X (by simp);refine⟨⟨hFX.1,by simp,λY hY W hW=>?_⟩,by simp,λY hY W hW=>?_⟩
   ·rw[pJ]at hW;subst hW;exact λy hy w hw=>hm Y hY y hy w<|List.mem_of_mem_take<|z2.mem_iff.1 hw
   ·rw[pJ]at hW;subst hW
    rcases dJ.1 hY with hY|hY
    ·exact λy hy w hw=>hm Y hY y hy w<|List.mem_of_mem_drop hw
    ·rw[pJ]at hY;subst hY;exact q3.M3 z2
  ·rw[e1,dL];refine List.Perm.trans ?_ hp;refine List.Perm.append_left _ ?_;have:=z2.append_right<|X.drop 20
   rwa[List.take_append_drop]at this
 ·rw[bS (show ¬((F.flatten.length+20:Nat):Int)<=(L.length:Int)by omega),aP];exact WG ⟨F,X,rfl,rfl,hF,by omega,hX,hFX,hp⟩
theorem M6(hφ:∀x y,φ x y=some (cf x y))(tr:∀x y z,R x y->R y z->R x z)(asy:∀x y,R x y->R y x->False){L D:aL aC}{n:Nat}(hn:0<n)(hn2:n<=268435456)(h:S8 R cf L n D)(hl:L.length<=268435456)(hN:nb N):
  Ok ((kb (λ(s58:aL aC×Int×Int)=>(bif decide (s58.2.2<=(L.length:Int))then((dV N s58.1 s58.2.1 (wrap .i64<|s58.2.1+(n:Int)) s58.2.2 φ).bind λx61=>some<|.nx (x61,s58.2.2,wrap .i64<|s58.2.2+((2*n:Nat):Int)))else(some<|.br (s58.1,s58.2.1,s58.2.2)):aU (Fl (aL aC×Int×Int) Empty))) N (D,0,((2*n:Nat):Int))).bind λo65=>o65.cs (λ(s58:aL aC×Int×Int)=>(bif decide (wrap .i64 (s58.2.1+(n:Int))<(L.length:Int))then((dV N s58.1 s58.2.1 (wrap .i64<|s58.2.1+(n:Int)) (L.length:Int) φ).bind λx64=>some x64)else some s58.1).bind λs63=>some s63)<|λr=>r.elim)
   (S8 R cf L<|2*n):=by
 obtain⟨hp,F,t,rfl,hF,ht,hts,hFt⟩:=h;have hlen:=hp.length_eq;rw[bO,hF.len]at hlen
 refine V3 (WS (λs=>∃(G F2:aL (aL aC)),s=(G.flatten++F2.flatten++t,(G.flatten.length:Int),((G.flatten.length+2*n:Nat):Int))/\DV R (2*n) G/\DV R n F2/\(G++(F2++[t])).Pairwise (qm R cf)/\(G.flatten++F2.flatten++t).Perm L)
  (λs=>L.length+2*n - s.2.2.toNat) (Go:=λs=>∃(G F2:aL (aL aC)),s.1=G.flatten++F2.flatten++t/\s.2.1=(G.flatten.length:Int)/\DV R (2*n) G/\DV R n F2/\F2.length<=1/\(G++(F2++[t])).Pairwise (qm R cf)/\(G.flatten++F2.flatten++t).Perm L) (Rt:=λ_=>False) ?_
  ⟨[],F,by simp,λZ hZ=>by simp at hZ,hF,by simpa using hFt,by simpa using hp⟩ (by dsimp only;omega)) ?_
 ·rintro s⟨G,F2,rfl,hG,hF2,hw,hp2⟩;dsimp only;have hl2:=hp2.length_eq;rw[bO,bO,hF2.len]at hl2
  by_cases h:G.flatten.length+2*n<=L.length
  ·rw[bU (show((G.flatten.length+2*n:Nat):Int)<=(L.length:Int)by omega),aQ];have h2:2<=F2.length:=by
    rcases Nat.lt_or_ge F2.length 2 with h3|h3
    ·have:F2.length*n<=1*n:=Nat.mul_le_mul_right n (by omega);omega
    ·exact h3
   obtain⟨X,Y,F3,rfl⟩:∃X Y F3,F2=X::Y::F3:=by
    match F2,h2 with
    |X::Y::F3,_=>exact⟨X,Y,F3,rfl⟩
   have hX:=hF2 X (by simp);have hY:=hF2 Y (by simp);have hw2:=eH.1 hw;have hw3:(X::(Y::(F3++[t]))).Pairwise (qm R cf):=hw2.2.1;rw[jD,jD]at hw3;rw[wrap_add (by omega)];obtain⟨Z,z1,z2⟩:=M1 (N:=N) hφ tr asy hN (P:=G.flatten) (X:=X) (Y:=Y) (S:=F3.flatten++t) (a:=G.flatten.length) (m:=G.flatten.length+n) (b:=G.flatten.length+2*n) rfl (by omega) (by omega) (by omega) (by omega)
    ⟨hX.2,hY.2,hw3.1 Y (by simp)⟩ (by
     have:(G.flatten++X++Y++(F3.flatten++t)).length=L.length:=by rw[<-hp2.length_eq];congr 1;simp
     omega)
   rw[show G.flatten++(X::Y::F3).flatten++t=G.flatten++X++Y++(F3.flatten++t)by simp,z1,aA,wrap_add (by omega)];have hZl:Z.length=2*n:=by rw[z2.perm.length_eq,bO];omega
   have e1:(G++[Z]).flatten=G.flatten++Z:=by simp
   have e2:(G++[Z]).flatten.length=G.flatten.length+2*n:=by rw[e1,bO,hZl]
   refine Wz ⟨⟨G++[Z],F3,by rw[e2,e1,<-dL],λW hW=>?_,λW hW=>hF2 W (by simp[hW]),?_,?_⟩,by simp only[cR];omega⟩
   ·rcases dJ.1 hW with hW|hW
    ·exact hG W hW
    ·rw[pJ]at hW;subst hW;exact⟨hZl,z2.sorted⟩
   ·rw[dL,eH];refine⟨hw2.1,?_,λU hU W hW=>?_⟩
    ·show(Z::(F3++[t])).Pairwise (qm R cf);rw[jD];exact⟨λW hW=>((hw3.1 W<|mP _ hW).S9<|hw3.2.1 W hW).M3 z2.perm,hw3.2.2⟩
    ·have hW':W=Z\/W∈F3++[t]:=by simpa using hW
     rcases hW' with rfl|hW'
     ·exact((hw2.2.2 U hU X (by simp)).Px<|hw2.2.2 U hU Y (by simp)).IM z2.perm
     ·exact hw2.2.2 U hU W (by
       have:=dJ.1 hW';simp only[List.cons_append,eV,dJ]
       rcases this with h|h
       ·exact .inr<|.inr<|.inl h
       ·exact .inr (.inr (.inr (by simpa using h))))
   ·refine List.Perm.trans ?_ hp2;rw[e1,dL,dL,dL,List.flatten_cons,List.flatten_cons,dL,dL];refine List.Perm.append_left _ ?_;have:=z2.perm.append_right<|F3.flatten++t
    rwa[dL]at this
  ·rw[bS (show ¬((G.flatten.length+2*n:Nat):Int)<=(L.length:Int)by omega),aP];refine WG ⟨G,F2,rfl,rfl,hG,hF2,?_,hw,hp2⟩
   rcases Nat.lt_or_ge F2.length 2 with h3|h3
   ·omega
   ·have:2*n<=F2.length*n:=Nat.mul_le_mul_right n h3;omega
 ·intro o ho;refine WH ho ?_<|λr h=>h.elim
  rintro⟨T,a,b⟩⟨G,F2,hT,ha,hG,hF2,h1,hw,hp2⟩;dsimp only at hT ha ⊢;subst hT;subst ha;have hl2:=hp2.length_eq;rw[bO,bO,hF2.len]at hl2;rw[wrap_add (by omega)];have hw2:=eH.1 hw;have fin:∀t':aL aC,t'.Perm (F2.flatten++t)->t'.Pairwise R->t'.length<2*n->S8 R cf L (2*n) (G.flatten++t'):=λt' h2 h3 h4=>by
   refine⟨List.Perm.trans ?_ hp2,G,t',rfl,hG,h4,h3,?_⟩
   ·rw[dL];exact List.Perm.append_left _ h2
   ·rw[eH];refine⟨hw2.1,by simp,λU hU W hW=>?_⟩;rw[pJ]at hW;subst hW;refine qm.IM (qm.Px (λx hx y hy=>?_)<|hw2.2.2 U hU t (by simp)) h2;obtain⟨Y,hY,hy'⟩:=List.mem_flatten.1 hy;exact hw2.2.2 U hU Y (by simp[hY]) x hx y hy'
  match F2,h1,hF2,hw2.2.1,fin,hl2 with
  | [],_,_,_,fin,hl2=>
   rw[JY (by simp only[List.length_nil,Nat.zero_mul]at hl2;omega),aP,aA];refine VV ?_;have:=fin t (by simp) hts (by omega);simpa using this
  | [X],_,hF2,hwX,fin,hl2=>
   have hX:=hF2 X (by simp);simp only[fQ,List.length_nil,gL,Nat.one_mul]at hl2
   by_cases ht0:t= []
   ·subst ht0;rw[JY (by simp only[List.length_nil]at hl2;omega),aP,aA];refine VV ?_;have:=fin X (by simp) hX.2 (by omega);simpa using this
   ·have htl:0<t.length:=List.length_pos_iff.2 ht0;rw[Bu (show G.flatten.length+n<L.length by omega),aQ];have hXt:qm R cf X t:=(jD.1 hwX).1 t (by simp);obtain⟨Z,z1,z2⟩:=M1 (N:=N) hφ tr asy hN (P:=G.flatten) (X:=X) (Y:=t) (S:=[]) (a:=G.flatten.length) (m:=G.flatten.length+n) (b:=L.length) rfl (by omega) (by omega) (by omega) htl
     ⟨hX.2,hts,hXt⟩ (by simp only[iR,bO];omega)
    rw[iR,iR]at z1;rw[show G.flatten++[X].flatten++t=G.flatten++X++t by simp,z1,aA,aA];exact VV<|fin Z (by simpa using z2.perm) z2.sorted (by rw[z2.perm.length_eq,bO];omega)
  |_::_::_,h1,_,_,_,_=>simp only[fQ]at h1;omega
theorem DW(hφ:∀x y,φ x y=some (cf x y))(tr:∀x y z,R x y->R y z->R x z)(asy:∀x y,R x y->R y x->False){L:aL aC}(hA:L.Pairwise (wu R<|xU cf))(hl:L.length<=134217728)(hN:nb N):
  ∃D,eE N L φ=some D/\D.Perm L/\D.Pairwise R:=by
 have key:Ok (eE N L φ) (λD=>D.Perm L/\D.Pairwise R):=by
  unfold eE iJ;refine V3 (P:=λD=>D.Perm L/\D.Pairwise R) ?_<|λD h=>VV h
  refine V3 (M5 hφ tr hA (by omega) hN) ?_;intro o ho;refine WH ho ?_<|λr h=>h.elim
  rintro⟨T,a,b⟩⟨F,X,hT,ha,hF,hXl,hX,hFX,hp⟩;dsimp only at hT ha hp ⊢;subst hT;subst ha;have hlen:=hp.length_eq;rw[bO]at hlen;obtain⟨Z,z1,z2,z3⟩:=MX (N:=N) hφ tr (P:=F.flatten) (X:=X) (S:=[]) (a:=F.flatten.length) (b:=L.length) rfl (by omega) hX (by simp only[iR,bO];omega) hN;rw[iR,iR]at z1;rw[z1,aA];have hS:S8 R cf L 20 (F.flatten++Z):=by
   refine⟨(List.Perm.append_left _ z2).trans hp,F,Z,rfl,hF,by rw[z2.length_eq];exact hXl,z3,?_⟩;rw[eH]at hFX ⊢;refine⟨hFX.1,by simp,λU hU W hW=>?_⟩;rw[pJ]at hW;subst hW;exact(hFX.2.2 U hU X (by simp)).IM z2
  refine V3 (WS (λs=>∃n:Nat,s.2=(n:Int)/\0<n/\n<=268435456/\S8 R cf L n s.1) (λs=>L.length+20 - s.2.toNat) (Go:=λs=>s.1.Perm L/\s.1.Pairwise R) (Rt:=λ_=>False) ?_ ⟨20,rfl,by omega,by omega,hS⟩ (by dsimp only;omega)) ?_
  ·rintro⟨T,m⟩⟨n,e,hn,hn2,hS⟩;dsimp only at e hS ⊢;subst e
   by_cases h:n<L.length
   ·rw[Bu h,aQ,show(2:Int)*(n:Int)=((2*n:Nat):Int)by omega,qj (by omega)];have hm:=M6 hφ tr asy hn hn2 hS (by omega) hN;obtain⟨D,d1,d2⟩:=hm
    refine Ok.mono (P:=λfl=>fl = .nx (D,((2*n:Nat):Int))) ?_ (λfl hfl=>by
     subst hfl
     exact⟨⟨2*n,rfl,by omega,by omega,d2⟩,by simp only[cR];omega⟩)
    cases hI:(kb (λ(s58:aL aC×Int×Int)=>(bif decide (s58.2.2<=(L.length:Int))then((dV N s58.1 s58.2.1 (wrap .i64<|s58.2.1+(n:Int)) s58.2.2 φ).bind λx61=>some<|.nx (x61,s58.2.2,wrap .i64<|s58.2.2+((2*n:Nat):Int)))else(some<|.br (s58.1,s58.2.1,s58.2.2)):aU (Fl (aL aC×Int×Int) Empty))) N (T,0,((2*n:Nat):Int)))with
    |none=>rw[hI]at d1;cases d1
    |some o=>
     rw[hI,aA]at d1;rw[aA]
     cases o with
     |rt r=>exact r.elim
     |go s=>
      unfold Fo.cs at d1 ⊢;dsimp only at d1 ⊢;obtain⟨x,x1,x2⟩:=bd d1;injection x2 with x2
      subst x2;rw[x1,aA,show(n:Int)*2=((2*n:Nat):Int)by omega,qj (by omega)];exact⟨_,rfl,rfl⟩
   ·rw[JY (by omega),aP];refine WG ⟨hS.perm,?_⟩;obtain⟨F,t,hD,hF,ht,hts,hFt⟩:=hS.ex;dsimp only;have hl2:=hS.perm.length_eq;rw[hD,bO,hF.len]at hl2
    match F,hD,hF,hl2 with
    | [],hD,_,_=>rw[hD];simpa using hts
    | [X],hD,hF,hl2=>
     have hX:=hF X (by simp);simp only[fQ,List.length_nil,gL,Nat.one_mul]at hl2;have:t= []:=List.length_eq_zero_iff.1 (by omega);subst this;rw[hD];simpa using hX.2
    |_::_::F,_,_,hl2=>
     have:2*n<=(F.length+1+1)*n:=Nat.mul_le_mul_right n (by omega);simp only[fQ]at hl2;omega
  ·intro o ho;exact WH ho (λs hs=>VV hs)<|λr h=>h.elim
 obtain⟨D,h1,h2,h3⟩:=key;exact⟨D,h1,h2,h3⟩
end
end Go.Gk
namespace Go.Gk
open Go IntKind Classical
theorem i5(n:Nat)(g:Nat->Nat):((List.range<|n+1).map g).sum=((List.range n).map g).sum+g n:=by
 simp[List.range_succ,gC,List.sum_append]
def M7(r:aK)(x y:Int):Bool:=(decide (r.X0<=x)&&decide (x<r.X1))&&(decide (r.Y0<=y)&&decide (y<r.Y1))
def Hp(a b:aK):Prop:=∀x y,¬(M7 a x y=true/\M7 b x y=true)
theorem J0{r:aK}{x y:Int}:M7 r x y=true↔(r.X0<=x/\x<r.X1)/\r.Y0<=y/\y<r.Y1:=by simp[M7]
theorem zU:∀{xs:aL Int},nX xs->(Es xs).Pairwise (λp q=>p.2<q.1)
 | [],_=>mb
 | [a],_=>mb
 |a::b::l,h=>by
  unfold Es;rw[jD];exact⟨λq hq=>h.tail.head q.1 (FE q hq).1,zU h.tail.tail⟩
def FO(a b:aK):Prop:=a.Y1<=b.Y0\/(a.Y0=b.Y0/\a.Y1=b.Y1/\a.X1<b.X0)
theorem FO.apart{a b:aK}(h:FO a b):Hp a b:=λx y⟨h1,h2⟩=>by
 rw[J0]at h1 h2
 rcases h with h|h <;> omega
theorem q9:∀{s:aL aB},fE (s.map cH)->(aT s).Pairwise FO
 | [],_=>mb
 |b::s,h=>by
  rw[oj,eH];refine⟨?_,q9 h.tail,λx hx y hy=>?_⟩
  ·unfold oh;rw[List.pairwise_map];exact List.Pairwise.imp (λhpq=> .inr ⟨rfl,rfl,hpq⟩)<|zU (h.each (cH b) (by simp)).2.2.1
  ·unfold oh at hx;obtain⟨p,_,rfl⟩:=cX.1 hx;obtain⟨c,hc,q,_,rfl⟩:=rl hy;exact .inl<|h.CJ (cH c)<|cX.2 ⟨c,hc,rfl⟩
theorem EC{s:aL aB}(h:fE (s.map cH)):∀r∈aT s,r.X0<r.X1/\r.Y0<r.Y1:=λr hr=>by
 obtain⟨b,hb,p,hp,rfl⟩:=rl hr;have hc:=h.each (cH b)<|cX.2 ⟨b,hb,rfl⟩
 exact⟨Iw hc.2.2.1 p hp,hc.1⟩
theorem Hq{s:aL aB}(h:fE (s.map cH)):(aT s).Nodup:=by
 have h1:=q9 h;have h2:=EC h;refine List.Pairwise.imp_of_mem (λ{a b}ha hb hab e=>?_) h1;subst e;have:=h2 a ha
 rcases hab with h|h <;> omega
def tF(s:aL Bd):Nat:=(s.map<|λb=>b.xs.length / 2).sum
theorem Hr(s t:aL Bd):tF (s++t)=tF s+tF t:=by simp[tF,gC,List.sum_append]
theorem K6(s:aL Bd)(b:Bd):tF (oe s b)<=tF s+b.xs.length / 2:=by
 unfold oe
 grind [ui,tF,Hr]
structure Ve (t:aL Bd):Prop where
 each:∀b∈t,b.y0<b.y1/\nX b.xs/\b.xs.length % 2=0
 ord:t.Pairwise (λb c=>b.y1<=c.y0)
theorem fold_push:∀(t out:aL Bd),Ve t->fE out->(∀c∈out,∀b∈t,c.y1<=b.y0)->fE (t.foldl oe out)/\tF (t.foldl oe out)<=tF out+tF t/\
  ∀y,rowAt (t.foldl oe out) y=if(∃b∈t,b.y0<=y/\y<b.y1)then rowAt t y else rowAt out y
 | [],out,_,hc,_=>⟨hc,by simp[tF],λy=>by simp⟩
 |b::t,out,hl,hc,ho=>by
  have hb:=hl.each b (by simp);have hord:=jD.1 hl.ord;have ho1:∀c∈out,c.y1<=b.y0:=λc h=>ho c h b (by simp);have h1:=Av hc ho1 hb.2.1 hb.2.2;have htop:=Aw ho1 (show b.y0<=b.y1 by omega);obtain⟨f1,f2,f3⟩:=fold_push t (oe out b) ⟨λc hcm=>hl.each c<|mP _ hcm,hord.2⟩ h1 (λc hcm d hd=>by grind);refine⟨f1,?_,λy=>?_⟩
  ·have:=K6 out b;have e:tF (b::t)=b.xs.length / 2+tF t:=by simp[tF]
   rw[List.foldl_cons,e];omega
  ·rw[List.foldl_cons,f3 y,Au ho1 (λc hcm=>(hc.each c hcm).1)<|λh=>absurd h (by omega),mL]
   by_cases hy:b.y0<=y/\y<b.y1
   ·have hn:¬∃c∈t,c.y0<=y/\y<c.y1:=λ⟨c,hcm,h⟩=>by have:=hord.1 c hcm;omega
    rw[aF hn,aH hy,aH ⟨b,by simp,hy⟩,aH hy]
   ·rw[aF hy]
    by_cases h:∃c∈t,c.y0<=y/\y<c.y1
    ·obtain⟨c,hcm,h⟩:=h;rw[aH ⟨c,hcm,h⟩,aH ⟨c,mP _ hcm,h⟩,aF hy]
    ·rw[aF h,aF hy,aF (show ¬∃c∈b::t,c.y0<=y/\y<c.y1 from λ⟨c,hcm,h2⟩=>by
      grind)]
noncomputable def qO(C:aL aK)(b:aB):Bd:=⟨b.Y0,b.Y1,sq<|(Es b.Xs).filter<|λp=>decide<|(⟨p.1,b.Y0,p.2,b.Y1⟩:aK)∈C⟩
theorem K7{l m:aL (Int×Int)}(h:l.Sublist m):(sq l).Sublist (sq m):=by
 induction h with
 |slnil=>exact List.Sublist.refl _
 |cons a _ ih=>grind [rR]
 |cons_cons a _ ih=>grind [rR]
theorem Dc(l:aL (Int×Int)):(sq l).length % 2=0/\(sq l).length / 2=l.length:=by simp[KI]
theorem ED{s p:aL aB}{C:aL aK}(hs:fE (s.map cH))(hp:fE (p.map cH))(hC:∀r∈C,r∈aT s)(hcov:∀x y,zF (p.map cH) x y=v9 C x y):(aT p).length<=C.length:=by
 have hinc:∀b∈s,nX (qO C b).xs:=λb hb=>by
  have h1:=JR hs b hb;have h2:=K7<|List.filter_sublist (l:=Es b.Xs) (p:=λp=>decide<|(⟨p.1,b.Y0,p.2,b.Y1⟩:aK)∈C)
  rw[CQ<|tD hs b hb]at h2;exact List.Pairwise.sublist h2 h1
 have hlow:Ve (s.map<|qO C):=by
  refine⟨λb hb=>?_,?_⟩
  ·obtain⟨c,hc,rfl⟩:=cX.1 hb;exact⟨(hs.each (cH c)<|cX.2 ⟨c,hc,rfl⟩).1,hinc c hc,(Dc _).1⟩
  ·have:=hs.ord;rw[List.pairwise_map]at this ⊢;exact List.Pairwise.imp (λh=>h.1) this
 obtain⟨f1,f2,f3⟩:=fold_push (s.map<|qO C) [] hlow fE.nil (λc hc=>by cases hc);have hrow:∀{t:aL aB},(∀b∈t,b∈s)->∀x y,o9 (rowAt (t.map<|qO C) y) x=true->v9 C x y=true:=by
  intro t ht x y h
  induction t with
  |nil=>cases h
  |cons b t ih=>
   rw[eZ,mL]at h;split at h
   ·rename_i hy;have hbm:=ht b (by simp);have h1:=hinc b hbm;have h:o9 (sq<|(Es b.Xs).filter<|λp=>decide<|(⟨p.1,b.Y0,p.2,b.Y1⟩:aK)∈C) x=true:=h;rw[zG h1,CN]at h;obtain⟨q,hq,h2⟩:=h;have hq:=jC.1 hq;exact m6.2 ⟨_,of_decide_eq_true hq.2,h2,hy⟩
   grind
 have hrow2:∀x y,v9 C x y=true->o9 (rowAt (s.map<|qO C) y) x=true:=by
  intro x y h;obtain⟨r,hr,h1,h2⟩:=m6.1 h;obtain⟨b,hb,q,hq,rfl⟩:=rl<|hC r hr
  dsimp only at h1 h2;have key:∀{t:aL aB},(∀c∈t,c∈s)->fE (t.map cH)->b∈t->rowAt (t.map<|qO C) y=(qO C b).xs:=by
   intro t ht hc hbt
   induction t with
   |nil=>cases hbt
   |cons c t ih=>
    rw[eZ,mL]
    by_cases hy:c.Y0<=y/\y<c.Y1
    ·rw[aH (show(qO C c).y0<=y/\y<(qO C c).y1 from hy)]
     rcases eV.1 hbt with rfl|hbt
     ·rfl
     ·have:=hc.CJ (cH b)<|cX.2 ⟨b,hbt,rfl⟩
      grind [cH]
    ·rw[aF (show ¬((qO C c).y0<=y/\y<(qO C c).y1)from hy)]
     rcases eV.1 hbt with rfl|hbt
     ·exact absurd h2 hy
     ·exact ih (λd hd=>ht d<|mP _ hd) hc.tail hbt
  rw[key (λc hc=>hc) hs hb];have h1':=hinc b hb;show o9 (sq<|(Es b.Xs).filter<|λp=>decide<|(⟨p.1,b.Y0,p.2,b.Y1⟩:aK)∈C) x=true;rw[zG h1',CN];exact⟨q,jC.2 ⟨hq,bU hr⟩,h1⟩
 have hsame:p.map cH=(s.map<|qO C).foldl oe []:=CL hp f1 λx y=>by
  rw[hcov,jE];have e:rowAt ((s.map<|qO C).foldl oe []) y=rowAt (s.map<|qO C) y:=by
   rw[f3]
   by_cases h:∃b∈s.map (qO C),b.y0<=y/\y<b.y1
   ·rw[aH h]
   ·rw[aF h]
    exact(lH λb hb=>by
     have:¬(b.y0<=y/\y<b.y1):=λh2=>h ⟨b,hb,h2⟩
     omega).symm
  unfold zF;rw[e];exact⟨hrow2 x y,hrow (λb hb=>hb) x y⟩
 have hc1:(aT p).length=tF (p.map cH):=by
  have:∀p:aL aB,(aT p).length=tF (p.map cH):=λp=>by
   induction p with
   |nil=>rfl
   |cons b p ih=>rw[oj,bO,pE,ih];unfold tF;rw[eZ,eZ,List.sum_cons];rfl
  exact this p
 have hc2:∀s:aL aB,tF (s.map<|qO C)=((aT s).filter<|λr=>decide<|r∈C).length:=λs=>by
  induction s with
  |nil=>rfl
  |cons b s ih=>
   rw[oj,List.filter_append,bO,<-ih];unfold tF;rw[eZ,eZ,List.sum_cons];congr 1;show(sq _).length / 2=_;rw[(Dc _).2];unfold oh;rw[List.filter_map,iM];rfl
 have hc3:((aT s).filter<|λr=>decide<|r∈C).length<=C.length:=fK (List.Nodup.sublist List.filter_sublist<|Hq hs) λr hr=>of_decide_eq_true (jC.1 hr).2;rw[hc1,hsame];have e0:tF ([]:aL Bd)=0:=rfl;have:=hc2 s;omega
end Go.Gk
namespace Go.Gk
open Go IntKind
end Go.Gk
namespace Go.Gk
open Go IntKind Classical
section
variable {N:Nat}
theorem xV{all:aL aK}(w:aK->Nat):∀(c:aL Nat),((c.filterMap<|λi=>all[i]?).map w).sum=(c.map<|λi=>(all[i]?).elim 0 w).sum
 | []=>rfl
 |i::c=>by
  rw[eZ,List.sum_cons,<-xV w c]
  cases h:all[i]? with
  |none=>rw[List.filterMap_cons_none (f:=λi=>all[i]?) h];simp
  |some x=>rw[List.filterMap_cons_some (f:=λi=>all[i]?) h,eZ,List.sum_cons];rfl
theorem J3{all:aL aK}{u:Nat->Nat}(h:∀i,i<all.length->u i∈cD all.length u)(w:aK->Nat):((cD all.length u).map<|λk=>((nI all all.length u k).map w).sum).sum=(all.map w).sum:=by
 have e:(λk=>((nI all all.length u k).map w).sum)=λk=>(((List.range all.length).filter<|λx=>decide<|u x=k).map<|λi=>(all[i]?).elim 0 w).sum:=by
  funext k;unfold nI;rw[xV];rfl
 rw[e,Hm (om _ _) u _<|λx hx=>h x<|ov.1 hx];have:∀m,m<=all.length->((List.range m).map<|λi=>(all[i]?).elim 0 w).sum=((all.take m).map w).sum:=by
  intro m
  induction m with
  |zero=>intro _;rfl
  |succ m ih=>
   grind [i5,eO,aM]
 grind
theorem Dd:∀{l m:aL Nat},l.length=m.length->(∀(j x y:Nat),l[j]? =some x->m[j]? =some y->x<=y)->l.sum<=m.sum
 | [],[],_,_=>bW _
 | [],_::_,h,_=>by simp at h
 |_::_,[],h,_=>by simp at h
 |a::l,b::m,h,hle=>by
  have h1:=hle 0 a b rfl rfl;have h2:=Dd (l:=l) (m:=m) (by simpa using h) λj x y hx hy=>hle (j+1) x y (by grind) (by grind);rw[List.sum_cons,List.sum_cons];omega
theorem J4{r hs:aL aK}{s:aL aB}(h1:∀x∈r,dR x=true)(h2:∀x∈hs,dR x=true)(hc:fE (s.map cH))(hl:yL (tx r++tx hs) (nF r++nF hs) (s.map cH)):∀q∈aT s,dR q=true/\q.X0<q.X1/\q.Y0<q.Y1:=by
 intro q hq;have hp:=EC hc q hq;obtain⟨b,hb,p,hpm,rfl⟩:=rl hq;have hll:=hl (cH b)<|cX.2 ⟨b,hb,rfl⟩
 have hm:=FE p hpm;have bx:∀c∈tx r++tx hs,-1000000<=c/\c<=1000000:=λc hcm=>by
  rcases dJ.1 hcm with h|h
  ·obtain⟨x,hx,h⟩:=tz.1 h;have:=iG<|h1 x hx
   omega
  ·obtain⟨x,hx,h⟩:=tz.1 h;have:=iG<|h2 x hx
   omega
 have by':∀c∈nF r++nF hs,-1000000<=c/\c<=1000000:=λc hcm=>by
  rcases dJ.1 hcm with h|h
  ·obtain⟨x,hx,h⟩:=nG.1 h;have:=iG<|h1 x hx
   omega
  ·obtain⟨x,hx,h⟩:=nG.1 h;have:=iG<|h2 x hx
   omega
 have g1:=bx _<|hll.2.2 p.1 hm.1
 have g2:=bx _<|hll.2.2 p.2 hm.2
 have g3:=by' _ hll.1
 have g4:=by' _ hll.2.1
 exact⟨C2 ⟨g1,g3,g2,g4⟩,hp⟩
structure rU (r hs:aL aK) (s:aL aB) (u:Nat->Nat) (ps:aL (aL aB)):Prop where
 r1:∀x∈r,dR x=true
 r2:∀x∈hs,dR x=true
 k1:∀x∈r,HN x
 k2:∀x∈hs,HN x
 dr:w5 r hs s
 pt:um s u ps
 Ew:(aT s).length<=2000
theorem rU.part{r hs:aL aK}{s:aL aB}{u:Nat->Nat}{ps:aL (aL aB)}(h:rU r hs s u ps){p:aL aB}(hp:p∈ps):fE (p.map cH)/\(aT p).length<=2000/\∀q∈aT p,dR q=true/\q.X0<q.X1/\q.Y0<q.Y1:=by
 obtain⟨sx,sy⟩:=h.dr.small h.k1 h.k2;obtain⟨j,k,g1,g2,g3,g4⟩:=C5 h.pt h.dr.can h.dr.lim sx sy hp
 have:=ED h.dr.can g3.can (λx hx=>by
  grind [oY,gA]) g3.cover
 have h2:=CY (aT s) (aT s).length u k;have:=h.Ew;exact⟨g3.can,by omega,J4 h.r1 h.r2 g3.can g4⟩
theorem rU.cD{r hs:aL aK}{s:aL aB}{u:Nat->Nat}{ps:aL (aL aB)}(h:rU r hs s u ps):∀i,i<(aT s).length->u i∈Gk.cD (aT s).length u:=λi hi=>jO.2 ⟨by have:=h.pt.join.le i hi;omega,h.pt.join.rr i hi⟩
theorem rU.total{r hs:aL aK}{s:aL aB}{u:Nat->Nat}{ps:aL (aL aB)}(h:rU r hs s u ps):(ps.map<|λp=>(aT p).length).sum<=(aT s).length:=by
 have h1:=J3 h.cD<|λ_=>1
 have one:∀l:aL aK,(l.map<|λ_=>1).sum=l.length:=λl=>by
  induction l with
  |nil=>rfl
  |cons x l ih=>grind
 simp only[one]at h1;rw[<-h1];refine Dd (by simp[h.pt.len]) λj x y hx hy=>?_;rw[kl,Option.map_eq_some_iff]at hx hy;obtain⟨p,hp,rfl⟩:=hx;obtain⟨k,hk,rfl⟩:=hy;have hs:=h.pt.each j k p hk hp
 exact ED h.dr.can hs.can (λx hx=>by
  grind [oY,gA]) hs.cover
theorem A5{ps:aL (aL aB)}{x y:Int}:v9 (ps.flatMap aT) x y=true↔∃p∈ps,v9 (aT p) x y=true:=by
 grind [m6]
theorem rU.cover{r hs:aL aK}{s:aL aB}{u:Nat->Nat}{ps:aL (aL aB)}(h:rU r hs s u ps)(x y:Int):v9 (ps.flatMap aT) x y=zF (s.map cH) x y:=by
 rw[<-tB h.dr.can,jE,A5];constructor
 ·rintro⟨p,hp,hc⟩;obtain⟨j,hj⟩:=fA hp;have hjl:=(bN.1 hj).1;have hk:(Gk.cD (aT s).length u)[j]? =some ((Gk.cD (aT s).length u)[j]'(by rw[<-h.pt.len];exact hjl)):=aM _;have hs:=h.pt.each j _ _ hk hj;rw[tB hs.can,hs.cover]at hc
  grind [m6,oY,gA]
 ·intro hc;obtain⟨q,hq,h2⟩:=m6.1 hc;obtain⟨i,hi⟩:=fA hq;have hil:=(bN.1 hi).1;obtain⟨j,hj⟩:=fA<|h.cD i hil
  have hjl:j<ps.length:=by rw[h.pt.len];grind
  have hs:=h.pt.each j _ _ hj<|aM hjl
  refine⟨_,cS hjl,?_⟩;rw[tB hs.can,hs.cover]
  grind [m6,oY]
section
variable {a:iE}{kC:aL (aL aB)}{eU:aL (aL (aL aB))}{r:Nat->Nat}{gs:aL bM}{ofP ofB mq:aL Int}{mj:aL fN}
theorem Hs(b:mO a kC eU r gs ofP ofB mq mj){i:Nat}(hi:i<a.aS.length):∃s ps u,kC[i]? =some s/\eU[i]? =some ps/\rU a.aS[i] (qM a.bQ (i:Int)) s u ps:=by
 have hd:kC[i]? =some (kC[i]'(by rw[b.dr.len];exact hi)):=aM _;have hp:eU[i]? =some (eU[i]'(by rw[b.dr.FH];exact hi)):=aM _;have hdr:=b.dr.dr i _ _ hi (aM hi) hd;obtain⟨u,hu⟩:=b.dr.pt i _ _ hi hd hp;have hreg:=sw.1<|b.MV.Vd _<|cS hi
 exact⟨_,_,u,hd,hp,λx hx=>((xR.1 hreg.1).2 x hx).1,λx hx=>(zM b.MV.gb _ x hx).2,(IF hreg.1).2,λx hx=>(zM b.MV.gb _ x hx).1,hdr,hu,b.Ew.1 _<|gA hd⟩
end
end
def FP(f:Int->Int->Bool)(x y:Int):Prop:=f x y=true/\∀x' y',f x' y'=true->y<y'\/(y=y'/\x<=x')
theorem FP.unique{f:Int->Int->Bool}{x y x' y':Int}(h:FP f x y)(h':FP f x' y'):x=x'/\y=y':=by
 have h1:=h.2 _ _ h'.1;have h2:=h'.2 _ _ h.1;omega
section
variable {N:Nat}
structure BI (all:aL aK) (u:Nat->Nat) (i:Nat) (q:aL Nat) (done:aL Bool) (own:aL aK):Prop where
 len:done.length=all.length
 nd:q.Nodup
 lt:∀k∈q,k<all.length/\u k=i
 hd:i∈q
 dn:∀k,k<all.length->done[k]? =some (decide<|u k<i\/k∈q)
 ow:own.map some=q.map (λk=>all[k]?)
theorem BI.Ew{all:aL aK}{u:Nat->Nat}{i:Nat}{q:aL Nat}{done:aL Bool}{own:aL aK}(h:BI all u i q done own):q.length<=all.length:=by
 have:=fK h.nd (m:=List.range all.length) (λk hk=>by rw[ov];exact(h.lt k hk).1)
 grind
theorem BI.at_{all:aL aK}{u:Nat->Nat}{i:Nat}{q:aL Nat}{done:aL Bool}{own:aL aK}(h:BI all u i q done own){p k:Nat}(hk:q[p]? =some k):own[p]? =all[k]? :=by
 have e:=congrArg (λl=>l[p]?) h.ow
 grind
theorem BI.mem{all:aL aK}{u:Nat->Nat}{i:Nat}{q:aL Nat}{done:aL Bool}{own:aL aK}(h:BI all u i q done own){r:aK}:r∈own↔∃k∈q,all[k]? =some r:=by
 have:r∈own↔some r∈own.map some:=by simp
 rw[this,h.ow,cX]
end
end Go.Gk
namespace Go.Gk
open Go IntKind
section
variable {α β:Type}
theorem Na{N:Nat}{l:aL α}{s:β}{φ:α->β->aU Int}(c:α->Int)(hφ:∀x∈l,φ x s=some (c x))(hs:∀(i j:Nat)(x y:α),i<j->l[i]? =some x->l[j]? =some y->0<=c x->0<c y)
  (hl:l.length<=1048576) (hN:4194304<=N):∃r,DF N l s φ=some r/\r.2=l.any (λx=>c x==0)/\(r.2=true->r.1=F7 l (λx=>c x==0)):=by
 show Ok (DF N l s φ) (λr=>r.2=l.any (λx=>c x==0)/\(r.2=true->r.1=F7 l (λx=>c x==0)));unfold DF
 refine V3 (WS (Go:=λst:Int×Int=>∃a:Nat,st.1=(a:Int)/\a<=l.length/\(∀j x,j<a->l[j]? =some x->c x<0)/\(∀j x,a<=j->l[j]? =some x->0<=c x)) (Rt:=λ_=>True)
  (λst=>∃a b:Nat,st=((a:Int),(b:Int))/\a<=b/\b<=l.length/\(∀j x,j<a->l[j]? =some x->c x<0)/\(∀j x,b<=j->l[j]? =some x->0<=c x))
  (λst=>(st.2 - st.1).toNat) ?_ ⟨0,l.length,rfl,by omega,bW _,λj x hj=>by omega,λj x hj hx=>by grind⟩ (by omega)) ?_
 ·rintro st⟨a,b,rfl,hab,hb,h1,h2⟩;dsimp only
  by_cases hlt:a<b
  ·have hm:(a+b) / 2<l.length:=by omega
   have hx:l[(a+b) / 2]? =some l[(a+b) / 2]:=aM hm;rw[show decide ((a:Int)<(b:Int))=true by grind,aQ,El hlt (by omega)];refine Wu hx<|VT (hφ _<|cS _) ?_
   by_cases hc:c l[(a+b) / 2]<0
   ·rw[bU hc,aQ,aA];refine Wz ⟨⟨(a+b) / 2+1,b,?_,by omega,hb,λj x hj hx'=>?_,h2⟩,?_⟩
    ·rw[eN (by omega)]
    ·by_cases e:j=(a+b) / 2
     ·subst e;rw[hx]at hx';injection hx' with hx';rw[<-hx'];exact hc
     ·by_cases h0:c x<0
      ·exact h0
      ·have:=hs j _ x _ (by omega) hx' hx (by omega);omega
    ·rw[eN (by omega)];simp only;omega
   ·rw[bS hc,aP,aA];refine Wz ⟨⟨a,(a+b) / 2,rfl,by omega,by omega,h1,λj x hj hx'=>?_⟩,by simp only;omega⟩
    by_cases e:j=(a+b) / 2
    ·subst e;rw[hx]at hx';injection hx' with hx';rw[<-hx'];omega
    ·have:=hs _ j _ x (by omega) hx hx' (by omega);omega
  ·rw[show decide ((a:Int)<(b:Int))=false by rw[decide_eq_false_iff_not];omega,aP];exact WG ⟨a,rfl,by omega,h1,λj x hj hx=>h2 j x (by omega) hx⟩
 intro o ho;refine WH ho ?_<|λr hr=>r.elim
 rintro⟨st1,st2⟩⟨a,ha,hle,h1,h2⟩;dsimp only at ha ⊢;subst ha
 by_cases hlt:a<l.length
 ·have hx:l[a]? =some l[a]:=aM hlt;rw[show decide ((a:Int)<((l.length:Nat):Int))=true by rw[dP];omega,aQ,cG hx,aA,hφ _<|cS _,aA,aA];refine VV ?_
  by_cases he:c l[a]=0
  ·have hb:(c l[a]==0)=true:=by rw[beq_iff_eq];exact he
   rw[hb];refine⟨(lq.2 ⟨_,cS hlt,hb⟩).symm,λ_=>?_⟩;rw[G2 hx hb (λj y hj hy=>by have:=h1 j y hj hy;rw[beq_eq_false_iff_ne];omega)]
  ·have hb:(c l[a]==0)=false:=by rw[beq_eq_false_iff_ne];exact he
   rw[hb];refine⟨?_,λh=>by cases h⟩;symm;rw[List.any_eq_false];intro x hx';obtain⟨j,hj⟩:=fA hx';rw[qP,beq_eq_false_iff_ne]
   by_cases hja:j<a
   ·have:=h1 j x hja hj;omega
   ·by_cases e:j=a
    ·subst e;rw[hx]at hj;injection hj with hj;rw[<-hj];exact he
    ·have h3:=h2 a _ (bW _) hx;have:=hs a j _ x (by omega) hx hj h3;omega
 ·rw[show decide ((a:Int)<((l.length:Nat):Int))=false by rw[decide_eq_false_iff_not];omega,aP,aA];refine VV ⟨?_,λh=>by cases h⟩;symm;rw[List.any_eq_false];intro x hx';obtain⟨j,hj⟩:=fA hx';have:=(bN.1 hj).1;have:=h1 j x (by omega) hj;rw[qP,beq_eq_false_iff_ne];omega
end
end Go.Gk
namespace Go.Gk
open Go IntKind Classical
def tL(p q:bZ):Prop:=cN.lt p.Part q.Part\/(p.Part=q.Part/\cN.lt p.bZ q.bZ)
theorem J5{p q:bZ}(h1:p.Part=q.Part)(h2:p.bZ=q.bZ):p=q:=by cases p;simp_all
theorem tL.irrefl(p:bZ):¬tL p p:=λh=>by
 rcases h with h|⟨_,h⟩
 ·exact cN.lt_irrefl _ h
 ·exact cN.lt_irrefl _ h
theorem tL.trans{p q r:bZ}(h1:tL p q)(h2:tL q r):tL p r:=by
 rcases h1 with h1|⟨e1,h1⟩ <;> rcases h2 with h2|⟨e2,h2⟩
 ·exact .inl<|cN.lt_trans h1 h2
 ·exact .inl (by grind)
 ·exact .inl (by grind)
 ·exact .inr ⟨e1.trans e2,cN.lt_trans h1 h2⟩
theorem tL.total(p q:bZ):tL p q\/p=q\/tL q p:=by
 rcases cN.zi p.Part q.Part with h|h|h
 ·exact .inl<|.inl h
 ·rcases cN.zi p.bZ q.bZ with h'|h'|h'
  ·exact .inl<|.inr ⟨h,h'⟩
  ·grind [J5]
  ·exact .inr<|.inr<|.inr ⟨h.symm,h'⟩
 ·exact .inr<|.inr<|.inl h
theorem tL.asymm{p q:bZ}(h:tL p q):¬tL q p:=λh'=>tL.irrefl p<|h.trans h'
theorem tL.ne{p q:bZ}(h:tL p q):p≠q:=by grind [tL.irrefl]
theorem AK{a b:cN}:Lib.compareBytes a.dA b.dA=0↔a=b:=by grind [cN.ext',nV]
theorem iz{p q:bZ}:fL p q=0↔p=q:=by
 grind [fL,Lib.compareBytes,AK,J5]
theorem pH{p q:bZ}:fL p q<0↔tL p q:=by
 unfold fL tL
 by_cases h:Lib.compareBytes p.Part.dA q.Part.dA=0
 ·rw[aF (by simpa using h),pB];have e:=AK.1 h;constructor
  ·exact λh'=> .inr ⟨e,h'⟩
  ·rintro(h'|⟨_,h'⟩)
   ·grind [cN.lt_irrefl]
   ·exact h'
 ·rw[aH h,pB];constructor
  ·exact λh'=> .inl h'
  ·rintro(h'|⟨e,_⟩)
   ·exact h'
   grind [AK]
theorem pI{p q:bZ}:0<fL p q↔tL q p:=by
 constructor
 ·intro h
  rcases tL.total p q with h'|h'|h'
  ·have:=pH.2 h';omega
  all_goals grind [iz]
 ·intro h
  by_cases h1:fL p q<0
  ·exact absurd (pH.1 h1) h.asymm
  ·by_cases h2:fL p q=0
   ·exact absurd (iz.1 h2).symm h.ne
   ·omega
section
variable {N:Nat}
structure IP (a:iE) (x:cW):Prop where
 name:mN x.Part=true/\isWord x.bZ=true
 S4:0<=x.dI/\x.dI<(a.aS.length:Int)
 at_:wh x.At=true
structure m7 (a:iE):Prop where
 Ew:a.bX.length<=1000
 each:∀x∈a.bX,IP a x
 up:a.bX.Pairwise (λx y=>tL (lI x)<|lI y)
theorem FQ{a:iE}{k:Nat}{x:cW}(hx:a.bX[k]? =some x)(h:o5 a k=none):IP a x/\∀y,0<k->a.bX[k - 1]? =some y->tL (lI y) (lI x):=by
 unfold o5 at h;rw[hx,Option.bind_some]at h;split at h
 ·rename_i h1;split at h
  ·rename_i h2;split at h
   ·cases h
   ·rename_i h3;rw[dB]at h1 h2;unfold jk at h2;rw[dB,dP,dP]at h2;refine⟨⟨h1,⟨by omega,by omega⟩,h2.2⟩,λy hk hy=>?_⟩
    grind [fL,pI]
  ·cases h
 ·cases h
theorem IQ{a:iE}{k:Nat}{e:Int}(h:o5 a k=some e):e≠0:=by
 unfold o5 at h
 cases hx:a.bX[k]? with
 |none=>grind
 |some x=>
  rw[hx,Option.bind_some]at h
  repeat' split at h
  all_goals grind
theorem K9{a:iE}(h:nK a=0):m7 a:=by
 unfold nK at h;split at h
 ·omega
 rename_i hl;have hn:l8 a.bX.length (o5 a)=none:=by
  cases hf:l8 a.bX.length (o5 a)with
  |none=>rfl
  |some e=>
   grind [kj,IQ]
 rw[ki]at hn;have hg:∀(k:Nat)x,a.bX[k]? =some x->IP a x/\∀y,0<k->a.bX[k - 1]? =some y->tL (lI y) (lI x):=λk x hx=>FQ hx<|hn k (bN.1 hx).1
 refine⟨by omega,λx hx=>?_,?_⟩
 ·grind [fA]
 ·have hstep:∀(n i:Nat)x y,a.bX[i]? =some x->a.bX[i+n+1]? =some y->tL (lI x) (lI y):=by
   intro n
   induction n with
   |zero=>grind
   |succ n ih=>
    intro i x y hx hy;have hz:i+n+1<a.bX.length:=by grind
    have h1:=ih i x _ hx<|aM hz
    exact h1.trans<|(hg (i+(n+1)+1) y hy).2 _ (by omega) (by grind)
  rw[iS];intro i j hi hj hij;exact hstep (j - i - 1) i _ _ (aM hi) (by rw[show i+(j - i - 1)+1=j by omega];exact aM hj)
theorem m7.inj{a:iE}(h:m7 a){i j:Nat}{x y:cW}(hx:a.bX[i]? =some x)(hy:a.bX[j]? =some y)(e:lI x=lI y):i=j:=by
 obtain⟨h1,rfl⟩:=bN.1 hx;obtain⟨h2,rfl⟩:=bN.1 hy;have hp:=iS.1 h.up
 rcases Nat.lt_trichotomy i j with h3|h3|h3
 ·exact absurd e (hp i j h1 h2 h3).ne
 ·exact h3
 ·exact absurd e.symm (hp j i h2 h1 h3).ne
theorem Ht{l:aL cW}{p:bZ}(hu:l.Pairwise (λx y=>tL (lI x)<|lI y))(hl:l.length<=1048576)(hN:4194304<=N){φ:cW->bZ->aU Int}(hφ:∀x,φ x p=some (fL (lI x) p)):
  ∃r,DF N l p φ=some r/\(bif(!r.2)then some (-1)else some r.1)=some (F7 l<|λx=>decide<|lI x=p):=by
 obtain⟨r,h1,h2,h3⟩:=Na (N:=N) (l:=l) (s:=p) (φ:=φ) (λx=>fL (lI x) p) (λx _=>hφ x) (λi j x y hij hx hy hc=>by
  obtain⟨g1,rfl⟩:=bN.1 hx;obtain⟨g2,rfl⟩:=bN.1 hy;have hlt:=iS.1 hu i j g1 g2 hij;refine pI.2 ?_
  by_cases h0:fL (lI l[i]) p=0
  ·rw[<-iz.1 h0];exact hlt
  ·exact(pI.1 (by omega)).trans hlt) hl hN
 have e:(λx=>fL (lI x) p==0)=(λx=>decide<|lI x=p):=by
  funext x;rw[jE,beq_iff_eq,dP,iz]
 rw[e]at h2 h3;refine⟨r,h1,?_⟩
 cases hr:r.2 with
 |true=>simp only[ll,aP];rw[h3 hr]
 |false=>
  simp only[ln,aQ];rw[hr]at h2;rw[Ct h2.symm]
def iA(a:iE)(p:bZ):Int:=F7 a.bX<|λx=>decide<|lI x=p
theorem Hu(a:iE)(p:bZ):(iA a p = -1/\∀x∈a.bX,lI x≠p)\/∃(k:Nat)(x:cW),iA a p=(k:Int)/\a.bX[k]? =some x/\lI x=p:=by
 rcases n8 a.bX (λx=>decide<|lI x=p)with⟨h1,h2⟩|⟨k,x,h1,h2,h3,_⟩
 ·exact .inl ⟨h1,λx hx=>of_decide_eq_false<|h2 x hx⟩
 ·exact .inr ⟨k,x,h1,h2,of_decide_eq_true h3⟩
end
section
variable {N:Nat}{a:iE}{kC:aL (aL aB)}{eU:aL (aL (aL aB))}{r:Nat->Nat}{gs:aL bM}{ofP ofB mq:aL Int}{mj:aL fN}
theorem Nb(b:mO a kC eU r gs ofP ofB mq mj){p:aI}(hp:p∈cK 0 eU):p.iU.length<=2000/\(∀q∈p.iU,dR q=true/\q.X0<q.X1/\q.Y0<q.Y1)/\∃i:Nat,p.dI=(i:Int)/\∀x y,v9 p.iU x y=true->v9 (qM a.bQ (i:Int)) x y=false:=by
 obtain⟨i,ps,q,h1,h2,rfl⟩:=AG hp;have hil:i<a.aS.length:=by have:=(bN.1 h1).1;rw[b.dr.FH]at this;exact this
 obtain⟨s,ps',u,g1,g2,L⟩:=Hs b hil;rw[h1]at g2;injection g2 with g2;subst g2
 obtain⟨k1,k2,k3⟩:=L.part h2;refine⟨k2,k3,i,by simp,λx y h=>?_⟩;have h3:v9 (ps.flatMap aT) x y=true:=A5.2 ⟨q,h2,h⟩;rw[L.cover,L.dr.cover,dB,Bool.not_eq_true']at h3;exact h3.2
end
structure PS (n:Nat) (r:Nat->Nat) (h:Nat) (q:aL Nat) (seen:aL Bool) (pieces todo:aL Int):Prop where
 sl:seen.length=n
 sn:∀p,p<n->seen[p]? =some (decide<|r p<h\/p∈q)
 qn:q.Nodup
 qi:∀p∈q,p<n/\r p=h
 q0:h∈q
 td:todo=ints q
 pi:nX pieces
 pm:∀x,x∈pieces↔∃p∈q,x=((p:Nat):Int)
structure QS (n m:Nat) (tch:aL (aL Int)) (r:Nat->Nat) (h:Nat) (q qb:aL Nat) (zR:aL Int) (used:aL Bool):Prop where
 ul:used.length=m
 un:∀k,k<m->used[k]? =some (decide<|k∈qb)
 bi:nX zR
 bm:∀x,x∈zR↔∃k∈qb,x=((k:Nat):Int)
 bk:∀k∈qb,k<m/\r (n+k)=h/\∀l,tch[k]? =some l->∀p:Nat,(p:Int)∈l->p∈q
theorem PS.Ew{n:Nat}{r:Nat->Nat}{h:Nat}{q:aL Nat}{seen:aL Bool}{pieces todo:aL Int}(H:PS n r h q seen pieces todo):q.length<=n/\pieces.length<=n:=by
 have h1:=fK H.qn (m:=List.range n) (λk hk=>by rw[ov];exact(H.qi k hk).1);rw[List.length_range]at h1;have h2:=fK H.pi.nodup (m:=ints q)<|λx hx=>C6.2<|(H.pm x).1 hx
 grind [nM]
theorem QS.Ew{n m:Nat}{tch:aL (aL Int)}{r:Nat->Nat}{h:Nat}{q qb:aL Nat}{zR:aL Int}{used:aL Bool}(H:QS n m tch r h q qb zR used):zR.length<=m:=by
 have h2:=fK H.bi.nodup (m:=ints (List.range m)) (λx hx=>by
  obtain⟨k,hk,e⟩:=(H.bm x).1 hx
  exact C6.2 ⟨k,ov.2 (H.bk k hk).1,e⟩)
 grind [nM,List.length_range]
structure VC (G G':aL bM):Prop where
 len:G'.length=G.length
 each:∀(g:Nat)x,G[g]? =some x->∃y,G'[g]? =some y/\y.oD=x.oD/\y.bQ=x.bQ
section
variable {N:Nat}{a:iE}{kC:aL (aL aB)}{eU:aL (aL (aL aB))}{r:Nat->Nat}{gs:aL bM}{ofP ofB mq:aL Int}{mj:aL fN}
theorem mO.xT(b:mO a kC eU r gs ofP ofB mq mj):m7 a:=K9 b.MV.xT
end
section
variable {bs:aL cL}{ls:aL cW}{pcs:aL aI}{r:Nat->Nat}{gs:aL bM}{ofP ofB mq:aL Int}{mj:aL fN}
theorem IU(hc:yz bs ls pcs r gs ofP ofB mq mj){g:Nat}{x:bM}(hg:gs[g]? =some x):
  ∃hd,(live bs pcs.length (pcs.length+bs.length) r<|cD (pcs.length+bs.length) r)[g]? =some hd/\x.oD=ints (gP pcs.length<|cls (pcs.length+bs.length) r hd)/\
   x.bQ=ints (gB bs pcs.length<|cls (pcs.length+bs.length) r hd)/\x.aZ=(ls.filter<|λl=>decide<|yy bs pcs r l=some g).map lI:=by
 rw[hc.gs,o7]at hg;obtain⟨y,hy,rfl⟩:=Option.map_eq_some_iff.1 hg;unfold tE at hy;rw[kl]at hy;obtain⟨hd,h1,rfl⟩:=Option.map_eq_some_iff.1 hy;exact⟨hd,h1,rfl,rfl,rfl⟩
theorem Qt(hc:yz bs ls pcs r gs ofP ofB mq mj):gs.length=(live bs pcs.length (pcs.length+bs.length) r<|cD (pcs.length+bs.length) r).length/\gs.length<=pcs.length+bs.length:=by
 have e:gs.length=(live bs pcs.length (pcs.length+bs.length) r<|cD (pcs.length+bs.length) r).length:=by
  rw[hc.gs,zQ,wt]
 grind [uq,cD,pF]
theorem Ta(hc:yz bs ls pcs r gs ofP ofB mq mj){k:Nat}(hk:k<pcs.length):
  ∃g:Nat,ofP[k]? =some (g:Int)/\g<gs.length/\(live bs pcs.length (pcs.length+bs.length) r<|cD (pcs.length+bs.length) r)[g]? =some (r k):=by
 have hm:r k∈cD (pcs.length+bs.length) r:=jO.2 ⟨by have:=hc.conn.le k (by omega);omega,hc.conn.rr k (by omega)⟩;obtain⟨g1,g2⟩:=JV (bs:=bs) (n:=pcs.length) hm<|MR hk (by omega)
 exact⟨_,hc.of.pc k hk hm,by grind [Qt],g2⟩
theorem J6(hc:yz bs ls pcs r gs ofP ofB mq mj){g:Nat}{x:bM}(hg:gs[g]? =some x):x.oD.length<=pcs.length+bs.length/\x.bQ.length<=pcs.length+bs.length/\x.aZ.length<=ls.length:=by
 obtain⟨hd,h1,h2,h3,h4⟩:=IU hc hg;have a1:=IJ pcs.length<|cls (pcs.length+bs.length) r hd
 grind [IK,cls,BP,nM,iM,me,decide,yy]
end
section
variable {N:Nat}{a:iE}{kC:aL (aL aB)}{eU:aL (aL (aL aB))}{r:Nat->Nat}{gs:aL bM}{ofP ofB mq:aL Int}{mj:aL fN}
theorem tG(g:m7 a)(p:bZ)(hN:nb N):eP N a p=some (iA a p):=by
 obtain⟨r,h1,h2⟩:=Ht (N:=N) (p:=p) g.up (by have:=g.Ew;omega) (by omega) (φ:=iO N) (λx=>by unfold iO;rw[AE,aA,lR,aA]);unfold eP;have e:fS N a.bX p (iO N)=DF N a.bX p (iO N):=rfl;rw[e,h1,aA];exact h2
end
theorem DS.uniq{n m:Nat}{tch:aL (aL Int)}{r1 r2:Nat->Nat}(h1:DS n m tch r1)(h2:DS n m tch r2){i j:Nat}(hi:i<n+m)(hj:j<n+m):r1 i=r1 j↔r2 i=r2 j:=by
 have key:∀{r1 r2:Nat->Nat},DS n m tch r1->DS n m tch r2->r1 i=r1 j->r2 i=r2 j:=λ{r1 r2}h1 h2 e=>
  (h1.fi (λx=>r2 i=r2 x) (λa b hab=>by rw[h2.co a b hab]) i j hi hj e) rfl
 grind
section
variable {N:Nat}{a:iE}{kC:aL (aL aB)}{eU:aL (aL (aL aB))}{r:Nat->Nat}{gs:aL bM}{ofP ofB mq:aL Int}{mj:aL fN}
theorem Qu(x y:Int)(u:aL Int):kY N x y [] u=dS N u x y:=by
 show(((dS N u x y).bind λx38=>some x38).bind λs36=>some s36)=_;simp
theorem IV{bs:aL cL}{pcs:aL aI}{l:cW}{h:fN}(hh:r7 bs pcs l=some h)(hn:pcs.length+bs.length<=1000000000):
  jL N h (pcs.length:Int)=some ((jJ pcs.length h:Nat):Int)/\jJ pcs.length h<pcs.length+bs.length:=by
 obtain⟨k,e,h1,h2⟩:=(IL hh).num
 grind [jL,jJ,cR,wrap_add]
structure OH (bs:aL cL) (pcs:aL aI) (ls:aL cW) (r2:Nat->Nat) (j:Nat) (up:aL Int) (fm:aL (Int×Int)) (out:aL Int):Prop where
 uf:UF (pcs.length+bs.length) up r2
 len:out.length=ls.length
 no:∀i l,i<j->ls[i]? =some l->r7 bs pcs l=none->out[i]? =some (-1)
 yes:∀i l h,i<j->ls[i]? =some l->r7 bs pcs l=some h->iD fm ((r2 (jJ pcs.length h):Nat):Int)=true/\out[i]? =some (dE fm ((r2 (jJ pcs.length h):Nat):Int) 0)
 low:∀x,iD fm x=true->∃v:Nat,dE fm x 0=(v:Int)/\v<j
 inj:∀x y,iD fm x=true->iD fm y=true->dE fm x 0=dE fm y 0->x=y
theorem IW{bs:aL cL}{pcs:aL aI}{ls:aL cW}(hn:pcs.length+bs.length<=1000000000)(hp:pcs.length<=1073741824)(hbl:bs.length<=1073741824)(hl:ls.length<=1073741824)(hof:mq=ls.map (Ly bs pcs r))(hat:mj=ls.map (λl=>(r7 bs pcs l).getD ⟨false,0⟩))(hN:nb N):
  ∃r2 c up fm,lV N bs ls pcs (lj bs pcs) mq mj []=some c/\DS pcs.length bs.length (lj bs pcs) r2/\OH bs pcs ls r2 ls.length up fm c:=by
 suffices h:Ok (lV N bs ls pcs (lj bs pcs) mq mj []) (λc=>∃r2 up fm,DS pcs.length bs.length (lj bs pcs) r2/\OH bs pcs ls r2 ls.length up fm c)by
  obtain⟨c,h1,r2,up,fm,h2,h3⟩:=h
  grind
 unfold lV;refine VT (x:=[]) rfl ?_;rw[wrap_add (by omega)];obtain⟨up0,u1,u2⟩:=wc (N:=N) (n:=pcs.length+bs.length) (by omega);refine VT u1 ?_;simp only[Qu];refine V3 (Ey (n:=pcs.length) (m:=bs.length) (by simp[lj]) (Hi (by omega)) (by omega) (by omega) u2 hN) ?_;rintro up1⟨r2,v1,v2⟩;refine VT (x:=up1) rfl<|VT (wU 0 (by omega)) ?_
 have tK:mj.length=ls.length:=by rw[hat,iM]
 refine V3 (WK (λj(st:aL Int×aL (Int×Int)×aL Int)=>OH bs pcs ls r2 j st.1 st.2.1 st.2.2) (by omega) ⟨v1,by simp,λi l h=>by omega,λi l h h1=>by omega,λx hx=>(by cases hx),λx y hx=>(by cases hx)⟩ ?_)<|λst I=>VV ⟨r2,st.1,st.2.1,v2,by grind⟩
 rintro j⟨up,fm,out⟩hj I;rw[tK]at hj;dsimp only at I ⊢;have hx:ls[j]? =some ls[j]:=aM hj;have h1:mj[j]? =some ((r7 bs pcs ls[j]).getD ⟨false,0⟩):=by grind
 have h2:mq[j]? =some (Ly bs pcs r ls[j]):=by grind
 have h3:out[j]? =some (out[j]'(by rw[I.len];exact hj)):=aM _;have hjo:j<out.length:=by grind
 refine Wu h1 ?_
 cases hh:r7 bs pcs ls[j]with
 |none=>
  have e1:Ly bs pcs r ls[j] = -1:=by grind [Ly,yy]
  refine VT (x:=0) rfl<|VT (x:=true) (by grind [cG,aA]) ?_
  refine Wu h3<|VV ?_
  dsimp only;rw[cR];refine⟨I.uf,by rw[j8];exact I.len,λi l hi hil hn=>?_,λi l h hi hil hs=>?_,λx hx=>?_,I.inj⟩
  ·by_cases e:i=j
   ·grind
   ·rw[List.getElem?_set_ne<|Ne.symm e];exact I.no i l (by omega) hil hn
  ·by_cases e:i=j
   ·grind
   ·rw[List.getElem?_set_ne<|Ne.symm e];exact I.yes i l h (by omega) hil hs
  ·obtain⟨v,q1,q2⟩:=I.low x hx;grind
 |some h=>
  obtain⟨c1,c2⟩:=IV (N:=N) hh hn;have e1:∃g:Nat,Ly bs pcs r ls[j]=(g:Int):=by grind [Ly,yy]
  obtain⟨g,e1⟩:=e1;refine VT c1<|VT (x:=false) (by rw[cG h2,aA,e1,bS (show ¬(g:Int)<0 by omega),aP];rfl) ?_
  rw[aP];obtain⟨up2,t1,t2⟩:=uk (N:=N) I.uf c2 (by omega);refine VT t1 ?_;dsimp only;have fin:∀(up3:aL Int)(fm2:aL (Int×Int)),UF (pcs.length+bs.length) up3 r2->(∀x,iD fm x=true->iD fm2 x=true/\dE fm2 x 0=dE fm x 0)->iD fm2 ((r2 (jJ pcs.length h):Nat):Int)=true->(∀x,iD fm2 x=true->∃v:Nat,dE fm2 x 0=(v:Int)/\v<j+1)->(∀x y,iD fm2 x=true->iD fm2 y=true->dE fm2 x 0=dE fm2 y 0->x=y)->
    OH bs pcs ls r2 (j+1) up3 fm2 (out.set j<|dE fm2 ((r2 (jJ pcs.length h):Nat):Int) 0):=λup3 fm2 g1 g2 g3 g4 g5=>by
   refine⟨g1,by rw[j8];exact I.len,λi l hi hil hn=>?_,λi l h' hi hil hs=>?_,g4,g5⟩
   ·by_cases e:i=j
    ·subst e;rw[hx]at hil;injection hil with hil;subst hil;rw[hh]at hn;cases hn
    ·rw[List.getElem?_set_ne<|Ne.symm e];exact I.no i l (by omega) hil hn
   ·by_cases e:i=j
    ·subst e;rw[hx]at hil;injection hil with hil;subst hil;rw[hh]at hs;injection hs with hs;subst hs
     exact⟨g3,by grind⟩
    ·obtain⟨q1,q2⟩:=I.yes i l h' (by omega) hil hs;rw[List.getElem?_set_ne<|Ne.symm e,q2,(g2 _ q1).2];exact⟨(g2 _ q1).1,rfl⟩
  cases hm:iD fm ((r2 (jJ pcs.length h):Nat):Int)with
  |true=>
   rw[ll,aP];obtain⟨up3,t3,t4⟩:=uk (N:=N) t2 c2 (by omega);refine VT (x:=(up2,fm)) rfl<|VT t3<|Wu h3<|VV ?_
   dsimp only;rw[cR];exact fin up3 fm t4 (λx hx=>⟨hx,rfl⟩) hm (λx hx=>by obtain⟨v,q1,q2⟩:=I.low x hx;exact⟨v,q1,by omega⟩) I.inj
  |false=>
   rw[ln,aQ];obtain⟨up3,t3,t4⟩:=uk (N:=N) t2 c2 (by omega);obtain⟨up4,t5,t6⟩:=uk (N:=N) t4 c2 (by omega);refine VT (x:=(up3,lf fm ((r2 (jJ pcs.length h):Nat):Int) (j:Int))) (by rw[t3,aA])<|VT t5<|Wu h3<|VV ?_
   dsimp only;rw[cR];refine fin up4 _ t6 (λx hx=>?_) (by rw[rk];simp) (λx hx=>?_)<|λx y hx hy e=>?_
   ·have hne:x≠((r2 (jJ pcs.length h):Nat):Int):=λe=>by rw[e,hm]at hx;cases hx
    rw[rk,og,aF hne,hx];exact⟨by simp,rfl⟩
   ·rw[og]
    by_cases e:x=((r2 (jJ pcs.length h):Nat):Int)
    ·rw[aH e];exact⟨j,rfl,by omega⟩
    ·rw[aF e];rw[rk,bS e,Bool.false_or]at hx;obtain⟨v,q1,q2⟩:=I.low x hx;exact⟨v,q1,by omega⟩
   ·rw[og,og]at e;rw[rk]at hx hy
    by_cases ex:x=((r2 (jJ pcs.length h):Nat):Int)
    ·by_cases ey:y=((r2 (jJ pcs.length h):Nat):Int)
     ·rw[ex,ey]
     ·rw[aH ex,aF ey]at e;rw[bS ey,Bool.false_or]at hy;obtain⟨v,q1,q2⟩:=I.low y hy;omega
    ·rw[bS ex,Bool.false_or]at hx
     by_cases ey:y=((r2 (jJ pcs.length h):Nat):Int)
     ·rw[aF ex,aH ey]at e;obtain⟨v,q1,q2⟩:=I.low x hx;omega
     ·rw[aF ex,aF ey]at e;rw[bS ey,Bool.false_or]at hy;exact I.inj x y hx hy e
theorem OI(b:mO a kC eU r gs ofP ofB mq mj){x y:cW}{h h':fN}(hx:r7 a.bQ (cK 0 eU) x=some h)(hy:r7 a.bQ (cK 0 eU) y=some h'):(yy a.bQ (cK 0 eU) r x=yy a.bQ (cK 0 eU) r y)↔r (jJ (cK 0 eU).length h)=r (jJ (cK 0 eU).length h'):=by
 have gp:∀{z:cW}{h:fN},r7 a.bQ (cK 0 eU) z=some h->(live a.bQ (cK 0 eU).length ((cK 0 eU).length+a.bQ.length) r<|cD ((cK 0 eU).length+a.bQ.length) r)[gi a.bQ (cK 0 eU).length ((cK 0 eU).length+a.bQ.length) r<|r<|jJ (cK 0 eU).length h]? =some (r<|jJ (cK 0 eU).length h):=by
  intro z h hz;obtain⟨k,e,g1,g2⟩:=(IL hz).num;have hle:=b.KZ.conn.le;have hrr:=b.KZ.conn.rr;have hd:∀i,i<(cK 0 eU).length+a.bQ.length->r i∈cD ((cK 0 eU).length+a.bQ.length) r:=λi hi=>jC.2 ⟨ov.2 (by grind),by grind⟩;unfold jJ
  cases hB:h.cL with
  |true=>
   grind [cR,JV,Pq]
  |false=>
   have k1:=g2 hB;rw[aF wF,e,cR]
   grind [JV,MR]
 unfold yy
 grind
theorem FR(b:mO a kC eU r gs ofP ofB mq mj)(h1:gE N a=some (some (a.aS,a.dU,a.bQ,a.bX,kC,cK 0 eU,lj a.bQ<|cK 0 eU,gs,ofP,ofB,mq,mj),0)){p q:bZ}{i k:Nat}{x y:cW}(ep:iA a p=(i:Int))(hx:a.bX[i]? =some x)(eq:iA a q=(k:Int))(hy:a.bX[k]? =some y)(hN:nb N):
  ju N a [] p q=some ((yy a.bQ (cK 0 eU) r x).isSome&&decide (yy a.bQ (cK 0 eU) r x=yy a.bQ (cK 0 eU) r y),0):=by
 have hf:=b.Ew.2;have hbl:=b.MV.gb.len;have hlf:=b.xT.Ew;obtain⟨r2,c,up,fm,c1,c2,c3⟩:=IW (N:=N) (r:=r) (mq:=mq) (mj:=mj) (bs:=a.bQ) (pcs:=cK 0 eU) (ls:=a.bX) (by omega) (by omega) (by omega) (by omega) b.KZ.mq b.KZ.mj hN;have hil:=(bN.1 hx).1;have hkl:=(bN.1 hy).1;unfold ju;rw[h1,aA,tG b.xT p hN,tG b.xT q hN];simp only[B6,bne_self_eq_false,aP,aA];have hz:∀(p0:aL (aL aK))(p1:aL aK)(p2:aL cL)(p3:aL cW)(p4:aL (aL aB))(p5:aL aI)(p6:aL (aL Int))(p7:aL bM)(p8 p9 p10:aL Int)(p11:aL fN),mW N p0 p1 p2 p3 p4 p5 p6 p7 p8 p9 p10 p11 []=some 0:=λ_ _ _ _ _ _ _ _ _ _ _ _=>rfl;rw[hz,aA,bne_self_eq_false,aP,ep,eq,bS (show ¬(i:Int)<0 by omega),bS (show ¬(k:Int)<0 by omega),Bool.or_false,aP,c1,aA]
 cases hhx:r7 a.bQ (cK 0 eU) x with
 |none=>
  have e1:yy a.bQ (cK 0 eU) r x=none:=by grind [yy]
  rw[cG<|c3.no i x hil hx hhx,aA,e1];rfl
 |some h=>
  obtain⟨q1,q2⟩:=c3.yes i x h hil hx hhx;obtain⟨v,v1,_⟩:=c3.low _ q1;have e1:(yy a.bQ (cK 0 eU) r x).isSome=true:=by grind [yy]
  rw[cG q2,aA,v1,bU (show(v:Int)>=0 by omega),aQ,aA,e1,Bool.true_and]
  cases hhy:r7 a.bQ (cK 0 eU) y with
  |none=>
   have e2:yy a.bQ (cK 0 eU) r y=none:=by grind [yy]
   rw[cG<|c3.no k y hkl hy hhy,aA,aA,bS (λe=>by grind),show((v:Int)== -1)=false from by rfl]
  |some h'=>
   obtain⟨s1,s2⟩:=c3.yes k y h' hkl hy hhy;obtain⟨w,w1,_⟩:=c3.low _ s1;rw[cG s2,aA,w1,aA];have t1:=(IV (N:=N) hhx (by omega)).2;have t2:=(IV (N:=N) hhy (by omega)).2;have key:((v:Int)=(w:Int))↔yy a.bQ (cK 0 eU) r x=yy a.bQ (cK 0 eU) r y:=by
    rw[OI b hhx hhy,DS.uniq b.KZ.conn c2 t1 t2];constructor
    ·intro e;have:=c3.inj _ _ q1 s1 (by omega);omega
    grind
   grind
end
def yB:iE:=⟨[[⟨0,0,1,1⟩]],[],[],[⟨⟨[97]⟩,⟨[49]⟩,0,⟨0,0⟩⟩]⟩
def Qv:bZ:=⟨⟨[97]⟩,⟨[49]⟩⟩
def uG:aB:=⟨0,1,[0,1]⟩
theorem OJ:su [⟨0,0,1,1⟩] [uG]where
 can:=⟨λb hb=>by
  grind [cH,uG,decide,nX],List.pairwise_singleton _ _⟩
 cover:=λx y=>by
  show o9 (if(0:Int)<=y/\y<1 then [0,1]else []) x=((decide ((0:Int)<=x)&&decide (x<1))&&(decide ((0:Int)<=y)&&decide (y<1))||false)
  by_cases h:(0:Int)<=y/\y<1
  ·rw[aH h,bU h.1,bU h.2];unfold o9;rw[oV,oV,FB]
   by_cases h0:(0:Int)<=x
   ·by_cases h1:(1:Int)<=x
    ·rw[aH h0,aH h1,bS (show ¬x<1 by omega)];simp
    ·rw[aH h0,aF h1,bU h0,bU (show x<1 by omega)];rfl
   ·rw[aF h0,aF (show ¬(1:Int)<=x by omega),bS h0];rfl
  ·rw[aF h];have:(decide ((0:Int)<=y)&&decide (y<1))=false:=by
    rw[Bool.eq_false_iff];intro h';rw[dB,dP,dP]at h';exact h h'
   rw[this,Bool.and_false];rfl
 lim:=λb hb=>by
  have e:b=cH uG:=by simpa using hb
  subst e;exact⟨by decide,by decide,by decide⟩
theorem UR:su [] []:=⟨fE.nil,λ_ _=>rfl,λb hb=>by cases hb⟩
theorem US:kM [⟨0,0,1,1⟩]=0:=sw.2 ⟨by decide,λk a b h1 h2=>(by grind),⟨_,OJ,rfl⟩⟩
theorem UT:kM []=0:=sw.2 ⟨by decide,λk a b h1 h2=>(by simp at h2),⟨_,UR,rfl⟩⟩
theorem Qw:zT yB:=⟨by decide,by decide,by decide,by decide,by decide,by
 intro x hx
 grind [yB,decide]⟩
theorem Qx:kD yB=0:=by
 have e1:yB.aS.findSome? Hj=none:=by
  show [[(⟨0,0,1,1⟩:aK)]].findSome? Hj=none;simp[Hj,US]
 have e2:nJ yB=0:=by decide
 have e3:nK yB=0:=by
  rfl
 grind [A4,yB,kD,decide,MU,kM,Hk,UT]
theorem Tb{kC:aL (aL aB)}{eU:aL (aL<|aL aB)}(D:yw yB.aS yB.bQ yB.aS.length kC eU):kC= [[uG]]/\eU= [[[uG]]]:=by
 obtain⟨s,rfl⟩:=List.length_eq_one_iff.1 D.len;obtain⟨ps,rfl⟩:=List.length_eq_one_iff.1 D.FH;have hd:=D.dr 0 [⟨0,0,1,1⟩] s (by decide) rfl rfl;have hs:s= [uG]:=Hd hd.can OJ.can λx y=>by
  rw[hd.cover,OJ.cover];show(_&& !v9 [] x y)=_;simp[v9]
 subst hs;obtain⟨u,hu⟩:=D.pt 0 [uG] ps (by decide) rfl rfl;have u0:u 0=0:=Nat.le_zero.1<|hu.join.le 0 (by decide)
 have hh:cD (aT [uG]).length u= [0]:=by
  show(List.range 1).filter (λk=>decide<|u k=k)= [0]
  grind
 obtain⟨p,rfl⟩:=List.length_eq_one_iff.1 (show ps.length=1 by rw[hu.len,hh];rfl);have hp:=hu.each 0 0 p (by rw[hh];rfl) rfl;have hc:nI (aT [uG]) (aT [uG]).length u 0= [⟨0,0,1,1⟩]:=by
  show((List.range 1).filter<|λi=>decide<|u i=0).filterMap (λi=>(aT [uG])[i]?)=_;simp[List.range_succ,u0];rfl
 rw[hc]at hp;exact⟨rfl,by rw[hp.unique OJ]⟩
section
variable {N:Nat}
theorem OK(hN:nb N):gW N=some true:=by
 have key:ju N yB [] Qv Qv=some (true,0):=by
  obtain⟨x,hx,hI⟩:=EB (N:=N) Qw hN
  rcases hI with⟨he,_⟩|⟨_,hg,hcl,kC,eU,D,⟨hf,_⟩|⟨hf,r,gs,ofP,ofB,mq,mj,hC,rfl⟩⟩
  ·grind [Qx]
  ·obtain⟨rfl,rfl⟩:=Tb D;exact absurd ⟨by decide,by decide⟩ hf
  ·have b:mO yB kC eU r gs ofP ofB mq mj:=⟨hg,hcl,D,hf,hC⟩;have e:iA yB Qv=((0:Nat):Int):=by
    rfl
   have hl:yB.bX[0]? =some ⟨⟨[97]⟩,⟨[49]⟩,0,⟨0,0⟩⟩:=rfl;rw[FR b hx e hl e hl hN];obtain⟨rfl,rfl⟩:=Tb D;have hh:r7 yB.bQ (cK 0 [[[uG]]]) ⟨⟨[97]⟩,⟨[49]⟩,0,⟨0,0⟩⟩=some ⟨false,0⟩:=by decide
   grind [yy]
 unfold gW;have e:ju N (⟨([([(⟨0,0,1,1⟩:aK)]:aL aK)]:aL (aL aK)),([]:aL aK),([]:aL cL),([(⟨⟨[97]⟩,⟨[49]⟩,0,⟨0,0⟩⟩:cW)]:aL cW)⟩:iE) ([]:aL mn) (⟨⟨[97]⟩,⟨[49]⟩⟩:bZ) (⟨⟨[97]⟩,⟨[49]⟩⟩:bZ)=some (true,0):=key
 grind
end
def Tc(n:Nat)(fl:aL mn)(v:Nat):Prop:=∃x∈fl,x.Open=true/\jJ n x.fN=v
structure VD (bs:aL cL) (n m:Nat) (fl:aL mn):Prop where
 op:∀x∈fl,x.Open=true->Pp bs n m x.fN
 br:∀x∈fl,x.Open=false->∃i k:Nat,x.A=(i:Int)/\x.B=(k:Int)/\i<k/\k<n
structure Hv (t:Nat) (L:Nat->Nat->Prop) (r:Nat->Nat):Prop where
 le:∀i,i<t->r i<=i
 rr:∀i,i<t->r (r i)=r i
 co:∀i j,L i j->r i=r j
 fi:∀S:Nat->Prop,(∀i j,L i j->(S i↔S j))->∀i j,i<t->j<t->r i=r j->S i->S j
theorem Hv.uniq{t:Nat}{L:Nat->Nat->Prop}{r1 r2:Nat->Nat}(h1:Hv t L r1)(h2:Hv t L r2){i j:Nat}(hi:i<t)(hj:j<t):r1 i=r1 j↔r2 i=r2 j:=by
 have key:∀{r1 r2:Nat->Nat},Hv t L r1->Hv t L r2->r1 i=r1 j->r2 i=r2 j:=λ{r1 r2}h1 h2 e=>
  (h1.fi (λx=>r2 i=r2 x) (λa b hab=>by rw[h2.co a b hab]) i j hi hj e) rfl
 grind
noncomputable def zV(bs:aL cL)(pcs:aL aI)(fl:aL mn)(l:cW):aU Nat:=(r7 bs pcs l).bind λh=>if Tc pcs.length fl (jJ pcs.length h)then none else some (jJ pcs.length h)
section
variable {N:Nat}{r:Nat->Nat}{mq:aL Int}{mj:aL fN}
def UU(t:Nat)(L:Nat->Nat->Prop)(op:Nat->Prop)(done:Nat->Nat->Prop)(u:aL Int):Prop:=
 ∃r E,UF t u r/\qF r E/\Bt t r E/\(∀p∈E,L p.1 p.2/\¬op p.1/\¬op p.2)/\∀i j,done i j->¬op i->¬op j->(i,j)∈E
theorem UU.mono{t:Nat}{L:Nat->Nat->Prop}{op:Nat->Prop}{d d':Nat->Nat->Prop}{u:aL Int}(h:UU t L op d u)(hd:∀i j,d' i j->d i j):UU t L op d' u:=by
 obtain⟨r,E,h1,h2,h3,h4,h5⟩:=h;exact⟨r,E,h1,h2,h3,h4,λi j hij=>h5 i j<|hd i j hij⟩
structure OL (bs:aL cL) (pcs:aL aI) (fl:aL mn) (ls:aL cW) (r2:Nat->Nat) (j:Nat) (up:aL Int) (fm:aL (Int×Int)) (out:aL Int):Prop where
 uf:UF (pcs.length+bs.length) up r2
 len:out.length=ls.length
 no:∀i l,i<j->ls[i]? =some l->zV bs pcs fl l=none->out[i]? =some (-1)
 yes:∀i l v,i<j->ls[i]? =some l->zV bs pcs fl l=some v->iD fm ((r2 v:Nat):Int)=true/\out[i]? =some (dE fm ((r2 v:Nat):Int) 0)
 low:∀x,iD fm x=true->∃(v:Nat)(l:cW)(u:Nat),dE fm x 0=((v:Nat):Int)/\v<j/\ls[v]? =some l/\zV bs pcs fl l=some u/\((r2 u:Nat):Int)=x
 inj:∀x y,iD fm x=true->iD fm y=true->dE fm x 0=dE fm y 0->x=y
 le:∀(i v:Nat),out[i]? =some ((v:Nat):Int)->v<=i
end
structure Qy (c:aL Int):Prop where
 neg:∀(i:Nat)(x:Int),c[i]? =some x->x<0->x = -1
 own:∀(i v:Nat),c[i]? =some (v:Int)->c[v]? =some (v:Int)
def Py(c:aL Int)(i k:Nat):Bool:=decide (c.getD i (-1)>=0)&&c.getD i (-1)==c.getD k (-1)
section
variable {r:Nat->Nat}
theorem OL.first{bs:aL cL}{pcs:aL aI}{fl:aL mn}{ls:aL cW}{r2:Nat->Nat}{up:aL Int}{fm:aL (Int×Int)}{c:aL Int}(h:OL bs pcs fl ls r2 ls.length up fm c):Qy c where
 neg:=λi x hx h0=>by
  have hi:=(bN.1 hx).1;rw[h.len]at hi;have hl:ls[i]? =some ls[i]:=aM hi
  cases hn:zV bs pcs fl ls[i]with
  |none=>have:=h.no i _ hi hl hn;rw[hx]at this;injection this
  |some u=>
   obtain⟨q1,q2⟩:=h.yes i _ u hi hl hn;obtain⟨v,_,_,q3,_⟩:=h.low _ q1;rw[hx,q3]at q2;injection q2 with q2;omega
 own:=λi v hx=>by
  have hi:=(bN.1 hx).1;rw[h.len]at hi;have hl:ls[i]? =some ls[i]:=aM hi
  cases hn:zV bs pcs fl ls[i]with
  |none=>have:=h.no i _ hi hl hn;rw[hx]at this;injection this with this;omega
  |some u=>
   obtain⟨q1,q2⟩:=h.yes i _ u hi hl hn;obtain⟨v',l',u',q3,q4,q5,q6,q7⟩:=h.low _ q1;have e:v=v':=by rw[hx,q3]at q2;injection q2 with q2;omega
   subst e;obtain⟨s1,s2⟩:=h.yes v l' u' q4 q5 q6;rw[q7,q3]at s2;exact s2
theorem OL.conn{bs:aL cL}{pcs:aL aI}{fl:aL mn}{ls:aL cW}{r2:Nat->Nat}{up:aL Int}{fm:aL (Int×Int)}{c:aL Int}(h:OL bs pcs fl ls r2 ls.length up fm c){i k:Nat}{x y:cW}(hx:ls[i]? =some x)(hy:ls[k]? =some y):
  Py c i k=true↔∃u v,zV bs pcs fl x=some u/\zV bs pcs fl y=some v/\r2 u=r2 v:=by
 have hi:=(bN.1 hx).1;have hk:=(bN.1 hy).1;unfold Py;rw[dB,dP,beq_iff_eq,List.getD_eq_getElem?_getD,List.getD_eq_getElem?_getD]
 cases hn:zV bs pcs fl x with
 |none=>
  rw[h.no i x hi hx hn,Option.getD_some];simp
 |some u=>
  obtain⟨q1,q2⟩:=h.yes i x u hi hx hn;obtain⟨a,_,_,q3,_⟩:=h.low _ q1;rw[q2,Option.getD_some,q3]
  cases hm:zV bs pcs fl y with
  |none=>
   rw[h.no k y hk hy hm,Option.getD_some];simp
  |some v=>
   obtain⟨s1,s2⟩:=h.yes k y v hk hy hm;obtain⟨b,_,_,s3,_⟩:=h.low _ s1
   grind
end
def IX(a0 a1 b0 b1:Int):Int:=max (max 0<|b0 - a1+1)<|a0 - b1+1
def DX(a b:aK):Int:=max (IX a.X0 a.X1 b.X0 b.X1)<|IX a.Y0 a.Y1 b.Y0 b.Y1
def DY(s:Int)(x:aK)(b:aL aK):Int:=b.foldl (λs y=>if s<0\/DX x y<s then DX x y else s) s
def yC(a b:aL aK):Int:=a.foldl (λs x=>DY s x b)<|-1
theorem Nc{a0 a1 b0 b1:Int}(h0: -1000000<=a0/\a0<=1000000)(h1: -1000000<=a1/\a1<=1000000)(h2: -1000000<=b0/\b0<=1000000)(h3: -1000000<=b1/\b1<=1000000):0<=IX a0 a1 b0 b1/\IX a0 a1 b0 b1<=2000001:=by
 unfold IX;omega
theorem Qz{a b:aK}(ha:dR a=true)(hb:dR b=true):0<=DX a b/\DX a b<=2000001:=by
 obtain⟨a1,a2,a3,a4⟩:=iG ha;obtain⟨b1,b2,b3,b4⟩:=iG hb;have:=Nc a1 a3 b1 b3;have:=Nc a2 a4 b2 b4;unfold DX;omega
theorem J7{x:aK}{s:Int}(hx:dR x=true):∀(b:aL aK),(∀y∈b,dR y=true)->∀{s:Int},-1<=s/\s<=2000001-> -1<=DY s x b/\DY s x b<=2000001
 | [],_,s,h=>h
 |y::b,hb,s,h=>by
  have hf:=Qz hx<|hb y<|List.mem_cons_self ..
  unfold DY;rw[List.foldl_cons];refine J7 (s:=s) hx b (λz hz=>hb z<|mP _ hz) ?_;split <;> omega
theorem OM{a b:aL aK}(ha:∀y∈a,dR y=true)(hb:∀y∈b,dR y=true): -1<=yC a b/\yC a b<=2000001:=by
 have key:∀(a:aL aK),(∀y∈a,dR y=true)->∀{s:Int},-1<=s/\s<=2000001-> -1<=a.foldl (λs x=>DY s x b) s/\a.foldl (λs x=>DY s x b) s<=2000001:=by
  intro a
  induction a with
  |nil=>simp
  |cons x a ih=>
   intro ha s h;rw[List.foldl_cons];exact ih (λz hz=>ha z<|mP _ hz)<|J7 (s:=s) (ha x<|List.mem_cons_self ..) b hb h
 exact key a ha ⟨by omega,by omega⟩
section
variable {N:Nat}
theorem IY{a0 a1 b0 b1:Int}(h0: -1000000<=a0/\a0<=1000000)(h1: -1000000<=a1/\a1<=1000000)(h2: -1000000<=b0/\b0<=1000000)(h3: -1000000<=b1/\b1<=1000000):jG N a0 a1 b0 b1=some (IX a0 a1 b0 b1):=by
 unfold jG IX
 grind [zI,FL]
theorem Nd{a b:aK}(ha:dR a=true)(hb:dR b=true):kV N a b=some (DX a b):=by
 obtain⟨a1,a2,a3,a4⟩:=iG ha;obtain⟨b1,b2,b3,b4⟩:=iG hb;unfold kV DX
 grind [IY,aA,FL]
theorem Nf(a b:aK):∃n,kV N a b=some n:=⟨_,rfl⟩
theorem EE(a b:aK)(n:Int):∃p,rA N a b n=some p:=⟨_,rfl⟩
theorem EF(p q:eR):∃c,rB N p q=some c:=⟨_,rfl⟩
theorem Ng{a b:aL aK}(tK:a.length<=1000000)(hbl:b.length<=1000000)(ha:∀y∈a,dR y=true)(hb:∀y∈b,dR y=true):∃g,ky N a b=some g/\g.gz=yC a b - 1:=by
 have hd:=OM ha hb
 suffices h:Ok (ky N a b) (λg=>g.gz=yC a b - 1)from h
 unfold ky;refine V3 (WK (λk s=>s=(a.take k).foldl (λs x=>DY s x b) (-1)) (by omega) rfl<|λk s hk e=>?_)<|λs e=>?_
 ·have hx:a[k]? =some a[k]:=aM hk;refine Wu hx<|V3 (WK (λj t=>t=DY s a[k] (b.take j)) (by omega) rfl<|λj t hj et=>?_)<|λt et=>VV ?_
  ·have hy:b[j]? =some b[j]:=aM hj;refine Wu hy<|VT (Nd (ha _<|cS hk)<|hb _<|cS hj) ?_
   have e2:DY s a[k] (b.take<|j+1)=if t<0\/DX a[k] b[j]<t then DX a[k] b[j]else t:=by
    grind [DY,eO]
   grind [decide,VV,Bool.or_eq_false_iff,decide_eq_false_iff_not]
  grind [g8,eO]
 rw[g8]at e;have e:s=yC a b:=e;subst e;rw[zI (by omega)];refine V3 (WK (λk(st:u6×Bool)=>st.1.gz=yC a b - 1) (by omega) rfl<|λk st hk I=>?_)<|λst I=>?_
 ·have hx:a[k]? =some a[k]:=aM hk;refine Wu hx<|V3 (WK (λj(st:u6×Bool)=>st.1.gz=yC a b - 1) (by omega) I<|λj st hj I=>?_)<|λst I=>VV I
  have hy:b[j]? =some b[j]:=aM hj;obtain⟨p,hp⟩:=EE (N:=N) a[k] b[j]<|yC a b
  refine Wu hy<|VT hp ?_
  refine V3 (P:=λ_=>True) ?_<|λc _=>?_
  ·refine VT (Nd (ha _<|cS hk)<|hb _<|cS hj) ?_
   cases(DX a[k] b[j]==yC a b)with
   |false=>exact VV trivial
   |true=>
    rw[aQ]
    cases st.2 with
    |false=>exact VV trivial
    |true=>
     obtain⟨c,hc⟩:=EF (N:=N) p st.1.cQ
     grind [VT,VV]
  grind [V3,yC,VV]
 refine V3 (WK (λk(st:u6×Bool)=>st.1.gz=yC a b - 1) (by omega) I<|λk st' hk I=>?_)<|λst I=>VV I
 have hx:b[k]? =some b[k]:=aM hk;obtain⟨p,hp⟩:=EE (N:=N) b[k] (⟨st.1.cQ.X,st.1.cQ.Y,wrap .i64<|st.1.cQ.X+1,wrap .i64<|st.1.cQ.Y+1⟩:aK)<|yC a b
 obtain⟨f,hf⟩:=Nf (N:=N) b[k] (⟨st.1.cQ.X,st.1.cQ.Y,wrap .i64<|st.1.cQ.X+1,wrap .i64<|st.1.cQ.Y+1⟩:aK);refine Wu hx<|VT hp ?_
 refine V3 (P:=λ_=>True) ?_<|λc _=>?_
 ·refine VT hf ?_
  cases(f==yC a b)with
  |false=>exact VV trivial
  |true=>
   rw[aQ]
   cases st'.2 with
   |false=>exact VV trivial
   |true=>
    obtain⟨c,hc⟩:=EF (N:=N) p st'.1.To
    grind [VT,VV]
 grind [V3,yC,VV]
end
def lJ(pcs:aL aI)(ofP:aL Int)(near:Int)(i k:Nat):Bool:=(pcs[i]?).elim false λp=>(pcs[k]?).elim false λq=>decide (i<k)&&(q.dI==p.dI&&(decide (ofP[i]? ≠ofP[k]?)&&decide (yC p.iU q.iU - 1<near)))
theorem Nh:∀(eU:aL (aL<|aL aB))(k:Nat),(cK k eU).Pairwise (λp q=>p.dI<=q.dI)/\∀p∈cK k eU,((k:Nat):Int)<=p.dI
 | [],k=>⟨mb,λp h=>by cases h⟩
 |ps::r,k=>by
  obtain⟨h1,h2⟩:=Nh r<|k+1
  unfold cK;refine⟨eH.2 ⟨?_,h1,λp hp q hq=>?_⟩,λp hp=>?_⟩
  ·rw[List.pairwise_map];exact List.Pairwise.imp (λ_=>Int.le_refl _)<|List.pairwise_of_forall (R:=λ_ _=>True)<|λ_ _=>trivial
  ·obtain⟨p',_,rfl⟩:=cX.1 hp;have:=h2 q hq;show((k:Nat):Int)<=q.dI;omega
  ·rcases dJ.1 hp with hp|hp
   ·obtain⟨p',_,rfl⟩:=cX.1 hp;exact Int.le_refl _
   ·have:=h2 p hp;omega
section
variable {N:Nat}{a:iE}{kC:aL (aL aB)}{eU:aL (aL (aL aB))}{r:Nat->Nat}{gs:aL bM}{ofP ofB mq:aL Int}{mj:aL fN}
theorem FT(b:mO a kC eU r gs ofP ofB mq mj){k:Nat}(hk:k<ofP.length):∃g:Nat,ofP[k]? =some (g:Int)/\g<gs.length:=by
 have hl:=b.KZ.of.lp;obtain⟨g,h1,h2,_⟩:=Ta b.KZ (k:=k) (by omega)
 grind
end
def i6(t u:Test):Int:=if fL t.A u.A≠0 then fL t.A u.A else fL t.B u.B
def yD(a:iE)(l:aL Test)(k:Nat):aU Int:=(l[k]?).bind λt=>
 if iA a t.A<0\/iA a t.B<0 then some 9 else if fL t.B t.A<=0 then some 8 else if 0<k/\((l[k - 1]?).elim false λu=>decide<|i6 t u<=0)=true then some 8 else none
def ra(a:iE)(l:aL Test):Int:=if 2000<l.length then 2 else(l8 l.length<|yD a l).getD 0
structure EG (a:iE) (t:Test):Prop where
 la:0<=iA a t.A
 lb:0<=iA a t.B
 lt:tL t.A t.B
theorem Ni{a:iE}{p:bZ}(h:0<=iA a p):∃(k:Nat)(x:cW),iA a p=(k:Int)/\a.bX[k]? =some x/\lI x=p/\k<a.bX.length:=by
 grind [Hu,bN]
section
variable {N:Nat}
theorem QA(u v:Int):ry N [u,v]=some (if u≠0 then u else v):=by
 unfold ry
 rw[zj (l:=[u,v]) (λx=>if x≠0 then some x else none) (by simp) (λk x hx=>by
  rw[cG hx,aA]
  by_cases h:x=0
  ·subst h;rfl
  ·rw[show(x != 0)=true by simpa using h,aQ,aH h];rfl),aA]
 grind [Ft,Fo.cs]
theorem qG(t u:Test):dC N t u=some (i6 t u):=by
 simp[dC,i6,lR,aA,QA]
end
section
variable {N:Nat}{a:iE}{kC:aL (aL aB)}{eU:aL (aL (aL aB))}{r:Nat->Nat}{gs:aL bM}{ofP ofB mq:aL Int}{mj:aL fN}
theorem ON(b:mO a kC eU r gs ofP ofB mq mj)(h1:gE N a=some (some (a.aS,a.dU,a.bQ,a.bX,kC,cK 0 eU,lj a.bQ<|cK 0 eU,gs,ofP,ofB,mq,mj),0)){l:aL Test}(hl:l.length<=1048576)(hN:nb N):
  (ra a l≠0/\nU N a l=some (none,ra a l))\/(ra a l=0/\nU N a l=some (some (a.aS,a.dU,a.bQ,a.bX,kC,cK 0 eU,lj a.bQ<|cK 0 eU,gs,ofP,ofB,mq,mj),0)):=by
 unfold nU;rw[h1,aA];simp only[B6,bne_self_eq_false,aP]
 by_cases h2:2000<l.length
 ·grind [ra,bU,decide]
 rw[bS (show ¬(l.length:Int)>2000 by omega),aP]
 rw[lN (λk=>(yD a l k).map (λc=>(none,c))) (by omega) (λk hk _=>by
  have hx:l[k]? =some l[k]:=aM hk;have e1:((eP N a l[k].A).bind λx149=>bif x149<0 then some true else((eP N a l[k].B).bind λx153=>some<|decide<|x153<0))=some (decide (iA a l[k].A<0)||decide (iA a l[k].B<0)):=by
   rw[tG b.xT _ hN,tG b.xT _ hN,aA,aA]
   grind
  have e2:(bif decide ((k:Int)>0)then((idx l<|wrap .i64<|(k:Int) - 1).bind λx208=>(dC N l[k] x208).bind λx211=>some<|decide<|x211<=0)else some false)=some (decide<|0<k/\((l[k - 1]?).elim false λu=>decide<|i6 l[k] u<=0)=true):=by
   by_cases h0:0<k
   ·grind [aM,bU,lZ,cG,aA,qG]
   grind
  rw[cG hx,aA,e1,aA];unfold yD;rw[hx,Option.bind_some]
  by_cases hA:iA a l[k].A<0\/iA a l[k].B<0
  ·rw[aH hA,show(decide (iA a l[k].A<0)||decide (iA a l[k].B<0))=true by grind];rfl
  rw[aF hA,show(decide (iA a l[k].A<0)||decide (iA a l[k].B<0))=false by grind,aP,lR,aA]
  by_cases hB:fL l[k].B l[k].A<=0
  ·rw[aH hB,bU hB];rfl
  rw[aF hB,bS hB,aP,e2,aA]
  by_cases hC:0<k/\((l[k - 1]?).elim false λu=>decide<|i6 l[k] u<=0)=true
  ·rw[aH hC,bU hC];rfl
  ·rw[aF hC,bS hC];rfl),aA,<-GX]
 have hz:ra a l=(l8 l.length<|yD a l).getD 0:=by grind [ra]
 cases hf:l8 l.length (yD a l)with
 |none=>
  rw[hf]at hz;exact .inr ⟨hz,rfl⟩
 |some e=>
  rw[hf]at hz;have hz:ra a l=e:=hz;refine .inl ⟨?_,by rw[hz];rfl⟩
  grind [kj,yD,aM]
end
section
variable {N:Nat}{a:iE}{kC:aL (aL aB)}{eU:aL (aL (aL aB))}{r:Nat->Nat}{gs:aL bM}{ofP ofB mq:aL Int}{mj:aL fN}
theorem DZ{l:aL Test}{o:aU (aL (aL aK)×aL aK×aL cL×aL cW×aL (aL aB)×aL aI×aL (aL Int)×aL bM×aL Int×aL Int×aL Int×aL fN)}{e:Int}(h:nU N a l=some (o,e)):jM N a l=some e:=by
 unfold jM;rw[h,aA]
 cases o <;> rfl
end
section
variable (T:Nat->Nat->Bool)(n:Nat)
def wx(i k:Nat)(K:aL Nat):Nat:=(List.range k).countP (T i)+K.countP (T i)
def OO(K:aL Nat)(k:Nat):Bool:=(List.range n).any<|λi=>T i k&&decide (wx T i (k+1) K=1)
variable {T n}
theorem yE(i k:Nat)(K:aL Nat):wx T i (k+1) K=wx T i k K+if T i k=true then 1 else 0:=by
 grind [wx,List.range_succ,List.countP_singleton]
theorem yF(i k:Nat)(K:aL Nat):wx T i k (k::K)=wx T i (k+1) K:=by
 grind [yE,wx]
structure Nj (T:Nat->Nat->Bool) (n m k:Nat) (K:aL Nat):Prop where
 up:K.Pairwise (· < ·)
 lo:∀j∈K,k<=j/\j<m
 all:∀i,i<n->(∃j,j<m/\T i j=true)->0<wx T i k K
 own:∀j∈K,∃i,i<n/\T i j=true/\wx T i k K=1
theorem Nj.step{m k:Nat}{K:aL Nat}(h:Nj T n m (k+1) K)(hk:k<m):Nj T n m k (if OO T n K k=true then k::K else K):=by
 by_cases hn:OO T n K k=true
 ·rw[aH hn];refine⟨jD.2 ⟨λj hj=>by have:=h.lo j hj;omega,h.up⟩,λj hj=>?_,λi hi hj=>?_,λj hj=>?_⟩
  ·rcases eV.1 hj with rfl|hj
   ·omega
   ·have:=h.lo j hj;omega
  ·rw[yF];exact h.all i hi hj
  ·rcases eV.1 hj with rfl|hj
   ·grind [OO,lq,yF]
   ·obtain⟨i,h1,h2,h3⟩:=h.own j hj
    grind [yF]
 ·rw[aF hn];have hno:∀i,i<n->T i k=true->wx T i (k+1) K≠1:=λi hi ht e=>hn<|lq.2 ⟨i,ov.2 hi,by grind⟩
  refine⟨h.up,λj hj=>by have:=h.lo j hj;omega,λi hi hj=>?_,λj hj=>?_⟩
  ·have h1:=h.all i hi hj
   grind [yE]
  ·obtain⟨i,h1,h2,h3⟩:=h.own j hj
   grind [yE,List.countP_pos_iff,wx,List.range]
end
theorem tH{α:Type}{R:α->α->Prop}(tr:∀x y z,R x y->R y z->R x z):∀{l:aL α},(∀(k:Nat)x y,l[k]? =some x->l[k+1]? =some y->R x y)->l.Pairwise R
 | [],_=>mb
 | [x],_=>List.pairwise_singleton R x
 |x::y::l,h=>by
  have ih:=tH tr (l:=y::l)<|λk u v hu hv=>h (k+1) u v hu hv
  have h0:=h 0 x y rfl rfl;refine jD.2 ⟨λz hz=>?_,ih⟩
  rcases eV.1 hz with rfl|hz
  ·exact h0
  ·exact tr x y z h0<|(jD.1 ih).1 z hz
def va(u t:Test):Prop:=tL u.A t.A\/(u.A=t.A/\tL u.B t.B)
theorem Hx{t u:Test}:0<i6 t u↔va u t:=by
 unfold i6 va
 by_cases h:fL t.A u.A=0
 ·have e:=iz.1 h;rw[aF (by simpa using h),pI];constructor
  ·exact λh=> .inr ⟨e.symm,h⟩
  ·rintro(h1|⟨_,h1⟩)
   ·rw[e]at h1;exact absurd h1<|tL.irrefl _
   ·exact h1
 ·rw[aH h,pI];constructor
  ·exact .inl
  ·rintro(h1|⟨e,_⟩)
   ·exact h1
   ·exact absurd (iz.2 e.symm) h
theorem va.trans{s t u:Test}(h1:va s t)(h2:va t u):va s u:=by
 rcases h1 with h1|⟨e1,h1⟩
 ·rcases h2 with h2|⟨e2,_⟩
  ·exact .inl<|h1.trans h2
  ·exact .inl<|e2▸h1
 ·rcases h2 with h2|⟨e2,h2⟩
  ·exact .inl<|e1▸h2
  ·exact .inr ⟨e1.trans e2,h1.trans h2⟩
theorem IZ{a:iE}{l:aL Test}(hl:l.length<=2000)(h1:∀t∈l,EG a t)(h2:l.Pairwise va):ra a l=0:=by
 unfold ra
 rw[aF (by omega),ki.2 (λk hk=>by
  have hx:l[k]? =some l[k]:=aM hk;obtain⟨q1,q2,q3⟩:=h1 _<|cS hk
  unfold yD;rw[hx,Option.bind_some,aF (by omega),aF (by have:=pI.2 q3;omega),aF];rintro⟨h0,h⟩;have hp:k - 1<l.length:=by omega
  rw[aM hp,Option.elim_some,dP]at h;have:=Hx.2<|iS.1 h2 (k - 1) k hp hk (by omega)
  omega)]
 rfl
section
variable {N:Nat}
theorem xW{l:aL Test}{x:Test}(hl:l.length<=1048576):gX N l x=some (decide<|x∈l):=by
 have e:gX N l x=Ak l x:=rfl;rw[e,Fw (by omega)]
end
def OP(t:Nat)(u:aL Int)(r:Nat->Nat):Prop:=u=(List.range t).map (λi=>((r i:Nat):Int))
theorem OP.len{t:Nat}{u:aL Int}{r:Nat->Nat}(h:OP t u r):u.length=t:=by rw[h];simp
theorem OP.at{t:Nat}{u:aL Int}{r:Nat->Nat}(h:OP t u r){i:Nat}(hi:i<t):u[i]? =some ((r i:Nat):Int):=by rw[h,kl,List.getElem?_range hi];rfl
structure Hy (t:Nat) (L:Nat->Nat->Prop) (r:Nat->Nat):Prop where
 co:∀i j,L i j->r i=r j
 fi:∀S:Nat->Prop,(∀i j,L i j->(S i↔S j))->∀i j,i<t->j<t->r i=r j->S i->S j
theorem Hy.uniq{t:Nat}{L:Nat->Nat->Prop}{r1 r2:Nat->Nat}(h1:Hy t L r1)(h2:Hy t L r2){i j:Nat}(hi:i<t)(hj:j<t):r1 i=r1 j↔r2 i=r2 j:=by
 have key:∀{r1 r2:Nat->Nat},Hy t L r1->Hy t L r2->r1 i=r1 j->r2 i=r2 j:=λ{r1 r2}h1 h2 e=>
  (h1.fi (λx=>r2 i=r2 x) (λa b hab=>by rw[h2.co a b hab]) i j hi hj e) rfl
 exact⟨key h1 h2,key h2 h1⟩
def yG(x y:Int×Nat×Nat):Prop:=x.1<y.1\/x.1=y.1/\(x.2.1<y.2.1\/x.2.1=y.2.1/\x.2.2<y.2.2)
theorem yG.trans{x y z:Int×Nat×Nat}(h1:yG x y)(h2:yG y z):yG x z:=by unfold yG at *;omega
theorem yG.asymm{x y:Int×Nat×Nat}(h1:yG x y)(h2:yG y x):False:=by unfold yG at *;omega
theorem yG.total{x y:Int×Nat×Nat}(h:x≠y):yG x y\/yG y x:=by
 obtain⟨a,b,c⟩:=x;obtain⟨a',b',c'⟩:=y;have:¬(a=a'/\b=b'/\c=c'):=λ⟨h1,h2,h3⟩=>h (by rw[h1,h2,h3]);unfold yG;dsimp only;omega
theorem QB{l m:aL (Int×Nat×Nat)}(hl:l.Pairwise yG)(hm:m.Pairwise yG)(hp:l.Perm m):l=m:=
 List.Perm.eq_of_pairwise (le:=yG) (λa b _ _ h h'=>(yG.asymm h h').elim) hl hm hp
def sD(d:Nat->Nat->Int)(i n:Nat):aL (Int×Nat×Nat):=((List.range n).filter<|λk=>decide<|i<k).map λk=>(d i k,i,k)
def wy(d:Nat->Nat->Int)(m n:Nat):aL (Int×Nat×Nat):=(List.range m).flatMap λi=>sD d i n
theorem AL(d:Nat->Nat->Int)(m n:Nat):wy d (m+1) n=wy d m n++sD d m n:=by
 unfold wy;rw[List.range_succ,List.flatMap_append];simp
theorem De(d:Nat->Nat->Int)(i n:Nat):sD d i (n+1)=sD d i n++if i<n then [(d i n,i,n)]else []:=by
 unfold sD;rw[List.range_succ,List.filter_append,gC]
 by_cases h:i<n
 ·simp[h]
 ·simp[h]
theorem La(d:Nat->Nat->Int)(i n:Nat)(h:n<=i+1):sD d i n= []:=by
 unfold sD;rw[List.map_eq_nil_iff,List.filter_eq_nil_iff];intro k hk;have:=ov.1 hk;simp only[dP];omega
theorem EH(d:Nat->Nat->Int)(i n:Nat):(sD d i n).length<=n:=by
 unfold sD;rw[iM];exact mc (me _ _) (by simp)
theorem zW(d:Nat->Nat->Int)(n:Nat):∀m,(wy d m n).length<=m*n
 | 0=>by simp[wy]
 |m+1=>by
  rw[AL,bO,Nat.succ_mul];have:=zW d n m;have:=EH d m n;omega
theorem AM{d:Nat->Nat->Int}{i n:Nat}{e:Int×Nat×Nat}:e∈sD d i n↔e.2.1=i/\i<e.2.2/\e.2.2<n/\e.1=d i e.2.2:=by
 unfold sD;simp only[cX,jC,ov,dP];constructor
 ·rintro⟨k,⟨h1,h2⟩,rfl⟩;exact⟨rfl,h2,h1,rfl⟩
 ·rintro⟨h1,h2,h3,h4⟩;exact⟨e.2.2,⟨h3,h2⟩,by obtain⟨a,b,c⟩:=e;simp only at h1 h4;rw[h4,h1]⟩
theorem Df{d:Nat->Nat->Int}{m n:Nat}{e:Int×Nat×Nat}:e∈wy d m n↔e.2.1<m/\e.2.1<e.2.2/\e.2.2<n/\e.1=d e.2.1 e.2.2:=by
 unfold wy;simp only[List.mem_flatMap,ov,AM];constructor
 ·rintro⟨i,h1,rfl,h2⟩;exact⟨h1,h2⟩
 ·rintro⟨h1,h2⟩;exact⟨e.2.1,h1,rfl,h2⟩
def OQ(x y:Int×Nat×Nat):Prop:=x.2.1<y.2.1\/x.2.1=y.2.1/\x.2.2<y.2.2
theorem Hz(d:Nat->Nat->Int)(i:Nat):∀n,(sD d i n).Pairwise OQ
 | 0=>by simp[sD]
 |n+1=>by
  rw[De,eH];refine⟨Hz d i n,by split <;> simp,λx hx y hy=>?_⟩;obtain⟨h1,h2,h3,_⟩:=AM.1 hx;split at hy
  ·rw[pJ]at hy;subst hy;exact .inr ⟨h1,h3⟩
  ·simp at hy
theorem J8(d:Nat->Nat->Int)(n:Nat):∀m,(wy d m n).Pairwise OQ
 | 0=>by simp[wy]
 |m+1=>by
  rw[AL,eH];refine⟨J8 d n m,Hz d m n,λx hx y hy=>?_⟩;have h1:=(Df.1 hx).1;have h2:=(AM.1 hy).1;exact .inl (by omega)
theorem OQ.ne{x y:Int×Nat×Nat}(h:OQ x y):x≠y:=λe=>by subst e;unfold OQ at h;omega
noncomputable def OR(l:aL (Int×Nat×Nat)):aL (Int×Nat×Nat):=l.mergeSort<|λa b=>decide<|¬yG b a
theorem tI(l:aL (Int×Nat×Nat)):(OR l).Perm l:=List.mergeSort_perm _ _
theorem QC{l:aL (Int×Nat×Nat)}(h:l.Nodup):(OR l).Pairwise yG:=by
 have h1:=List.pairwise_mergeSort (le:=λa b:Int×Nat×Nat=>decide (¬yG b a)) (λa b c h1 h2=>by
  simp only[dP]at h1 h2 ⊢;intro h3
  by_cases e:a=b
  ·subst e;exact h2 h3
  ·rcases yG.total e with h|h
   ·exact h2<|h3.trans h
   ·exact h1 h) (λa b=>by
  by_cases e:yG b a
  ·have:¬yG a b:=λh=>yG.asymm e h;simp[this]
  ·simp[e]) l
 have h2:(OR l).Nodup:=(tI l).symm.nodup h;have h3:(OR l).Pairwise λa b=>¬yG b a:=h1.imp λh=>by simpa using h
 exact(h3.and h2).imp λ⟨u,v⟩=>by
  rcases yG.total v with h|h
  ·exact h
  ·exact absurd h u
theorem QD{l m:aL (Int×Nat×Nat)}(h:l.Nodup)(hp:m.Perm l)(hm:m.Pairwise yG):m=OR l:=QB hm (QC h)<|hp.trans (tI l).symm
def xF:(Nat->Nat)->aL (Int×Nat×Nat)->aL (Nat×Nat)
 |_,[]=>[]
 |r,e::l=>if r e.2.1=r e.2.2 then xF r l else(e.2.1,e.2.2)::xF (m9 r (r e.2.1) (r e.2.2)) l
theorem Dg:∀(l:aL (Int×Nat×Nat))(r:Nat->Nat)(p:Nat×Nat),p∈xF r l->∃e∈l,p=(e.2.1,e.2.2)
 | [],_,_,h=>by simp[xF]at h
 |e::l,r,p,h=>by
  unfold xF at h;split at h
  ·obtain⟨e',h1,h2⟩:=Dg l r p h;exact⟨e',by simp[h1],h2⟩
  ·rcases eV.1 h with rfl|h
   ·exact⟨e,by simp,rfl⟩
   ·obtain⟨e',h1,h2⟩:=Dg l _ p h;exact⟨e',by simp[h1],h2⟩
theorem Dh:∀(l:aL (Int×Nat×Nat))(r:Nat->Nat),(xF r l).length<=l.length
 | [],_=>by simp[xF]
 |e::l,r=>by
  unfold xF;split
  ·exact mc (Dh l r) (by simp)
  ·simp only[fQ];have:=Dh l<|m9 r (r e.2.1)<|r e.2.2
   omega
def Di(n:Nat)(part:aL Int)(r:Nat->Nat):Prop:=part.length=n/\∀i j x y,i<n->j<n->part[i]? =some x->part[j]? =some y->(x=y↔r i=r j)
theorem Lb{n:Nat}{r:Nat->Nat}(hrr:∀i,i<n->r (r i)=r i){a b:Nat}(i j:Nat):(m9 r (r a) (r b) i=m9 r (r a) (r b) j)↔(r i=r j\/(r i=r a\/r i=r b)/\(r j=r a\/r j=r b)):=by
 unfold m9;have hm:max (r a) (r b)=r a/\min (r a) (r b)=r b\/max (r a) (r b)=r b/\min (r a) (r b)=r a:=by omega
 rcases hm with⟨h1,h2⟩|⟨h1,h2⟩ <;> rw[h1,h2] <;> split <;> split <;> omega
theorem Di.join{n:Nat}{part part':aL Int}{r:Nat->Nat}(h:Di n part r)(hrr:∀i,i<n->r (r i)=r i){a b:Nat}{p q:Int}(ha:a<n)(hb:b<n)(hp:part[a]? =some p)(hq:part[b]? =some q)
  (hl:part'.length=n) (h':∀k x,k<n->part[k]? =some x->part'[k]? =some (if x=q then p else x)):Di n part' (m9 r (r a)<|r b):=by
 refine⟨hl,λi j x y hi hj hx hy=>?_⟩;rw[Lb hrr];have hi':part[i]? =some (part[i]'(by rw[h.1];exact hi)):=aM _;have hj':part[j]? =some (part[j]'(by rw[h.1];exact hj)):=aM _;have e1:=h' i _ hi hi';have e2:=h' j _ hj hj';rw[e1]at hx;rw[e2]at hy;injection hx with hx;injection hy with hy
 have c1:=h.2 i j _ _ hi hj hi' hj';have c2:=h.2 i a _ _ hi ha hi' hp;have c3:=h.2 i b _ _ hi hb hi' hq;have c4:=h.2 j a _ _ hj ha hj' hp;have c5:=h.2 j b _ _ hj hb hj' hq;rw[<-hx,<-hy,<-c1,<-c2,<-c3,<-c4,<-c5];split <;> split <;> omega
theorem Di.init(n:Nat)(part:aL Int)(hl:part.length=n)(h:∀i,i<n->part[i]? =some ((i:Nat):Int)):Di n part (λi=>i):=
 ⟨hl,λi j x y hi hj hx hy=>by rw[h i hi]at hx;rw[h j hj]at hy;injection hx with hx;injection hy with hy;dsimp only;omega⟩
def Td(s:aL Bool):cN:=⟨s.map (λb=>bif b then 121 else 110)⟩
structure VE (M:aL (cN×Int)) (G:aL (aL Bool×aL mn)):Prop where
 has:∀s,iD M (Td s)=(G.findIdx?<|λg=>decide<|g.1=s).isSome
 get:∀s i,G.findIdx? (λg=>decide<|g.1=s)=some i->dE M (Td s) 0=((i:Nat):Int)
def OS(p:eR):Prop:=(-1000000<=p.X/\p.X<=1000000)/\(-1000000<=p.Y/\p.Y<=1000000)
def UW(g:eR×eR):Prop:=OS g.1/\OS g.2
def UX:eR:=⟨0,0⟩
theorem UY:UW (UX,UX):=⟨⟨⟨by decide,by decide⟩,⟨by decide,by decide⟩⟩,⟨⟨by decide,by decide⟩,⟨by decide,by decide⟩⟩⟩
def OT(a:iE)(p:bZ):eR:=(a.bX[(iA a p).toNat]?).elim UX cW.At
def QE(x y:Int):Int:=max (x - y)<|y - x
theorem Nk{x y:Int}(h1: -1000000<=x/\x<=1000000)(h2: -1000000<=y/\y<=1000000):0<=QE x y/\QE x y<=2000000:=by unfold QE;omega
structure PA (a:iE):Prop where
 Ew:a.bX.length<=1000
 VF:∀x∈a.bX,OS x.At
theorem Nl{a:iE}(h:PA a)(p:bZ):OS (OT a p):=by
 unfold OT
 cases hx:a.bX[(iA a p).toNat]? with
 |none=>exact UY.1
 |some x=>exact h.VF x (gA hx)
theorem QF{a:iE}{p:bZ}{k:Nat}{x:cW}(e:iA a p=(k:Int))(hx:a.bX[k]? =some x):OT a p=x.At:=by unfold OT;rw[e,cR,hx];rfl
theorem Nm{a:iE}(h:m7 a):PA a:=⟨h.Ew,λx hx=>by
 have:=(h.each x hx).at_;unfold wh uF jk at this;simp only[dB,dP]at this
 exact⟨⟨by omega,by omega⟩,⟨by omega,by omega⟩⟩⟩
section
variable {N:Nat}
theorem wz{x y:Int}(h1: -1000000<=x/\x<=1000000)(h2: -1000000<=y/\y<=1000000):lh N x y=some (QE x y):=by
 unfold lh QE;rw[zI (n:=x - y) (by omega),zI (n:=y - x) (by omega),FL]
end
end Go.Gk
namespace Go.Gk
open Go IntKind
section
variable {N:Nat}
def yH(l:aL dG)(k:Nat):aU Int:=
 match l[k]? with
 |none=>none
 |some p=>if isWord p.Name=false then some 5 else if(decide (p.Kind<1)||decide (p.Kind>7))=true then some 4 else if(decide (p.bM<0)||decide (p.bM>200))=true then some 1 else if mH dG.Name l k=true then some 8 else none
def FU(p q:dG):Bool:=decide (p.bM>0)&&(q.bM==p.bM)&&(q.Kind != p.Kind)
def I0(l:aL dG)(k:Nat):aU Int:=
 match l[k]? with
 |none=>none
 |some p=>if(l.take k).any (FU p)=true then some 12 else none
def m8(l:aL dG):Int:=if l.length=0 then 9 else if 200<l.length then 2 else((l8 l.length<|yH l).or<|l8 l.length<|I0 l).getD 0
def w7(t:aL aY)(k:Nat):aU Int:=
 match t[k]? with
 |none=>none
 |some x=>if isWord x.Name=false then some 5 else if m8 x.aZ≠0 then some (m8 x.aZ)else if mH aY.Name t k=true then some 8 else none
def checkTypes(t:aL aY):Int:=if 200<t.length then 2 else(l8 t.length<|w7 t).getD 0
theorem J9{R β:Type}(o:aU R)(f:Unit->aU β)(g:R->aU β):(Ft o ()).cs f g=o.elim (f ()) g:=by cases o <;> rfl
theorem Dj(o:aU Int):(Ft o ()).cs (λ_=>some (0:Int)) (λr=>some r)=some (o.getD 0):=by cases o <;> rfl
theorem getD_or(a b:aU Int):(a.elim (some<|b.getD 0) λr=>some r)=some ((a.or b).getD 0):=by cases a <;> rfl
theorem wA{l:aL dG}(h:bk l<=1048576):kn N l=some (m8 l):=by
 have hlen:=pC l;unfold kn m8
 by_cases h0:l.length=0
 ·rw[aH h0,h0];rfl
 ·have e0:((l.length:Int)==0)=false:=by rw[beq_eq_false_iff_ne];omega
  rw[aF h0,e0,aP]
  by_cases h1:200<l.length
  ·rw[aH h1,bU (by omega),aQ]
  ·rw[aF h1,bS (by omega),aP]
   rw[lN (yH l) (by omega) (λk hk _=>by
    have hx:l[k]? =some l[k]:=aM hk;have hb:=Mu hx;rw[Cv,Cs]at hb;rw[cG hx,aA,mi (by omega),aA,Fy dG.Name hx (by omega)];unfold yH;rw[hx];dsimp only
    cases isWord l[k].Name
    ·rfl
    ·cases decide (l[k].Kind<1)||decide (l[k].Kind>7)
     ·cases decide (l[k].bM<0)||decide (l[k].bM>200)
      ·cases mH dG.Name l k <;> rfl
      ·rfl
     ·rfl),aA]
   rw[J9]
   rw[lN (I0 l) (by omega) (λk hk _=>by
    have hx:l[k]? =some l[k]:=aM hk;rw[cG hx,aA,rI l k (by omega),aA]
    have e:=mY (l:=l.take k) (φ:=λy0=>gh N y0 l[k]) (FU l[k]) (by rw[dD];omega) (λq _=>by
     unfold gh FU
     cases decide (l[k].bM>0)
     ·rfl
     ·cases q.bM==l[k].bM <;> rfl)
    have e2:g9 N (l.take k) (λy0=>gh N y0 l[k])=nB (l.take k) (λy0=>gh N y0 l[k]):=rfl;rw[e2,e,aA];unfold I0;rw[hx];dsimp only
    cases(l.take k).any (FU l[k]) <;> rfl),aA,Dj]
   exact getD_or _ _
theorem uX{t:aL aY}(h:bk t<=1048576):jR N t=some (checkTypes t):=by
 have hlen:=pC t;unfold jR checkTypes
 by_cases h1:200<t.length
 ·rw[aH h1,bU (by omega),aQ]
 ·rw[aF h1,bS (by omega),aP]
  rw[lN (w7 t) (by omega) (λk hk _=>by
   have hx:t[k]? =some t[k]:=aM hk;have hb:=Mu hx;rw[vC]at hb;have hb2:=Cs t[k].Name;rw[cG hx,aA,mi (by omega),aA,wA (by omega),aA,Fy aY.Name hx (by omega)];unfold w7;rw[hx];dsimp only
   cases isWord t[k].Name
   ·rfl
   ·by_cases hc:m8 t[k].aZ=0
    ·rw[hc];cases mH aY.Name t k <;> rfl
    ·have:(m8 t[k].aZ != 0)=true:=by rw[bne_iff_ne];exact hc
     rw[this];simp[hc,DE]),aA,Dj]
structure FV (t:aL aY):Prop where
 sorted:mG aY.Name t
 pins:∀x∈t,mG dG.Name x.aZ
theorem w8{e:Nat->aU Int}{m:Nat}(hz:∀k r,e k=some r->r≠0)(h:(l8 m e).getD 0=0):∀k,k<m->e k=none:=by
 cases hx:l8 m e with
 |none=>exact ki.1 hx
 |some r=>
  obtain⟨k,_,hk,_⟩:=kj.1 hx;rw[hx]at h;exact absurd h<|hz k r hk
theorem Lc{l:aL dG}{k:Nat}{r:Int}(h:yH l k=some r):r≠0:=by
 unfold yH at h
 repeat' split at h
 all_goals first|(injection h with h;omega)|cases h
theorem FW{l:aL dG}(h:m8 l=0):mG dG.Name l:=by
 unfold m8 at h;split at h
 ·cases h
 split at h
 ·cases h
 refine pQ λk hk=>?_
 cases hx:l8 l.length (yH l)with
 |some r=>
  obtain⟨j,_,hj,_⟩:=kj.1 hx;rw[hx]at h;exact absurd h<|Lc hj
 |none=>
  have:=ki.1 hx k hk;unfold yH at this;rw[aM hk]at this;dsimp only at this
  repeat' split at this
  all_goals first|(simp at this;done)|simp_all
theorem xX{t:aL aY}(h:checkTypes t=0):FV t:=by
 unfold checkTypes at h;split at h
 ·cases h
 have hz:∀k r,w7 t k=some r->r≠0:=by
  intro k r hk;unfold w7 at hk
  repeat' split at hk
  all_goals first|(injection hk with hk;subst hk;first|assumption|omega)|cases hk
 have hn:=w8 hz h;have key:∀k(hk:k<t.length),m8 t[k].aZ=0/\mH aY.Name t k=false:=by
  intro k hk;have:=hn k hk;unfold w7 at this;rw[aM hk]at this;dsimp only at this
  repeat' split at this
  all_goals first|(simp at this;done)|simp_all
 refine⟨pQ λk hk=>(key k hk).2,λx hx=>?_⟩;obtain⟨k,hk⟩:=fA hx;obtain⟨hlt,rfl⟩:=bN.1 hk;exact FW (key k hlt).1
end
section
variable {N:Nat}
theorem EI{t:aL aY}{s:cN}(hs:mG aY.Name t)(ht:bk t<=1048576)(hN:4194304<=N):kS N t s=some (nat? aY.Name t s):=by
 have:=pC t;obtain⟨r,h1,h2⟩:=Fx (N:=N) (key:=aY.Name) (l:=t) (s:=s) (φ:=ja N) (λx=>rfl) hs (by omega) hN;have e:eI N t s (ja N)=DF N t s (ja N):=rfl;unfold kS;rw[e,h1,aA];exact h2
theorem Ld{l:aL Part}{s:cN}(hs:mG Part.Name l)(hl:l.length<=1048576)(hN:4194304<=N):mz N l s=some (nat? Part.Name l s):=by
 obtain⟨r,h1,h2⟩:=Fx (N:=N) (key:=Part.Name) (l:=l) (s:=s) (φ:=jc N) (λx=>rfl) hs (by omega) hN;have e:fu N l s (jc N)=DF N l s (jc N):=rfl;unfold mz;rw[e,h1,aA];exact h2
theorem Nn{y:aY}{s:cN}(hs:mG dG.Name y.aZ)(hl:y.aZ.length<=1048576)(hN:4194304<=N):nv N y s=some (nat? dG.Name y.aZ s):=by
 obtain⟨r,h1,h2⟩:=Fx (N:=N) (key:=dG.Name) (l:=y.aZ) (s:=s) (φ:=jK N) (λx=>rfl) hs (by omega) hN;have e:eM N y.aZ s (jK N)=DF N y.aZ s (jK N):=rfl;unfold nv;rw[e,h1,aA];exact h2
theorem Dk{α:Type}(key:α->cN)(l:aL α)(s:cN):(nat? key l s = -1/\∀x∈l,key x≠s)\/∃k x,nat? key l s=((k:Nat):Int)/\l[k]? =some x/\key x=s:=by
 rcases n8 l (λx=>(key x).u5 s)with⟨h1,h2⟩|⟨k,x,h1,h2,h3,_⟩
 ·exact .inl ⟨h1,λx hx=>rj.1<|h2 x hx⟩
 ·exact .inr ⟨k,x,h1,h2,ud.1 h3⟩
theorem OU{α:Type}(key:α->cN)(l:aL α)(s:cN):decide (nat? key l s>=0)=l.any (λx=>(key x).u5 s):=Cu _ _
def uu(t:aL aY)(l:aL Part)(k:Nat):aU Int:=
 match l[k]? with
 |none=>none
 |some p=>if mN p.Name=false then some 5 else if nat? aY.Name t p.pT<0 then some 9 else if mH Part.Name l k=true then some 8 else none
def jw(t:aL aY)(l:aL Part):Int:=if 1000<l.length then 2 else(l8 l.length<|uu t l).getD 0
theorem I1{R:Type}(a:Bool)(z:Int)(b:Bool)(f:Int->R):
  ((bif(!a)then some (.rt<|f 5)else(bif z<0 then some (.rt<|f 9)else((some b).bind λs=>bif s then some (.rt<|f 8)else some (.nx ())))):aU (Fl Unit R)) =
  some (DE ((if a=false then some (5:Int)else if z<0 then some 9 else if b=true then some 8 else none).map f) ()):=by
 cases a
 ·rfl
 ·by_cases hz:z<0
  ·rw[bU hz];simp[DE,hz]
  ·rw[bS hz];cases b <;> simp[DE,hz]
theorem I2(o:aU Int):o.map (λx=>x)=o:=by cases o <;> rfl
theorem Dl{t:aL aY}{l:aL Part}(hs:mG aY.Name t)(ht:bk t<=1048576)(hl:l.length<=1048576)(hln:∀p∈l,p.Name.dA.length<=2097152)(hN:4194304<=N):
  jS N t l (iV N)=some (jw t l):=by
 unfold jS jw
 by_cases h1:1000<l.length
 ·rw[aH h1,bU (by omega),aQ]
 ·rw[aF h1,bS (by omega),aP]
  rw[lN (uu t l) (by omega) (λk hk _=>by
   have hx:l[k]? =some l[k]:=aM hk;have hb:=hln _<|cS hk
   rw[cG hx,aA,oZ (by omega) hN,aA,EI hs ht hN,aA,Fy Part.Name hx (by omega)];refine(I1 _ _ _ (λx:Int=>x)).trans ?_
   rw[I2];unfold uu;rw[hx]),aA,Dj]
def wB(t:aL aY)(l:aL Part)(p:bZ):Bool:=
 match l.find? (λx=>x.Name.u5 p.Part)with
 |none=>false
 |some x=>match t.find? (λy=>y.Name.u5 x.pT)with
  |none=>false
  |some y=>y.aZ.any (λq=>q.Name.u5 p.bZ)
theorem Ka{α:Type}{l:aL α}{p:α->Bool}{k:Nat}{x:α}(hk:F7 l p=(k:Int))(hx:l[k]? =some x):l.find? p=some x:=by
 rcases n8 l p with⟨h1,_⟩|⟨k',x',h1,h2,h3,h4⟩
 ·omega
 ·have:k'=k:=by omega
  subst this;rw[hx]at h2;injection h2 with h2;subst h2
  rw[List.find?_eq_some_iff_getElem];obtain⟨hlt,hxx⟩:=bN.1 hx;exact⟨h3,k',hlt,hxx,λj hj=>by rw[h4 j l[j] hj<|aM (by omega)];rfl⟩
theorem Le{α:Type}{l:aL α}{p:α->Bool}(hk:F7 l p = -1):l.find? p=none:=by
 rcases n8 l p with⟨_,h⟩|⟨k',x',h1,_⟩
 ·rw[List.find?_eq_none];intro x hx;rw[h x hx];decide
 ·omega
def Typed(t:aL aY)(l:aL Part):Prop:=∀x∈l,0<=nat? aY.Name t x.pT
theorem HA{t:aL aY}{l:aL Part}{p:bZ}(htl:Typed t l){fp:aU Int}{ft:cN->aU Int}{fq:aY->aU Int}
  (h1:fp=some (nat? Part.Name l p.Part)) (h2:∀s,ft s=some (nat? aY.Name t s)) (h3:∀y∈t,fq y=some (nat? dG.Name y.aZ p.bZ)):
  (fp.bind λx2=>(bif x2>=0 then((idx l x2).bind λx18=>(ft x18.pT).bind λx21=>(idx t x21).bind λN6=>(fq N6).bind λx25=>some<|decide<|x25>=0)else some false).bind λs16=>some s16)=some (wB t l p):=by
 rw[h1,aA];unfold wB
 rcases Dk Part.Name l p.Part with⟨h4,_⟩|⟨k,x,h4,h5,h6⟩
 ·rw[Le h4,h4];rfl
 ·rw[Ka h4 h5,h4,bU (by omega),aQ,cG h5,aA,h2,aA];dsimp only;have h7:=htl x<|gA h5
  rcases Dk aY.Name t x.pT with⟨h8,_⟩|⟨j,y,h8,h9,_⟩
  ·omega
  ·rw[Ka h8 h9,h8,cG h9,aA,h3 y<|gA h9,aA,aA,OU]
theorem yI{t:aL aY}{l:aL Part}{p:bZ}(ht:FV t)(hl:mG Part.Name l)(htl:Typed t l)(hbt:bk t<=1048576)(hbl:l.length<=1048576)(hN:4194304<=N):
  oE N t l p=some (wB t l p):=by
 exact HA htl (Ld hl (by omega) hN) (λs=>EI ht.sorted hbt hN) (λy hy=>Nn (ht.pins y hy) (by
  have h1:=vB hy;rw[vC]at h1;have h2:=pC y.aZ;omega) hN)
def uH(a b:bZ):Bool:=a.Part.BV b.Part||(a.Part.u5 b.Part&&a.bZ.BV b.bZ)
def sR(l:aL bZ)(k:Nat):Bool:=match l[k]?,l[k - 1]? with|some p,some q=>decide (0<k)&& !uH q p|_,_=>false
theorem Np(a b:cN):0<Lib.compareBytes a.dA b.dA↔cN.lt b a:=by
 have h1:=pB a.dA b.dA;have h2:=nV a.dA b.dA
 rcases cN.zi a b with h|h|h
 ·have h3:=h1.2 h;exact⟨λh'=>by omega,λh'=>absurd h'<|cN.lt_asymm h⟩
 ·subst h;have h3:=h2.2 rfl;exact⟨λh'=>by omega,λh'=>absurd h'<|cN.lt_irrefl _⟩
 ·refine⟨λ_=>h,λ_=>?_⟩;have h3:¬Lib.compareBytes a.dA b.dA<0:=λh'=>cN.lt_asymm h<|h1.1 h'
  have h4:¬Lib.compareBytes a.dA b.dA=0:=λh'=>cN.Cr h (cN.ext'<|h2.1 h').symm;omega
def FX(a b:bZ):Int:=if Lib.compareBytes a.Part.dA b.Part.dA=0 then Lib.compareBytes a.bZ.dA b.bZ.dA else Lib.compareBytes a.Part.dA b.Part.dA
theorem Dm(a b:bZ):cO N a b=some (FX a b):=by
 show(bif Lib.compareBytes a.Part.dA b.Part.dA != 0 then some (Lib.compareBytes a.Part.dA b.Part.dA)else some (Lib.compareBytes a.bZ.dA b.bZ.dA))=_;unfold FX
 by_cases h:Lib.compareBytes a.Part.dA b.Part.dA=0
 ·rw[h];rfl
 ·have:(Lib.compareBytes a.Part.dA b.Part.dA != 0)=true:=by rw[bne_iff_ne];exact h
  rw[this,aF h];rfl
theorem Lg(a b:bZ):decide (FX a b<=0) = !uH b a:=by
 unfold FX uH
 by_cases h:Lib.compareBytes a.Part.dA b.Part.dA=0
 ·have e:a.Part=b.Part:=cN.ext'<|(nV _ _).1 h
  have e2:b.Part.BV a.Part=false:=by rw[e,<-qP];exact cN.lt_irrefl _
  rw[aH h,e2,ud.2 e.symm,Bool.false_or,Bool.true_and];have:=Np a.bZ b.bZ;rw[jE,dP,Bool.not_eq_true',<-qP];constructor
  ·intro h1 h2;have:=this.2 h2;omega
  ·intro h1
   by_cases h3:0<Lib.compareBytes a.bZ.dA b.bZ.dA
   ·exact absurd (this.1 h3) h1
   ·omega
 ·have e:b.Part≠a.Part:=λe=>h<|(nV _ _).2 (by rw[e])
  rw[aF h,rj.2 e,Bool.false_and,Bool.or_false];have:=Np a.Part b.Part;rw[jE,dP,Bool.not_eq_true',<-qP];constructor
  ·intro h1 h2;have:=this.2 h2;omega
  ·intro h1
   by_cases h3:0<Lib.compareBytes a.Part.dA b.Part.dA
   ·exact absurd (this.1 h3) h1
   ·omega
theorem Lh{l:aL bZ}{k:Nat}{x:bZ}{f:bZ->aU Bool}(hf:∀y,f y=some (!uH y x))(hx:l[k]? =some x)(hl:l.length<=1048576):
  (bif decide ((k:Int)>0)then(idx l<|wrap .i64<|(k:Int) - 1).bind f else some false)=some (sR l k):=by
 have hk:=(bN.1 hx).1;unfold sR
 by_cases h0:0<k
 ·rw[bU (by omega),aQ,lZ h0 (by omega),ji l _ (by omega),aA,hx,aM (by omega:k - 1<l.length),hf];simp[h0]
 ·have:k=0:=by omega
  subst this;rw[hx];simp
def AN(l:aL Net)(p:bZ):Bool:=l.any<|λn=>decide<|p∈n.aZ
def zX(t:aL aY)(x:cB)(i:Nat)(l:aL bZ)(k:Nat):aU Int:=
 match l[k]? with
 |none=>none
 |some p=>if wB t x.kN p=false then some 9 else if sR l k=true then some 8 else if AN (x.cF.take i) p=true then some 7 else none
def yJ(t:aL aY)(x:cB)(i:Nat):aU Int:=
 match x.cF[i]? with
 |none=>none
 |some n=>if mN n.Name=false then some 5 else if n.aZ.length=0 then some 9 else if 500<n.aZ.length then some 2 else
   (l8 n.aZ.length<|zX t x i n.aZ).or (if 0<n.ux.length then some 3 else if mH Net.Name x.cF i=true then some 8 else none)
def AO(t:aL aY)(x:cB):Int:=if 1000<x.cF.length then 2 else(l8 x.cF.length<|yJ t x).getD 0
def l5(t:aL aY)(x:cB):Int:=
 if checkTypes t≠0 then checkTypes t else if jw t x.kN≠0 then jw t x.kN else AO t x
theorem Dn{t:aL aY}{l:aL Part}{k:Nat}{r:Int}(h:uu t l k=some r):r≠0:=by
 unfold uu at h
 repeat' split at h
 all_goals first|(injection h with h;omega)|cases h
structure Kb (t:aL aY) (l:aL Part):Prop where
 sorted:mG Part.Name l
 typed:Typed t l
theorem xY{t:aL aY}{l:aL Part}(h:jw t l=0):Kb t l:=by
 unfold jw at h;split at h
 ·cases h
 have hn:=w8 (λk r hk=>Dn hk) h;have key:∀k(hk:k<l.length),0<=nat? aY.Name t l[k].pT/\mH Part.Name l k=false:=by
  intro k hk;have:=hn k hk;unfold uu at this;rw[aM hk]at this;dsimp only at this
  repeat' split at this
  all_goals first|(simp at this;done)|simp_all
 refine⟨pQ λk hk=>(key k hk).2,λx hx=>?_⟩;obtain⟨k,hk⟩:=fA hx;obtain⟨hlt,rfl⟩:=bN.1 hk;exact(key k hlt).1
theorem HB{t:aL aY}{x:cB}{i:Nat}{l:aL bZ}{k:Nat}{r:Int}(h:zX t x i l k=some r):r≠0:=by
 unfold zX at h
 repeat' split at h
 all_goals first|(injection h with h;omega)|cases h
theorem Bw{l:aL bZ}{has:bZ->aU Bool}{m:aL (bZ×Bool)}(hB:bZ->Bool)(hh:∀p∈l,has p=some (hB p))(hl:l.length<=1048576):
  iW N l has m=some (if 500<l.length then((2:Int),m)else
   (l8 l.length (λk=>match l[k]? with
    |none=>none
    |some p=>if hB p=false then some (9:Int)else if sR l k=true then some 8 else if dE m p false=true then some 7 else none)).elim ((0:Int),rS m l true) (λr=>(r,m))):=by
 unfold iW
 by_cases h1:500<l.length
 ·rw[aH h1,bU (by omega),aQ]
 ·rw[aF h1,bS (by omega),aP]
  rw[lN (λk=>Option.map (λ(r:Int)=>(r,m)) (match l[k]? with
    |none=>none
    |some p=>if hB p=false then some (9:Int)else if sR l k=true then some 8 else if dE m p false=true then some 7 else none)) (by omega) (λk hk _=>by
   have hx:l[k]? =some l[k]:=aM hk;rw[cG hx,aA,hh _<|cS hk,aA,Lh (λy=>by rw[Dm,aA,Lg]) hx hl,hx];dsimp only
   cases hB l[k]
   ·rfl
   ·cases sR l k
    ·cases dE m l[k] false <;> rfl
    ·rfl),aA,J9,Er true (by omega),aA]
  rw[<-GX];generalize l8 l.length _=o
  cases o <;> rfl
def uv(x:cB)(i:Nat):aL (bZ×Bool):=(x.cF.take i).foldl (λm n=>rS m n.aZ true) []
theorem Li(l:aL Net)(p:bZ):∀(m:aL (bZ×Bool)),dE (l.foldl (λm n=>rS m n.aZ true) m) p false=(AN l p||dE m p false):=by
 induction l with
 |nil=>intro m;rfl
 |cons n l ih=>
  intro m;rw[List.foldl_cons,ih,CO];unfold AN;rw[List.any_cons]
  by_cases h:p∈n.aZ <;> simp[h]
theorem FY(x:cB)(i:Nat)(p:bZ):dE (uv x i) p false=AN (x.cF.take i) p:=by
 unfold uv;rw[Li];simp[dE]
theorem FZ{x:cB}{i:Nat}{n:Net}(h:x.cF[i]? =some n):uv x (i+1)=rS (uv x i) n.aZ true:=by
 unfold uv;obtain⟨hlt,rfl⟩:=bN.1 h;rw[eO hlt,List.foldl_append];rfl
structure UZ (x:cB):Prop where
 pl:x.kN.length<=1048576
 pn:∀p∈x.kN,p.Name.dA.length<=2097152
 nl:x.cF.length<=1048576
 nn:∀n∈x.cF,n.Name.dA.length<=2097152
 np:∀n∈x.cF,n.aZ.length<=1048576
theorem Nq{x:cB}(h:bk x<=1048576):UZ x:=by
 rw[Cw]at h;have h1:=pC x.kN;have h2:=pC x.cF;refine⟨by omega,λp hp=>?_,by omega,λn hn=>?_,λn hn=>?_⟩
 ·have:=vB hp;rw[JI]at this;have h3:=Cs p.Name;omega
 ·have:=vB hn;rw[Ir,Cs]at this;omega
 ·have:=vB hn;rw[Ir]at this;have h3:=pC n.aZ;omega
theorem uY{t:aL aY}{x:cB}(hbt:bk t<=1048576)(hbx:UZ x)(hN:4194304<=N):jd N t x=some (l5 t x):=by
 have hpl:=hbx.pl;have hln:=hbx.nl;unfold jd l5;rw[uX hbt,aA]
 by_cases h1:checkTypes t≠0
 ·have e:(checkTypes t != 0)=true:=by rw[bne_iff_ne];exact h1
  rw[e,aQ,aH h1]
 replace h1:=Decidable.not_not.1 h1
 have ht:=xX h1;have e:(checkTypes t != 0)=false:=by rw[h1];rfl
 rw[e,aP,aF<|λh=>h h1,Dl ht.sorted hbt hbx.pl hbx.pn hN,aA]
 by_cases h2:jw t x.kN≠0
 ·have e:(jw t x.kN != 0)=true:=by rw[bne_iff_ne];exact h2
  rw[e,aQ,aH h2]
 replace h2:=Decidable.not_not.1 h2
 have hp:=xY h2;have e:(jw t x.kN != 0)=false:=by rw[h2];rfl
 rw[e,aP,aF<|λh=>h h2];unfold AO
 by_cases h3:1000<x.cF.length
 ·rw[aH h3,bU (by omega),aQ]
 ·rw[aF h3,bS (by omega),aP]
  rw[JF (s:=([]:aL (bZ×Bool))) (uv x) (yJ t x) (by omega) rfl (λi hi _=>by
   have hx:x.cF[i]? =some x.cF[i]:=aM hi;have hb2:=hbx.nn _<|cS hi
   have hlp:=hbx.np _<|cS hi
   rw[FZ hx]
   rw[cG hx,aA,oZ (by omega) hN,aA,Bw (wB t x.kN) (λp _=>by
    unfold kp
    rw[yI ht hp.sorted hp.typed hbt hpl hN,aA]) (by omega),aA,Fy Net.Name hx (by omega)]
   unfold yJ;rw[hx];dsimp only
   cases mN x.cF[i].Name
   ·rfl
   simp only[ll,aP,Bool.true_eq_false,if_false]
   by_cases h4:x.cF[i].aZ.length=0
   ·rw[aH h4,h4];rfl
   have e4:(((x.cF[i].aZ.length:Nat):Int)==0)=false:=by rw[beq_eq_false_iff_ne];omega
   rw[aF h4,e4,aP]
   by_cases h5:500<x.cF[i].aZ.length
   ·rw[aH h5,aH h5];rfl
   rw[aF h5,aF h5]
   have e5:(l8 x.cF[i].aZ.length (λk=>match x.cF[i].aZ[k]? with
    |none=>none
    |some p=>if wB t x.kN p=false then some (9:Int)else if sR x.cF[i].aZ k=true then some 8 else if dE (uv x i) p false=true then some 7 else none))=l8 x.cF[i].aZ.length (zX t x i x.cF[i].aZ):=by
    congr 1;funext k;unfold zX;split
    ·rfl
    ·rw[FY]
   rw[e5]
   cases h6:l8 x.cF[i].aZ.length (zX t x i x.cF[i].aZ)with
   |some r=>
    obtain⟨j,_,hj,_⟩:=kj.1 h6;have e6:(r != 0)=true:=by rw[bne_iff_ne];exact HB hj
    simp only[Option.elim_some,e6,aQ];rfl
   |none=>
    simp only[Option.elim_none,bne_self_eq_false,aP,Option.none_or]
    by_cases h7:0<x.cF[i].ux.length
    ·rw[aH h7,bU (by omega)];rfl
    ·rw[aF h7,bS (by omega)]
     cases mH Net.Name x.cF i <;> rfl),aA]
  cases l8 x.cF.length (yJ t x) <;> rfl
theorem wC{t:aL aY}{x:cB}(hbt:bk t<=1048576)(hbx:bk x<=1048576)(hN:4194304<=N):jd N t x=some (l5 t x):=uY hbt (Nq hbx) hN
end
section
variable {N:Nat}
structure AP (t:aL aY) (x:cB):Prop where
 types:FV t
 parts:Kb t x.kN
 Ew:x.kN.length<=1000
 Kc:x.cF.length<=1000
 Kd:∀n∈x.cF,0<n.aZ.length/\n.aZ.length<=500
 Tl:∀n∈x.cF,n.ux= []
 VG:mG Net.Name x.cF
 path:∀n∈x.cF,mN n.Name=true
 Vg:∀p∈x.kN,mN p.Name=true
 VJ:∀n∈x.cF,∀p∈n.aZ,wB t x.kN p=true
 QG:∀n∈x.cF,∀(i j:Nat)(p q:bZ),i<j->n.aZ[i]? =some p->n.aZ[j]? =some q->uH p q=true
 once:∀(i j:Nat)(n m:Net)(p:bZ),x.cF[i]? =some n->x.cF[j]? =some m->p∈n.aZ->p∈m.aZ->i=j
theorem HC{a b c:bZ}(h1:uH a b=true)(h2:uH b c=true):uH a c=true:=by
 unfold uH at *;simp only[ij,dB,ud]at *
 rcases h1 with h1|⟨e1,h1⟩
 ·rcases h2 with h2|⟨e2,_⟩
  ·exact .inl<|cN.lt_trans h1 h2
  ·rw[<-e2];exact .inl h1
 ·rcases h2 with h2|⟨e2,h2⟩
  ·rw[e1];exact .inl h2
  ·exact .inr ⟨e1.trans e2,cN.lt_trans h1 h2⟩
theorem Lj{l:aL bZ}(h:∀k,k<l.length->sR l k=false):∀(i j:Nat)(p q:bZ),i<j->l[i]? =some p->l[j]? =some q->uH p q=true:=by
 intro i j
 induction j with
 |zero=>intro p q hij;omega
 |succ j ih=>
  intro p q hij hp hq;have hj:=(bN.1 hq).1;have h1:=h (j+1) hj;unfold sR at h1;rw[hq,Nat.add_sub_cancel,aM (by omega:j<l.length)]at h1;simp at h1
  by_cases e:i=j
  ·subst e;rw[aM (by omega:i<l.length)]at hp;injection hp with hp;subst hp;exact h1
  ·exact HC (ih p l[j] (by omega) hp<|aM (by omega)) h1
theorem Ll{t:aL aY}{x:cB}{k:Nat}{r:Int}(h:yJ t x k=some r):r≠0:=by
 unfold yJ at h;split at h
 ·cases h
 split at h
 ·injection h with h;omega
 split at h
 ·injection h with h;omega
 split at h
 ·injection h with h;omega
 cases hx:l8 _ (zX t x k _)with
 |some r'=>
  rw[hx]at h;injection h with h
  subst h;obtain⟨j,_,hj,_⟩:=kj.1 hx;exact HB hj
 |none=>
  rw[hx]at h;simp only[Option.none_or]at h;split at h
  ·injection h with h;omega
  split at h
  ·injection h with h;omega
  ·cases h
theorem F0{t:aL aY}{x:cB}(h:l5 t x=0):AP t x:=by
 unfold l5 at h
 by_cases h1:checkTypes t≠0
 ·rw[aH h1]at h;exact absurd h h1
 rw[aF h1]at h
 by_cases h2:jw t x.kN≠0
 ·rw[aH h2]at h;exact absurd h h2
 rw[aF h2]at h
 replace h1:=Decidable.not_not.1 h1
 replace h2:=Decidable.not_not.1 h2
 unfold AO at h
 by_cases h3:1000<x.cF.length
 ·rw[aH h3]at h;cases h
 rw[aF h3]at h;have hn:=w8 (λk r hk=>Ll hk) h;have key:∀i(hi:i<x.cF.length),mN x.cF[i].Name=true/\0<x.cF[i].aZ.length/\x.cF[i].aZ.length<=500/\x.cF[i].ux= []/\mH Net.Name x.cF i=false/\
   ∀k(hk:k<x.cF[i].aZ.length),wB t x.kN x.cF[i].aZ[k]=true/\sR x.cF[i].aZ k=false/\AN (x.cF.take i) x.cF[i].aZ[k]=false:=by
  intro i hi;have h4:=hn i hi;unfold yJ at h4;rw[aM hi]at h4;dsimp only at h4;split at h4
  ·cases h4
  split at h4
  ·cases h4
  split at h4
  ·cases h4
  cases h5:l8 x.cF[i].aZ.length (zX t x i x.cF[i].aZ)with
  |some r=>rw[h5]at h4;cases h4
  |none=>
   rw[h5]at h4;simp only[Option.none_or]at h4;split at h4
   ·cases h4
   split at h4
   ·cases h4
   rename_i h6 h7 h8 h9 h10;refine⟨by simpa using h6,by omega,by omega,List.length_eq_zero_iff.1 (by omega),by simpa using h10,λk hk=>?_⟩;have h11:=ki.1 h5 k hk;unfold zX at h11;rw[aM hk]at h11;dsimp only at h11
   repeat' split at h11
   all_goals first|(simp at h11;done)|simp_all
 have hpe:∀k(hk:k<x.kN.length),mN x.kN[k].Name=true:=by
  intro k hk;have h5:=h2;unfold jw at h5;split at h5
  ·cases h5
  have h4:=w8 (λk r hk=>Dn hk) h5 k hk;unfold uu at h4;rw[aM hk]at h4;dsimp only at h4;split at h4
  ·cases h4
  ·rename_i h6;simpa using h6
 have mem:∀n∈x.cF,∃i,∃hi:i<x.cF.length,n=x.cF[i]:=λn hn=>by
  obtain⟨i,hi⟩:=fA hn;obtain⟨hlt,rfl⟩:=bN.1 hi;exact⟨i,hlt,rfl⟩
 refine⟨xX h1,xY h2,?_,by omega,λn hn=>?_,λn hn=>?_,pQ λi hi=>(key i hi).2.2.2.2.1,λn hn=>?_,λp hp=>?_,λn hn p hp=>?_,λn hn=>?_,?_⟩
 ·unfold jw at h2;split at h2
  ·cases h2
  ·omega
 ·obtain⟨i,hi,rfl⟩:=mem n hn;exact⟨(key i hi).2.1,(key i hi).2.2.1⟩
 ·obtain⟨i,hi,rfl⟩:=mem n hn;exact(key i hi).2.2.2.1
 ·obtain⟨i,hi,rfl⟩:=mem n hn;exact(key i hi).1
 ·obtain⟨k,hk⟩:=fA hp;obtain⟨hlt,rfl⟩:=bN.1 hk;exact hpe k hlt
 ·obtain⟨i,hi,rfl⟩:=mem n hn;obtain⟨k,hk⟩:=fA hp;obtain⟨hlt,rfl⟩:=bN.1 hk;exact((key i hi).2.2.2.2.2 k hlt).1
 ·obtain⟨i,hi,rfl⟩:=mem n hn;exact Lj λk hk=>((key i hi).2.2.2.2.2 k hk).2.1
 ·have one:∀(i j:Nat)(n m:Net)(p:bZ),i<j->x.cF[i]? =some n->x.cF[j]? =some m->p∈n.aZ->p∈m.aZ->False:=by
   intro i j n m p hij hn hm hpn hpm;obtain⟨hj,rfl⟩:=bN.1 hm;obtain⟨k,hk⟩:=fA hpm;obtain⟨hlt,rfl⟩:=bN.1 hk;have h5:=((key j hj).2.2.2.2.2 k hlt).2.2;unfold AN at h5;rw[List.any_eq_false]at h5;refine h5 n (gA (i:=i) (by rw[List.getElem?_take_of_lt hij];exact hn)) ?_;simpa using hpn
  intro i j n m p hn hm hpn hpm
  rcases Nat.lt_trichotomy i j with h5|h5|h5
  ·exact(one i j n m p h5 hn hm hpn hpm).elim
  ·exact h5
  ·exact(one j i m n p h5 hm hn hpm hpn).elim
def o8(x:cB)(p:bZ):Int:=F7 x.cF<|λn=>decide<|p∈n.aZ
def lK(x:cB)(i:Nat):aL (bZ×Int):=(List.range i).foldl (λm k=>rS m ((x.cF[k]?.map Net.aZ).getD []) ((k:Nat):Int)) []
theorem wD{x:cB}{i:Nat}{n:Net}(h:x.cF[i]? =some n):lK x (i+1)=rS (lK x i) n.aZ (i:Int):=by
 unfold lK;rw[List.range_succ,List.foldl_append,List.foldl_cons,List.foldl_nil,h];rfl
theorem Nr{x:cB}(hb:UZ x):lA N x=some (lK x x.cF.length):=by
 have:=hb.nl;unfold lA
 rw[uc (s:=([]:aL (bZ×Int))) (lK x) (by omega) rfl (λk hk=>by
  have hx:x.cF[k]? =some x.cF[k]:=aM hk;have:=hb.np _<|cS hk
  rw[cG hx,aA,Er _ (by omega),aA,wD hx]),aA]
theorem OV{x:cB}(hb:bk x<=1048576):lA N x=some (lK x x.cF.length):=Nr<|Nq hb
theorem A6{x:cB}{p:bZ}:∀(i:Nat),i<=x.cF.length->iD (lK x i) p=(x.cF.take i).any (λn=>decide<|p∈n.aZ)
 | 0,_=>by simp[lK,iD]
 |i+1,h=>by
  have hx:x.cF[i]? =some x.cF[i]:=aM (by omega);rw[wD hx,Iv,A6 i (by omega),eO (by omega),List.any_append];simp[Bool.or_comm]
theorem A7{x:cB}{p:bZ}{j:Nat}(hj:∀k n,x.cF[k]? =some n->p∈n.aZ->k=j)(z:Int):∀(i:Nat),i<=x.cF.length->dE (lK x i) p z=if(x.cF.take i).any (λn=>decide<|p∈n.aZ)=true then(j:Int)else z
 | 0,_=>by simp[lK,dE]
 |i+1,h=>by
  have hx:x.cF[i]? =some x.cF[i]:=aM (by omega);rw[wD hx,CO,A7 hj z i (by omega),eO (by omega),List.any_append]
  by_cases hp:p∈x.cF[i].aZ
  ·have hji:=hj i _ hx hp;rw[aH hp,aH (by simp[hp])];omega
  ·rw[aF hp];simp[hp]
theorem EJ{t:aL aY}{x:cB}(h:AP t x)(p:bZ):
  iD (lK x x.cF.length) p=decide (o8 x p>=0)/\(0<=o8 x p->∀z,dE (lK x x.cF.length) p z=o8 x p):=by
 have e:iD (lK x x.cF.length) p=x.cF.any (λn=>decide<|p∈n.aZ):=by rw[A6 _<|bW _,g8]
 unfold o8;refine⟨by rw[e,Cu],λh0 z=>?_⟩
 rcases n8 x.cF (λn=>decide<|p∈n.aZ)with⟨h1,_⟩|⟨k,n,h1,h2,h3,_⟩
 ·rw[h1]at h0;omega
 ·have h3':p∈n.aZ:=by simpa using h3
  rw[A7 (j:=k) (λi m hm hp=>h.once i k m n p hm h2 hp h3') z _<|bW _,g8,h1,aH];exact lq.2 ⟨n,gA h2,h3⟩
end
end Go.Gk
namespace Go.Gk
open Go IntKind Classical
def iB(a:iE)(ps:aL bZ):aL bZ:=ps.filter λp=>decide<|0<=iA a p
def ot(a:iE)(p:bZ):cW:=(a.bX[(iA a p).toNat]?).getD default
def gN(L:aL bZ)(i:Nat):bZ:=(L[i]?).getD default
def Te(a:iE)(p q:bZ):Int:=QE (OT a p).X (OT a q).X+QE (OT a p).Y (OT a q).Y
def Bx(a:iE)(L:aL bZ)(i k:Nat):Int:=Te a (gN L i)<|gN L k
noncomputable def Ns(a:iE)(L:aL bZ):aL (Nat×Nat):=xF (λi=>i)<|OR<|wy (Bx a L) L.length L.length
def I3(L:aL bZ)(e:Nat×Nat):Test:=⟨gN L e.1,gN L e.2,true⟩
noncomputable def Dp(a:iE)(ps:aL bZ):aL Test:=(Ns a<|iB a ps).map<|I3<|iB a ps
noncomputable def Dq(x:cB)(a:iE):aL Test:=x.cF.flatMap λn=>Dp a n.aZ
theorem wE{a:iE}{p:bZ}(h:0<=iA a p):a.bX[(iA a p).toNat]? =some (ot a p)/\lI (ot a p)=p/\(ot a p).At=OT a p:=by
 obtain⟨k,x,h1,h2,h3,h4⟩:=Ni h;have e:ot a p=x:=by unfold ot;rw[h1,cR,h2];rfl
 exact⟨by rw[e,h1,cR];exact h2,by rw[e];exact h3,by rw[e];exact(QF h1 h2).symm⟩
theorem yK{a:iE}{ps:aL bZ}{p:bZ}:p∈iB a ps↔p∈ps/\0<=iA a p:=by unfold iB;simp
theorem Nt{L:aL bZ}{i:Nat}(h:i<L.length):L[i]? =some (gN L i):=by unfold gN;rw[aM h];rfl
theorem EK{L:aL bZ}{i:Nat}(h:i<L.length):gN L i∈L:=gA<|Nt h
theorem Lm{a:iE}{L:aL bZ}{e:Nat×Nat}(h:e∈Ns a L):e.1<e.2/\e.2<L.length:=by
 obtain⟨q,h1,rfl⟩:=Dg _ _ _ h;have:=Df.1<|(tI _).mem_iff.1 h1
 exact⟨this.2.1,this.2.2.1⟩
theorem Ln(a:iE)(L:aL bZ):(Ns a L).length<=L.length*L.length:=by
 refine mc (Dh _ _) ?_;rw[(tI _).length_eq];exact zW _ _ _
def rV(e:Int×Nat×Nat):aC:=⟨e.1,((e.2.1:Nat):Int),((e.2.2:Nat):Int)⟩
def Tf(p:aC):Int×Nat×Nat:=(p.B7,p.i.toNat,p.k.toNat)
theorem HD(e:Int×Nat×Nat):Tf (rV e)=e:=by obtain⟨a,b,c⟩:=e;rfl
def Pr(x y:aC):Prop:=x.B7<y.B7\/x.B7=y.B7/\(x.i<y.i\/x.i=y.i/\x.k<y.k)
theorem Ke{x y:Int×Nat×Nat}:Pr (rV x) (rV y)↔yG x y:=by
 unfold Pr yG rV;dsimp only;omega
def QK(x y:aC):Int:=if x.B7<y.B7 then -1 else if x.B7>y.B7 then 1 else 0
section
variable {N:Nat}{a:iE}
theorem HE(x y:aC):jY N x y=some (QK x y):=by
 unfold jY nN ny QK;simp only[bne_self_eq_false,aA,aP]
 by_cases h:x.B7<y.B7
 ·simp[h]
 ·by_cases h2:x.B7>y.B7
  ·simp[h,h2]
  ·simp[h,h2]
theorem Nu{l:aL (Int×Nat×Nat)}(h:l.Pairwise OQ):(l.map rV).Pairwise (wu Pr<|xU QK):=by
 rw[List.pairwise_map];refine h.imp λ{x y}hxy=>?_;unfold OQ at hxy;have e:xU QK (rV y) (rV x)=decide (y.1<x.1):=by
  unfold xU QK rV;dsimp only
  by_cases h1:y.1<x.1
  ·simp[h1]
  ·rw[aF h1]
   by_cases h2:y.1>x.1
   ·rw[aH h2];simp[h1]
   ·rw[aF h2];simp[h1]
 refine⟨?_,?_⟩
 ·rw[e,dP,Ke];unfold yG;omega
 ·rw[Ke,Ke];unfold yG;omega
theorem Nv{l:aL (Int×Nat×Nat)}(h:l.Pairwise OQ)(hl:l.length<=134217728)(hN:nb N):eE N (l.map rV) (jY N)=some ((OR l).map rV):=by
 obtain⟨D,h1,h2,h3⟩:=DW (N:=N) (φ:=jY N) (cf:=QK) (R:=Pr) HE (λx y z h1 h2=>by unfold Pr at *;omega) (λx y h1 h2=>by unfold Pr at *;omega) (Nu h) (by rw[iM];exact hl) hN;rw[h1];congr 1;have hm:∀p∈D,rV (Tf p)=p:=λp hp=>by
  obtain⟨e,he,rfl⟩:=cX.1<|h2.mem_iff.1 hp
  rw[HD]
 have e1:D=(D.map Tf).map rV:=by
  rw[List.map_map];refine(List.map_id' D).symm.trans<|List.map_congr_left λp hp=>?_
  exact(hm p hp).symm
 have e2:D.map Tf=OR l:=by
  refine QD (h.imp OQ.ne) ?_ ?_
  ·have:=h2.map Tf;rw[List.map_map]at this;refine this.trans<|List.Perm.of_eq ?_
   refine Eq.trans (List.map_congr_left λe _=>?_)<|List.map_id' l
   exact HD e
  ·rw[List.pairwise_map];refine List.Pairwise.imp_of_mem (λ{x y}hx hy hxy=>?_) h3;rw[<-hm x hx,<-hm y hy,Ke]at hxy;exact hxy
 rw[e1,e2]
theorem I4(g:m7 a){ps:aL bZ}(hp:ps.length<=1048576)(hN:nb N):
  jy ps.length (λ(k772:Nat)(s773:aL cW)=>((idx ps (k772:Int)).bind λx825=>(eP N a x825).bind λx831=>(bif x831>=0 then((idx a.bX x831).bind λx842=>(app 56 s773 ([x842]:aL cW)).bind λx846=>some x846)else some s773).bind λs839=>some s839:aU (aL cW))) ([]:aL cW)=some ((iB a ps).map<|ot a):=by
 have:=uc (m:=ps.length) (s:=([]:aL cW)) (body:=λ(k772:Nat)(s773:aL cW)=>((idx ps (k772:Int)).bind λx825=>(eP N a x825).bind λx831=>(bif x831>=0 then((idx a.bX x831).bind λx842=>(app 56 s773 ([x842]:aL cW)).bind λx846=>some x846)else some s773).bind λs839=>some s839:aU (aL cW)))
  (λk=>(iB a (ps.take k)).map (ot a)) (by omega) rfl (λk hk=>by
  have hx:ps[k]? =some ps[k]:=aM hk;have hle:(iB a<|ps.take k).length<=k:=by
   unfold iB;exact mc (me _ _) (by rw[dD];omega)
  rw[cG hx,aA,tG g _ hN,aA];have e:iB a (ps.take<|k+1)=iB a (ps.take k)++if 0<=iA a ps[k]then [ps[k]]else []:=by
   unfold iB;rw[eO hk,List.filter_append];congr 1
   by_cases h:0<=iA a ps[k]
   ·simp[h]
   ·simp[h]
  rw[e]
  by_cases h:0<=iA a ps[k]
  ·obtain⟨h1,h2,h3⟩:=wE h;have hi:((iA a ps[k]).toNat:Int)=iA a ps[k]:=Int.toNat_of_nonneg h;rw[bU (show iA a ps[k]>=0 from h),aQ,<-hi,cG h1,aA,gK (by simp only[iM,fQ,List.length_nil];omega),aA,aA,aH (by omega)];simp
  ·rw[bS (show ¬iA a ps[k]>=0 from h),aP,aA,aF h]
   simp)
 rw[g8]at this;exact this
theorem I5(g:m7 a){L:aL bZ}(hL:∀p∈L,0<=iA a p)(hl:L.length<=500)(hN:nb N):
  jy (L.map<|ot a).length (λ(k849:Nat)(s850:aL aC)=>((idx (L.map<|ot a) (k849:Int)).bind λx932=>(kb (λ(s936:aL aC×Int)=>(bif decide (s936.2<((L.map<|ot a).length:Int))then((idx (L.map<|ot a) s936.2).bind λx960=>(lh N x932.At.X x960.At.X).bind λx963=>(lh N x932.At.Y x960.At.Y).bind λx964=>(app 24 s936.1 ([(⟨wrap .i64<|x963+x964,(k849:Int),s936.2⟩:aC)]:aL aC)).bind λx967=>some<|.nx (x967,wrap .i64<|s936.2+1))else(some<|.br (s936.1,s936.2)):aU (Fl (aL aC×Int) Empty))) N (s850,wrap .i64<|(k849:Int)+1)).bind λo969=>o969.cs (λ(s936:aL aC×Int)=>some s936.1) (λr=>r.elim):aU (aL aC))) ([]:aL aC)=some ((wy (Bx a L) L.length L.length).map rV):=by
 have gT:=Nm g;have hn:(L.map<|ot a).length=L.length:=by simp
 have hat:∀k,(hk:k<L.length)->(L.map<|ot a)[k]? =some (ot a L[k]):=λk hk=>by rw[kl,aM hk];rfl
 rw[hn];refine W9 ?_;refine(WK (λi s=>s=(wy (Bx a L) i L.length).map rV) (by omega) (by simp[wy])<|λi s hi e=>?_).mono<|λs hs=>hs
 subst e;rw[cG<|hat i hi,aA,eN (by omega)];have hb:=zW (Bx a L) L.length i;have hb:(wy (Bx a L) i L.length).length<=250000:=mc hb<|Nat.mul_le_mul (show i<=500 by omega) hl
 refine V3 (Xv (n:=L.length) (λst=>st.2) (λk st=>i+1<=k/\st.1=(wy (Bx a L) i L.length).map rV++(sD (Bx a L) i k).map rV) (Go:=λst=>st.1=(wy (Bx a L) (i+1) L.length).map rV) (Rt:=λ_=>False) ?_ ?_ (k0:=i+1) (by omega) rfl ⟨bW _,by rw[La _ _ _<|bW _];simp⟩ (by omega)) ?_
 ·rintro k⟨s,j⟩hk e⟨hik,hI⟩;dsimp only at e hI ⊢;subst e;subst hI;have h1l:=EH (Bx a L) i k;have p1:=(wE<|hL _<|cS hi).2.2;have p2:=(wE<|hL _<|cS hk).2.2;have o1:=Nl gT L[i];have o2:=Nl gT L[k];rw[Bu hk,aQ,cG<|hat k hk,aA,p1,p2,wz o1.1 o2.1,aA,wz o1.2 o2.2,aA];have d1:=Nk o1.1 o2.1;have d2:=Nk o1.2 o2.2;rw[fB (by omega) (by omega),gK (by simp only[bO,iM,fQ,List.length_nil];omega),aA];refine Wz ⟨eN (by omega),by omega,?_⟩;dsimp only;rw[De,aH (by omega),gC,dL];congr 2;unfold Bx Te gN;rw[aM hi,aM hk];rfl
 ·rintro⟨s,j⟩e⟨_,hI⟩;dsimp only at e hI ⊢;subst e;subst hI;rw[FK,aP];exact WG (by dsimp only;rw[AL,gC])
 ·intro o ho;exact WH ho (λs hs=>VV hs)<|λr h=>h.elim
theorem Lo(r:Nat->Nat)(e:Int×Nat×Nat)(l:aL (Int×Nat×Nat)):xF r (e::l)=if r e.2.1=r e.2.2 then xF r l else(e.2.1,e.2.2)::xF (m9 r (r e.2.1)<|r e.2.2) l:=rfl
theorem Nw{L:aL bZ}(hL:∀p∈L,0<=iA a p)(hl:L.length<=500){E:aL (Int×Nat×Nat)}(hE:∀e∈E,e.2.1<L.length/\e.2.2<L.length)(hEl:E.length<=1000000){base:aL Test}(hb:base.length<=1000000000){up:aL Int}{r0:Nat->Nat}(hU:UF L.length up r0)(hN:nb N):
  Ok (jy (E.map rV).length (λ(k975:Nat)(s976:aL Test×aL Int)=>((idx (E.map rV) (k975:Int)).bind λx1079=>(dH N s976.2 x1079.i).bind λx1082=>(dH N x1082.2 x1079.k).bind λx1084=>(bif x1082.1 != x1084.1 then((dS N x1084.2 x1079.i x1079.k).bind λx1107=>(idx (L.map<|ot a) x1079.i).bind λx1109=>(idx (L.map<|ot a) x1079.k).bind λx1111=>(app 72 s976.1 ([(⟨(⟨x1109.Part,x1109.bZ⟩:bZ),(⟨x1111.Part,x1111.bZ⟩:bZ),true⟩:Test)]:aL Test)).bind λx1123=>some (x1123,x1107))else some (s976.1,x1084.2)).bind λs1104=>some (s1104.1,s1104.2):aU (aL Test×aL Int))) (base,up))
   (λs=>s.1=base++(xF r0 E).map (I3 L)):=by
 have hat:∀k,(hk:k<L.length)->(L.map<|ot a)[k]? =some (ot a L[k]):=λk hk=>by rw[kl,aM hk];rfl
 rw[iM];refine(WK (λk s=>∃r acc,UF L.length s.2 r/\s.1=base++acc/\acc.length<=k/\acc++(xF r<|E.drop k).map (I3 L)=(xF r0 E).map (I3 L)) (by omega) ⟨r0,[],hU,by simp,by simp,by simp⟩<|λk s hk⟨r,acc,h1,h2,h3,h4⟩=>?_).mono<|λs⟨r,acc,h1,h2,h3,h4⟩=>?_
 ·rw[h2,<-h4,List.drop_length];simp[xF]
 ·obtain⟨s1,s2⟩:=s;dsimp only at h1 h2 ⊢;subst h2;have hx:(E.map rV)[k]? =some (rV E[k]):=by rw[kl,aM hk];rfl
  have he:=hE _<|cS hk
  have hd:E.drop k=E[k]::E.drop (k+1):=oy hk;rw[hd]at h4;obtain⟨u1,a1,a2⟩:=uk (N:=N) h1 he.1 (by omega);obtain⟨u2,b1,b2⟩:=uk (N:=N) a2 he.2 (by omega);rw[cG hx,aA,show(rV E[k]).i=((E[k].2.1:Nat):Int)from rfl,show(rV E[k]).k=((E[k].2.2:Nat):Int)from rfl,a1,aA];dsimp only;rw[b1,aA];dsimp only;rw[Lo]at h4
  by_cases hq:r E[k].2.1=r E[k].2.2
  ·rw[aH hq]at h4;rw[hq,bne_self_eq_false,aP,aA];exact VV ⟨r,acc,b2,rfl,Nat.le_succ_of_le h3,h4⟩
  ·rw[aF hq]at h4;obtain⟨u3,c1,c2⟩:=JO (N:=N) b2 he.1 he.2 (by omega);obtain⟨_,p1,_⟩:=wE<|hL _<|cS he.1
   obtain⟨_,p2,_⟩:=wE<|hL _<|cS he.2
   rw[show(((r E[k].2.1:Nat):Int) != ((r E[k].2.2:Nat):Int))=true by rw[bne_iff_ne];omega,aQ,c1,aA,cG (hat _ he.1),aA,cG (hat _ he.2),aA,
    gK (by simp only[bO,fQ,List.length_nil];omega),aA,aA]
   refine VV ⟨m9 r (r E[k].2.1)<|r E[k].2.2,acc++[I3 L (E[k].2.1,E[k].2.2)],c2,?_,by simp;omega,?_⟩
   ·dsimp only;rw[dL];congr 3;unfold I3 gN;rw[aM he.1,aM he.2];show(⟨lI<|ot a L[E[k].2.1],lI<|ot a L[E[k].2.2],true⟩:Test)=_;rw[p1,p2];rfl
   ·rw[eZ]at h4;rw[<-h4,dL];rfl
theorem OW{α γ:Type}{l:aL α}{k:Nat}(hk:k<l.length)(f:α->aL γ):(l.take<|k+1).flatMap f=(l.take k).flatMap f++f l[k]:=by
 rw[eO hk,List.flatMap_append];simp
theorem Lp(a:iE)(ps:aL bZ):(Dp a ps).length<=ps.length*ps.length:=by
 unfold Dp;rw[iM];have h1:=Ln a<|iB a ps
 have h2:(iB a ps).length<=ps.length:=me _ _;exact mc h1<|Nat.mul_le_mul h2 h2
theorem Dr{ns:aL Net}(h:∀n∈ns,n.aZ.length<=500)(a:iE):(ns.flatMap λn=>Dp a n.aZ).length<=ns.length*250000:=by
 induction ns with
 |nil=>simp
 |cons n ns ih=>
  rw[List.flatMap_cons,bO,fQ,Nat.succ_mul];have h1:=Lp a n.aZ;have h2:=Nat.mul_le_mul (h n (by simp))<|h n (by simp)
  have h3:=ih<|λm hm=>h m (by simp[hm])
  omega
theorem ou{t u:Test}:i6 t u<0↔va t u:=by
 unfold i6 va
 by_cases h:fL t.A u.A=0
 ·have e:=iz.1 h;rw[aF (by simpa using h),pH];constructor
  ·exact λh=> .inr ⟨e,h⟩
  ·rintro(h1|⟨_,h1⟩)
   ·rw[e]at h1;exact absurd h1<|tL.irrefl _
   ·exact h1
 ·rw[aH h,pH];constructor
  ·exact .inl
  ·rintro(h1|⟨e,_⟩)
   ·exact h1
   ·exact absurd (iz.2 e) h
theorem va.U0(x y:Test):va x y\/(x.A=y.A/\x.B=y.B)\/va y x:=by
 unfold va
 rcases tL.total x.A y.A with h|h|h
 ·exact .inl<|.inl h
 ·rcases tL.total x.B y.B with k|k|k
  ·exact .inl<|.inr ⟨h,k⟩
  ·exact .inr<|.inl ⟨h,k⟩
  ·exact .inr<|.inr<|.inr ⟨h.symm,k⟩
 ·exact .inr<|.inr<|.inl h
theorem va.Vh(x:Test):¬va x x:=λh=>by
 rcases h with h|⟨_,h⟩
 ·exact tL.irrefl _ h
 ·exact tL.irrefl _ h
theorem zY{l:aL Test}(hl:l.length<4611686018427387904):∃m,r9 (dC N) l=some m/\m.Perm l/\m.Pairwise (λx y=>¬va y x):=by
 have ht:∀x,x∈l->∀y,y∈l->∀z,z∈l->¬i6 x y<0->¬i6 y z<0->¬i6 x z<0:=by
  intro x _ y _ z _ h1 h2 h3;rw[ou]at h1 h2 h3
  rcases va.U0 x y with h|⟨e1,e2⟩|h
  ·exact h1 h
  ·refine h2 ?_;unfold va at h3 ⊢;rw[e1,e2]at h3;exact h3
  ·exact h2<|h.trans h3
 obtain⟨m,h1,h2,h3⟩:=zB (φ:=dC N) (l:=l) i6 (λx _ y _=>qG x y) (λx _ h=>va.Vh x<|ou.1 h) (λx _ y _ z _ h1 h2=>ou.2<|(ou.1 h1).trans<|ou.1 h2) ht hl;exact⟨m,h1,h2,h3.imp λh hh=>h<|ou.2 hh⟩
theorem Ny{t:aL aY}{x:cB}(ok:AP t x)(g:m7 a)(hN:nb N):∃m,jH N x a=some m/\m.Perm (Dq x a)/\m.Pairwise (λu v=>¬va v u):=by
 have hfn:=ok.Kc;have hfp:∀n∈x.cF,n.aZ.length<=500:=λn hn=>(ok.Kd n hn).2;have key:Ok (jH N x a) (λm=>m.Perm (Dq x a)/\m.Pairwise (λu v=>¬va v u)):=by
  unfold jH;refine V3 (WK (λk s=>s=(x.cF.take k).flatMap λn=>Dp a n.aZ) (by omega) (by simp)<|λk s hk e=>?_)<|λs e=>?_
  ·subst e;have hx:x.cF[k]? =some x.cF[k]:=aM hk;have hp:=hfp _<|cS hk
   have hbase:=Dr (ns:=x.cF.take k) (λn hn=>hfp n<|List.mem_of_mem_take hn) a;rw[dD]at hbase;have hbase2:min k x.cF.length*250000<=1000*250000:=Nat.mul_le_mul_right _ (by omega);have hL:∀p∈iB a x.cF[k].aZ,0<=iA a p:=λp hp=>(yK.1 hp).2;have hLl:(iB a x.cF[k].aZ).length<=500:=mc (me _ _) hp;have hpl:=zW (Bx a<|iB a x.cF[k].aZ) (iB a x.cF[k].aZ).length (iB a x.cF[k].aZ).length;have hpl2:(iB a x.cF[k].aZ).length*(iB a x.cF[k].aZ).length<=500*500:=Nat.mul_le_mul hLl hLl;rw[cG hx,aA,I4 g (by omega) hN,aA,I5 g hL hLl hN,aA,Nv (J8 _ _ _) (by omega) hN,aA,iM];obtain⟨up,u1,u2⟩:=wc (N:=N) (n:=(iB a x.cF[k].aZ).length) (by omega);rw[u1,aA];refine V3 (Nw hL hLl (E:=OR<|wy (Bx a<|iB a x.cF[k].aZ) (iB a x.cF[k].aZ).length (iB a x.cF[k].aZ).length) (λe he=>?_) (by rw[(tI _).length_eq];omega) (by omega) u2 hN)<|λs hs=>VV ?_
   ·have:=Df.1<|(tI _).mem_iff.1 he
    exact⟨by omega,this.2.2.1⟩
   ·rw[hs,OW hk];rfl
  ·subst e;rw[g8];have hl:=Dr (ns:=x.cF) hfp a;have hl2:x.cF.length*250000<=1000*250000:=Nat.mul_le_mul_right _ hfn;obtain⟨m,m1,m2,m3⟩:=zY (N:=N) (l:=x.cF.flatMap λn=>Dp a n.aZ) (by omega);rw[m1,aA];exact VV ⟨m2,m3⟩
 obtain⟨m,h1,h2,h3⟩:=key;exact⟨m,h1,h2,h3⟩
end
end Go.Gk
namespace Go.Gk
open Go IntKind
section
variable {N:Nat}
section
variable {α:Type}
theorem mG.mH{key:α->cN}{l:aL α}(h:mG key l){k:Nat}(hk:k<l.length):Gk.mH key l k=false:=by
 unfold Gk.mH;rw[aM hk,aM (by omega:k - 1<l.length)];dsimp only
 by_cases h0:0<k
 ·rw[JG.2<|h (k - 1) k _ _ (by omega) (aM (by omega))<|aM hk];simp
 ·rw[bS h0];simp
end
end
section
variable {N:Nat}
theorem F1{α:Type}(L:aL (aL α))(k:Nat):(L.take k).flatten.length<=L.flatten.length:=by
 conv=>rhs;rw[<-List.take_append_drop k L,List.flatten_append,bO]
 omega
theorem Nz{n:Nat}(hn:n<=1048576):jz N (n:Int)=some []:=by
 unfold jz;rw[bS (by omega),aP];have e1:wrap .i64 ((n:Int) -(wrap .i64<|((0:Nat):Int) -((0:Nat):Int)))=(n:Int):=by
  have:wrap .i64 (((0:Nat):Int) -((0:Nat):Int))=0:=by rw[fB (by omega) (by omega)];rfl
  rw[this,fB (by omega) (by omega)];omega
 rw[e1]
 by_cases h:0<n
 ·rw[bU (by omega),aQ];have:HW 32 (⟨⟨[]⟩,⟨[]⟩⟩:bZ) (n:Int)=some (List.replicate n ⟨⟨[]⟩,⟨[]⟩⟩):=by
   unfold HW;rw[aH (by omega)];rfl
  rw[this,aA,rI _ _ (by omega),aA,aA];rfl
 ·rw[bS (by omega),aP,aA]
theorem I6{L:aL (aL bZ)}(h1:L.length<=1048576)(h2:L.flatten.length<=1048576):iu N L=some L.flatten:=by
 unfold iu;have hlen:∀k,k<=L.length->(L.take k).flatten.length<=1048576:=λk _=>mc (F1 L k) h2
 rw[uc (s:=(0:Int)) (λk=>(((L.take k).flatten.length:Nat):Int)) (by omega) rfl (λk hk=>by
  have hx:L[k]? =some L[k]:=aM hk;have h3:=hlen (k+1) hk;rw[eO hk,List.flatten_append,bO,List.flatten_singleton]at h3;rw[cG hx,aA,eO hk,List.flatten_append,bO,List.flatten_singleton];have e:wrap .i64 ((((L.take k).flatten.length:Nat):Int)+((L[k].length:Nat):Int))=(((L.take k).flatten.length+L[k].length:Nat):Int):=by rw[fB (by omega) (by omega)];omega
  rw[e,bS (by omega),aP]),aA,g8,Nz h2,aA]
 rw[uc (s:=([]:aL bZ)) (λk=>(L.take k).flatten) (by omega) rfl (λk hk=>by
  have hx:L[k]? =some L[k]:=aM hk;have h3:=hlen (k+1) hk;rw[eO hk,List.flatten_append,bO,List.flatten_singleton]at h3
  rw[cG hx,aA,gK (by omega),aA,eO hk,List.flatten_append,List.flatten_singleton]),aA,g8]
end
end Go.Gk
namespace Go.Gk
open Go IntKind Classical
section
variable {N:Nat}{t:aL aY}{x:cB}{a:iE}{kC:aL (aL aB)}{eU:aL (aL (aL aB))}{r:Nat->Nat}{gs:aL bM}{ofP ofB mq:aL Int}{mj:aL fN}
theorem zZ(b:mO a kC eU r gs ofP ofB mq mj){g:Nat}{y:bM}(hg:gs[g]? =some y):y.aZ.Pairwise tL/\(∀p∈y.aZ,0<=iA a p)/\∀p∈y.aZ,∀(h:Nat)z,gs[h]? =some z->p∈z.aZ->h=g:=by
 obtain⟨hd,h1,h2,h3,h4⟩:=IU b.KZ hg;have hup:=b.xT.up;refine⟨?_,λp hp=>?_,λp hp h z hz hpz=>?_⟩
 ·rw[h4,List.pairwise_map];exact List.Pairwise.filter _ hup
 ·rw[h4]at hp;obtain⟨l,hl,rfl⟩:=cX.1 hp;have:=Cu a.bX<|λx=>decide<|lI x=lI l
  rw[lq.2 ⟨l,(jC.1 hl).1,bU rfl⟩,dP]at this;exact this
 ·obtain⟨hd',k1,k2,k3,k4⟩:=IU b.KZ hz;rw[h4]at hp;rw[k4]at hpz;obtain⟨l,hl,rfl⟩:=cX.1 hp;obtain⟨l',hl',e⟩:=cX.1 hpz;rw[jC,dP]at hl hl';have:l'=l:=by
   obtain⟨i,hi,rfl⟩:=List.mem_iff_getElem.1 hl.1;obtain⟨j,hj,rfl⟩:=List.mem_iff_getElem.1 hl'.1
   rcases Nat.lt_trichotomy i j with h5|h5|h5
   ·have:=iS.1 hup i j hi hj h5;rw[e]at this;exact absurd this<|tL.irrefl _
   ·subst h5;rfl
   ·have:=iS.1 hup j i hj hi h5;rw[e]at this;exact absurd this<|tL.irrefl _
  rw[this,hl.2]at hl';have h6:=hl'.2;injection h6 with h6
  exact h6.symm
def Lq(x:cB)(ps:aL bZ):Bool:=match ps with| []=>false|p::_=>decide (0<=o8 x p)&&ps.all λq=>decide<|o8 x q=o8 x p
theorem Lr(ok:AP t x){ps:aL bZ}(h:ps≠[])(hl:ps.length<=1048576):lB N (lK x x.cF.length) ps=some (Lq x ps,lK x x.cF.length):=by
 obtain⟨p,l,rfl⟩:=List.exists_cons_of_ne_nil h;unfold lB;have h0:idx (p::l) 0=some p:=by
  have:=cG (l:=p::l) (k:=0) (x:=p) rfl;simpa using this
 obtain⟨m1,m2⟩:=EJ ok p;rw[h0,aA,m1];unfold Lq;dsimp only
 by_cases hn:0<=o8 x p
 ·rw[bU (show o8 x p>=0 from hn),aQ,m2 hn 0];have e1:dW N (p::l) (lK x x.cF.length) (o8 x p)=nB (p::l) (λq=>lM N q (lK x x.cF.length)<|o8 x p):=rfl
  rw[e1,mY (λq=> !decide (o8 x q=o8 x p)) (by omega) (λq _=>by
   obtain⟨n1,n2⟩:=EJ ok q;unfold lM;rw[n1]
   by_cases hq:0<=o8 x q
   ·rw[bU (show o8 x q>=0 from hq),ll,aP,n2 hq 0,aA];rfl
   ·rw[bS (show ¬o8 x q>=0 from hq),ln,aQ,aA];have e:o8 x q≠o8 x p:=λe=>hq<|e▸hn
    simp[e]),aA,aA,Bool.true_and]
  congr 2;rw[List.not_any_eq_all_not];simp
 ·rw[bS (show ¬o8 x p>=0 from hn),aP,aA,Bool.false_and]
def gk(ofP:aL Int)(i k:Nat):bA:=⟨min (ofP[i]?.getD 0)<|ofP[k]?.getD 0,max (ofP[i]?.getD 0)<|ofP[k]?.getD 0⟩
structure xG {κ:Type} [DecidableEq κ] (m:aL (κ×Bool)) (S:κ->Prop):Prop where
 nd:(m.map Prod.fst).Nodup
 all:∀e∈m,e.2=true
 mem:∀k,k∈m.map Prod.fst↔S k
theorem xG.get{κ:Type}[DecidableEq κ]{m:aL (κ×Bool)}{S:κ->Prop}(h:xG m S)(k:κ):dE m k false=true↔S k:=by
 rw[<-h.mem];unfold dE
 cases hf:m.find? (λp=>decide<|k=p.1)with
 |none=>
  rw[List.find?_eq_none]at hf;simp only[Bool.false_eq_true,false_iff,cX,not_exists,not_and];intro e he e1;exact hf e he (by simp[e1])
 |some e=>
  have h1:=List.mem_of_find?_eq_some hf;have h2:=List.find?_some hf;rw[dP]at h2;simp only[h.all e h1,true_iff];exact cX.2 ⟨e,h1,h2.symm⟩
theorem w9{κ ν:Type}[DecidableEq κ](k:κ)(x:ν):∀m:aL (κ×ν),(lf m k x).map Prod.fst=if k∈m.map Prod.fst then m.map Prod.fst else m.map Prod.fst++[k]
 | []=>by simp[lf]
 |p::m=>by
  unfold lf
  by_cases h:k=p.1
  ·simp[h]
  ·rw[aF h,eZ,w9 k x m];simp only[eZ,eV,h,false_or];split <;> simp
theorem xG.put{κ:Type}[DecidableEq κ]{m:aL (κ×Bool)}{S:κ->Prop}(h:xG m S)(k:κ):xG (lf m k true) (λq=>S q\/q=k):=by
 have hnd:=h.nd;refine⟨by rw[w9];grind,?_,λq=>?_⟩
 ·have:∀m:aL (κ×Bool),(∀e∈m,e.2=true)->∀e∈lf m k true,e.2=true:=by
   intro m
   induction m with
   |nil=>intro _ e he;simp[lf]at he;rw[he]
   |cons p m ih=>
    intro hm e he;unfold lf at he;split at he
    ·rcases eV.1 he with rfl|he
     ·rfl
     ·exact hm e (by simp[he])
    ·rcases eV.1 he with rfl|he
     ·exact hm _ (by simp)
     ·exact ih (λe he=>hm e (by simp[he])) e he
  exact this m h.all
 ·rw[w9,<-h.mem];split
  ·rename_i hk;exact⟨.inl,λhq=>hq.elim id λe=>e▸hk⟩
  ·simp
theorem xG.congr{κ:Type}[DecidableEq κ]{m:aL (κ×Bool)}{S S':κ->Prop}(h:xG m S)(e:∀k,S k↔S' k):xG m S':=⟨h.nd,h.all,λk=>(h.mem k).trans<|e k⟩
def HF(pcs:aL aI)(ofP:aL Int)(near:Int)(key:bA):Prop:=∃i k,lJ pcs ofP near i k=true/\key=gk ofP i k
theorem tJ{pcs:aL aI}{ofP:aL Int}{near:Int}{i k:Nat}(h:lJ pcs ofP near i k=true):i<k/\k<pcs.length/\ofP[i]? ≠ofP[k]? :=by
 unfold lJ at h
 cases hp:pcs[i]? with
 |none=>rw[hp]at h;cases h
 |some p=>
  cases hq:pcs[k]? with
  |none=>rw[hp,hq]at h;cases h
  |some q=>
   rw[hp,hq]at h;simp only[Option.elim_some,dB,dP]at h;exact⟨h.1,(bN.1 hq).1,h.2.2.1⟩
theorem Ls(b:mO a kC eU r gs ofP ofB mq mj){near:Int}(hN:nb N):
  Ok (jy (cK 0 eU).length (λ(k36:Nat)(s37:aL (bA×Bool))=>((idx (cK 0 eU) (k36:Int)).bind λx310=>(kb (λ(s315:aL (bA×Bool)×Int)=>((bif decide (s315.2<((cK 0 eU).length:Int))then((idx (cK 0 eU) s315.2).bind λx408=>some<|x408.dI==x310.dI)else some false).bind λs406=>bif s406 then((idx ofP (k36:Int)).bind λx411=>(idx ofP s315.2).bind λx413=>(idx ofP (k36:Int)).bind λx415=>(idx ofP s315.2).bind λx417=>(bif(if x413<x411 then x413 else x411) != (if x415<x417 then x417 else x415)then(bif(!(dE s315.1 (⟨(if x413<x411 then x413 else x411),(if x415<x417 then x417 else x415)⟩:bA) (false:Bool)))then((idx (cK 0 eU) s315.2).bind λx436=>(ky N x310.iU x436.iU).bind λx440=>some<|decide<|x440.gz<near)else some false)else some false).bind λs431=>(bif s431 then some (lf s315.1 (⟨(if x413<x411 then x413 else x411),(if x415<x417 then x417 else x415)⟩:bA) true)else some s315.1).bind λs443=>some<|.nx (s443,wrap .i64<|s315.2+1))else(some<|.br (s315.1,s315.2)):aU (Fl (aL (bA×Bool)×Int) Empty))) N (s37,wrap .i64<|(k36:Int)+1)).bind λo445=>o445.cs (λ(s315:aL (bA×Bool)×Int)=>some s315.1) (λr=>r.elim):aU (aL<|bA×Bool))) ([]:aL (bA×Bool)))
   (λm=>xG m (HF (cK 0 eU) ofP near)/\m.length<=4000000):=by
 have hf:=b.Ew.2;have hlp:=b.KZ.of.lp;have hup:=(Nh eU 0).1;have hpf:∀k,(hk:k<(cK 0 eU).length)->(cK 0 eU)[k].iU.length<=2000/\∀q∈(cK 0 eU)[k].iU,dR q=true:=λk hk=>by
  grind [Nb,cS]
 generalize hpcs:cK 0 eU=pcs at *;refine(WK (λi m=>xG m (λkey=>∃i' k,i'<i/\lJ pcs ofP near i' k=true/\key=gk ofP i' k)/\m.length<=i*pcs.length) (by omega) ⟨⟨by simp,by simp,λk=>by simp⟩,by simp⟩<|λi m hi⟨hS,hml⟩=>?_).mono<|λm⟨hS,hml⟩=>⟨hS.congr λkey=>?_,?_⟩
 ·have hx:pcs[i]? =some pcs[i]:=aM hi;obtain⟨gi_,hgi,_⟩:=FT b (k:=i) (by omega);refine Wu hx ?_;rw[eN (by omega)];refine V3 (Xv (n:=pcs.length) (λst=>st.2) (λk st=>i+1<=k/\xG st.1 (λkey=>(∃i' k,i'<i/\lJ pcs ofP near i' k=true/\key=gk ofP i' k)\/∃k',k'<k/\lJ pcs ofP near i k'=true/\key=gk ofP i k')/\st.1.length<=i*pcs.length+k) (Go:=λst=>xG st.1 (λkey=>∃i' k,i'<i+1/\lJ pcs ofP near i' k=true/\key=gk ofP i' k)/\st.1.length<=(i+1)*pcs.length) (Rt:=λ_=>False) ?_ ?_ (k0:=i+1) (by omega) rfl ⟨bW _,hS.congr λkey=>?_,by dsimp only;omega⟩ (by omega)) ?_
  ·rintro k⟨s,j⟩hk e⟨hik,hI,hsl⟩;dsimp only at e hI hsl ⊢;subst e;have hy:pcs[k]? =some pcs[k]:=aM hk;have hri:=hpf i hi;have hrk:=hpf k hk;obtain⟨gk_,hgk,_⟩:=FT b (k:=k) (by omega);have hmono:∀u v:Nat,(hv:v<pcs.length)->(huv:u<v)->pcs[u].dI<=pcs[v].dI:=λu v hv huv=>iS.1 hup u v (by omega) hv huv;rw[Bu hk,aQ];refine VT (x:=pcs[k].dI==pcs[i].dI) (by rw[cG hy,aA]) ?_
   cases hL:(pcs[k].dI==pcs[i].dI)with
   |false=>
    rw[aP];have hne:pcs[k].dI≠pcs[i].dI:=λe=>by rw[e,BEq.rfl]at hL;cases hL
    have h1:=hmono i k hk (by omega);have hno:∀j,k<=j->lJ pcs ofP near i j=false:=λj h2=>by
     cases hs:lJ pcs ofP near i j with
     |false=>rfl
     |true=>
      have hj:=(tJ hs).2.1;have h4:pcs[k].dI<=pcs[j].dI:=by
       by_cases e:k=j
       ·subst e;exact Int.le_refl _
       ·exact hmono k j hj (by omega)
      unfold lJ at hs;rw[hx,aM hj,Option.elim_some,Option.elim_some,show(pcs[j].dI==pcs[i].dI)=false by rw[beq_eq_false_iff_ne];omega,Bool.false_and,Bool.and_false]at hs
      cases hs
    refine WG ⟨hI.congr λkey=>?_,by rw[Nat.succ_mul];dsimp only;omega⟩;constructor
    ·rintro(⟨i',k',h1,h2⟩|⟨k',h1,h2,h3⟩)
     ·exact⟨i',k',by omega,h2⟩
     ·exact⟨i,k',by omega,h2,h3⟩
    ·rintro⟨i',k',h1,h2,h3⟩
     by_cases e:i'=i
     ·subst e;refine .inr ⟨k',?_,h2,h3⟩
      rcases Nat.lt_or_ge k' k with h|h
      ·exact h
      ·rw[hno k' h]at h2;cases h2
     ·exact .inl ⟨i',k',by omega,h2,h3⟩
   |true=>
    rw[aQ,cG hgi,aA,cG hgk,aA,aA,aA,IB,IA];have eg:gk ofP i k= ⟨((min gi_ gk_:Nat):Int),((max gi_ gk_:Nat):Int)⟩:=by
     unfold gk;rw[hgi,hgk];show(⟨min (gi_:Int) (gk_:Int),max (gi_:Int) (gk_:Int)⟩:bA)=_;congr 1 <;> omega
    obtain⟨gp,g1,g2⟩:=Ng (N:=N) (a:=pcs[i].iU) (b:=pcs[k].iU) (by omega) (by omega) hri.2 hrk.2;have hsP:lJ pcs ofP near i k=(decide (gi_≠gk_)&&decide (gp.gz<near)):=by
     unfold lJ;rw[hx,hy,Option.elim_some,Option.elim_some,hL,bU (show i<k by omega),Bool.true_and,Bool.true_and,hgi,hgk,g2];congr 1
     by_cases e:gi_=gk_
     ·subst e;simp
     ·have:some (gi_:Int)≠some (gk_:Int):=λh=>by injection h with h;omega
      simp[e,this]
    have hstep:∃c:Bool,(bif((min gi_ gk_:Nat):Int) != ((max gi_ gk_:Nat):Int)then(bif(!(dE s (⟨((min gi_ gk_:Nat):Int),((max gi_ gk_:Nat):Int)⟩:bA) (false:Bool)))then((idx pcs ((k:Nat):Int)).bind λx436=>(ky N pcs[i].iU x436.iU).bind λx440=>some<|decide<|x440.gz<near)else some false)else some false)=some c/\
      (c=true->lJ pcs ofP near i k=true)/\(c=false->lJ pcs ofP near i k=true->dE s (gk ofP i k) false=true):=by
     by_cases e:gi_=gk_
     ·refine⟨false,?_,by simp,λ_ h=>?_⟩
      ·rw[show(((min gi_ gk_:Nat):Int) != ((max gi_ gk_:Nat):Int))=false by rw[bne_eq_false_iff_eq];omega,aP]
      ·rw[hsP]at h;simp[e]at h
     ·rw[show(((min gi_ gk_:Nat):Int) != ((max gi_ gk_:Nat):Int))=true by rw[bne_iff_ne];omega,aQ,<-eg]
      cases hm:dE s (gk ofP i k) false with
      |true=>exact⟨false,rfl,by simp,λ_ _=>rfl⟩
      |false=>
       refine⟨decide<|gp.gz<near,by rw[ln,aQ,cG hy,aA,g1,aA],λh=>by rw[hsP,h];simp[e],λh h'=>?_⟩;rw[hsP,h]at h';simp at h'
    obtain⟨c,hc,hc1,hc2⟩:=hstep;rw[hc,aA,<-eg];have hkey:∀m:aL (bA×Bool),xG m (λkey=>((∃i' k,i'<i/\lJ pcs ofP near i' k=true/\key=gk ofP i' k)\/∃k',k'<k/\lJ pcs ofP near i k'=true/\key=gk ofP i k')\/(lJ pcs ofP near i k=true/\key=gk ofP i k))->
      xG m (λkey=>(∃i' k,i'<i/\lJ pcs ofP near i' k=true/\key=gk ofP i' k)\/∃k',k'<k+1/\lJ pcs ofP near i k'=true/\key=gk ofP i k'):=λm hm=>hm.congr λkey=>by
     constructor
     ·rintro((h|⟨k',h1,h2⟩)|⟨h1,h2⟩)
      ·exact .inl h
      ·exact .inr ⟨k',by omega,h2⟩
      ·exact .inr ⟨k,by omega,h1,h2⟩
     ·rintro(h|⟨k',h1,h2,h3⟩)
      ·exact .inl<|.inl h
      ·by_cases e:k'=k
       ·subst e;exact .inr ⟨h2,h3⟩
       ·exact .inl<|.inr ⟨k',by omega,h2,h3⟩
    cases c with
    |true=>
     rw[aQ,aA];refine Wz ⟨eN (by omega),by omega,hkey _<|(hI.put<|gk ofP i k).congr λkey=>?_,?_⟩
     ·simp[hc1 rfl]
     ·dsimp only;have:=congrArg List.length<|w9 (gk ofP i k) true s
      rw[iM]at this;split at this
      ·rw[iM]at this;omega
      ·simp at this;omega
    |false=>
     rw[aP,aA];refine Wz ⟨eN (by omega),by omega,hkey _<|hI.congr λkey=>?_,by dsimp only;omega⟩;constructor
     ·exact .inl
     ·rintro(h|⟨h1,h2⟩)
      ·exact h
      ·subst h2;exact(hI.get _).1<|hc2 rfl h1
  ·rintro⟨s,j⟩e⟨_,hI,hsl⟩;dsimp only at e hI hsl ⊢;subst e;rw[FK,aP];refine VT (x:=false) rfl ?_;rw[aP];refine WG ⟨hI.congr λkey=>?_,by rw[Nat.succ_mul];exact hsl⟩;constructor
   ·rintro(⟨i',k',h1,h2⟩|⟨k',h1,h2,h3⟩)
    ·exact⟨i',k',by omega,h2⟩
    ·exact⟨i,k',by omega,h2,h3⟩
   ·rintro⟨i',k',h1,h2,h3⟩
    by_cases e:i'=i
    ·subst e;exact .inr ⟨k',(tJ h2).2.1,h2,h3⟩
    ·exact .inl ⟨i',k',by omega,h2,h3⟩
  ·constructor
   ·exact .inl
   ·rintro(h|⟨k',h1,h2,h3⟩)
    ·exact h
    ·have:=(tJ h2).1;omega
  ·intro o ho;exact WH ho (λst hst=>VV hst)<|λr hr=>hr.elim
 ·constructor
  ·rintro⟨i,k,_,h⟩;exact⟨i,k,h⟩
  ·rintro⟨i,k,h1,h2⟩;exact⟨i,k,by have:=tJ h1;omega,h1,h2⟩
 ·exact mc hml<|Nat.mul_le_mul hf hf
end
def PB(p q:aL bZ):Test:=if fL (gN q 0) (gN p 0)<0 then⟨gN q 0,gN p 0,false⟩else⟨gN p 0,gN q 0,false⟩
def Kf(x:cB)(gs:aL bM)(key:bA):aU Test:=match gs[key.e0.toNat]?,gs[key.e1.toNat]? with
 |some p,some q=>if p.aZ= []\/q.aZ= []\/Lq x (p.aZ++q.aZ)=true then none else some (PB p.aZ q.aZ)
 |_,_=>none
section
variable {N:Nat}{t:aL aY}{x:cB}{a:iE}{kC:aL (aL aB)}{eU:aL (aL (aL aB))}{r:Nat->Nat}{gs:aL bM}{ofP ofB mq:aL Int}{mj:aL fN}
theorem HG{l:aL bZ}(h:l≠[]):idx l 0=some (gN l 0)/\gN l 0∈l:=by
 obtain⟨p,l,rfl⟩:=List.exists_cons_of_ne_nil h;have:=cG (l:=p::l) (k:=0) (x:=p) rfl;exact⟨(show idx (p::l) ((0:Nat):Int)=some (gN (p::l) 0)from this),by simp[gN]⟩
structure NA (gs:aL bM) (key:bA) (g h:Nat) (p q:bM):Prop where
 e0:key.e0=(g:Int)
 e1:key.e1=(h:Int)
 lt:g<h
 p:gs[g]? =some p
 q:gs[h]? =some q
theorem HH(b:mO a kC eU r gs ofP ofB mq mj){near:Int}{key:bA}(h:HF (cK 0 eU) ofP near key):∃g k p q,NA gs key g k p q:=by
 obtain⟨i,k,h1,rfl⟩:=h;obtain⟨h2,h3,h4⟩:=tJ h1;have hlp:=b.KZ.of.lp;obtain⟨gi,a1,a2⟩:=FT b (k:=i) (by omega);obtain⟨gj,b1,b2⟩:=FT b (k:=k) (by omega);have hne:gi≠gj:=λe=>h4 (by rw[a1,b1,e]);refine⟨min gi gj,max gi gj,gs[min gi gj]'(by omega),gs[max gi gj]'(by omega),?_,?_,by omega,aM _,aM _⟩
 ·unfold gk;rw[a1,b1];show min (gi:Int) (gj:Int)=_;omega
 ·unfold gk;rw[a1,b1];show max (gi:Int) (gj:Int)=_;omega
theorem BR{key:bA}{g k:Nat}{p q:bM}(h:NA gs key g k p q):Kf x gs key=if p.aZ= []\/q.aZ= []\/Lq x (p.aZ++q.aZ)=true then none else some (PB p.aZ q.aZ):=by
 unfold Kf;rw[h.e0,h.e1,cR,cR,h.p,h.q]
theorem NB(p q:aL bZ):PB p q= ⟨gN p 0,gN q 0,false⟩\/PB p q= ⟨gN q 0,gN p 0,false⟩:=by
 unfold PB;split
 ·exact .inr rfl
 ·exact .inl rfl
theorem OX(b:mO a kC eU r gs ofP ofB mq mj){k1 k2:bA}{g1 h1 g2 h2:Nat}{p1 q1 p2 q2:bM}(K1:NA gs k1 g1 h1 p1 q1)(K2:NA gs k2 g2 h2 p2 q2){u v:Test}(e1:Kf x gs k1=some u)(e2:Kf x gs k2=some v)(hA:u.A=v.A)(hB:u.B=v.B):k1=k2:=by
 rw[BR K1]at e1;rw[BR K2]at e2;split at e1
 ·cases e1
 rename_i n1;split at e2
 ·cases e2
 rename_i n2;injection e1 with e1
 injection e2 with e2
 simp only[not_or]at n1 n2;have m1:=(HG n1.1).2;have m2:=(HG n1.2.1).2;have m3:=(HG n2.1).2;have m4:=(HG n2.2.1).2;have u1:=(zZ b K1.p).2.2 _ m1;have u2:=(zZ b K1.q).2.2 _ m2;have l1:=K1.lt;have l2:=K2.lt;have hk:g2=g1/\h2=h1:=by
  rcases NB p1.aZ q1.aZ with f1|f1 <;> rcases NB p2.aZ q2.aZ with f2|f2 <;> rw[f1]at e1 <;> rw[f2]at e2 <;> subst e1 <;> subst e2 <;> dsimp only at hA hB
  ·exact⟨u1 g2 _ K2.p<|hA▸m3,u2 h2 _ K2.q<|hB▸m4⟩
  ·have a1:=u1 h2 _ K2.q<|hA▸m4
   have a2:=u2 g2 _ K2.p<|hB▸m3
   omega
  ·have a1:=u2 g2 _ K2.p<|hA▸m3
   have a2:=u1 h2 _ K2.q<|hB▸m4
   omega
  ·exact⟨u1 g2 _ K2.p<|hB▸m3,u2 h2 _ K2.q<|hA▸m4⟩
 have q1:=K1.e0;have q2:=K1.e1;have q3:=K2.e0;have q4:=K2.e1;rw[hk.1]at q3;rw[hk.2]at q4
 cases k1;cases k2
 dsimp only at q1 q2 q3 q4;rw[q1,q2,q3,q4]
theorem EL{l:aL Test}(h1:l.Pairwise λu v=>¬va v u)(h2:l.Pairwise λu v=>¬(u.A=v.A/\u.B=v.B)):l.Pairwise va:=(h1.and h2).imp λ{u v}⟨p,q⟩=>by
 rcases va.U0 u v with h|h|h
 ·exact h
 ·exact absurd h q
 ·exact absurd h p
theorem Lt{l m:aL Test}(hl:l.Pairwise va)(hm:m.Pairwise va)(hp:l.Perm m):l=m:=
 List.Perm.eq_of_pairwise (le:=va) (λu v _ _ h h'=>absurd (h.trans h')<|va.Vh _) hl hm hp
theorem HI{l m:aL Test}(hp:l.Perm m)(h:m.Pairwise λu v=>¬(u.A=v.A/\u.B=v.B)):l.Pairwise λu v=>¬(u.A=v.A/\u.B=v.B):=
 hp.symm.pairwise h (λ{u v}h h'=>h ⟨h'.1.symm,h'.2.symm⟩)
theorem Lu(hbx:bk x<=1048576)(ok:AP t x)(b:mO a kC eU r gs ofP ofB mq mj)(near:Int)(hN:nb N):
  ∃m K,kz N x (cK 0 eU) gs ofP near=some m/\xG K (HF (cK 0 eU) ofP near)/\m.Perm (K.filterMap λe=>Kf x gs e.1)/\m.Pairwise va/\m.length<=4000000:=by
 have key:Ok (kz N x (cK 0 eU) gs ofP near) (λm=>∃K,xG K (HF (cK 0 eU) ofP near)/\m.Perm (K.filterMap λe=>Kf x gs e.1)/\m.Pairwise va/\m.length<=4000000):=by
  unfold kz;rw[OV hbx,aA];refine V3 (Ls b hN)<|λK⟨hK,hKl⟩=>?_
  have hkey:∀e∈K,∃g k p q,NA gs e.1 g k p q:=λe he=>HH b<|(hK.mem e.1).1<|cX.2 ⟨e,he,rfl⟩
  have hknd:(K.filterMap λe=>Kf x gs e.1).Pairwise λu v=>¬(u.A=v.A/\u.B=v.B):=by
   rw[List.pairwise_filterMap];have hnd:=hK.nd;unfold List.Nodup at hnd;rw[List.pairwise_map]at hnd;refine List.Pairwise.imp_of_mem (λ{e e'}he he' hne u hu v hv⟨hA,hB⟩=>?_) hnd;obtain⟨g1,h1,p1,q1,K1⟩:=hkey e he;obtain⟨g2,h2,p2,q2,K2⟩:=hkey e' he';exact hne<|OX b K1 K2 hu hv hA hB
  have hfl:∀l:aL (bA×Bool),(l.filterMap λe=>Kf x gs e.1).length<=l.length:=λl=>List.length_filterMap_le _ _;have hl0:=hfl K;obtain⟨m0,s1,s2,s3⟩:=zY (N:=N) (l:=K.filterMap λe=>Kf x gs e.1) (by omega);have hm0:m0.Pairwise va:=EL s3<|HI s2 hknd
  refine YS (x:=m0) (N4 λl hl=>?_) ⟨K,hK,s2,hm0,by rw[s2.length_eq];omega⟩;have hll:=hl.length_eq;have hfold:∀(l:aL (bA×Bool))(out:aL Test),(∀e∈l,e∈K)->out.length+l.length<=4000000->
    vm (λ(x447:bA×Bool)(s450:aL (bZ×Int)×aL Test)=>((idx gs x447.1.e0).bind λx562=>(idx gs x447.1.e1).bind λx566=>(bif(x562.aZ.length:Int)==0 then some (s450.1,true)else(bif(x566.aZ.length:Int)==0 then some (s450.1,true)else((iu N ([x562.aZ,x566.aZ]:aL (aL bZ))).bind λx581=>(lB N s450.1 x581).bind λx583=>some (x583.2,x583.1)))).bind λs577=>bif s577.2 then some (.nx (s577.1,s450.2))else((idx x562.aZ 0).bind λx584=>(idx x566.aZ 0).bind λx587=>(cO N ((⟨x584,x587,false⟩:Test).B)<|(⟨x584,x587,false⟩:Test).A).bind λx600=>(bif x600<0 then some {{(⟨x584,x587,false⟩:Test)with A:=(⟨x584,x587,false⟩:Test).B}with B:=(⟨x584,x587,false⟩:Test).A}else some (⟨x584,x587,false⟩:Test)).bind λs603=>(app 72 s450.2 ([s603]:aL Test)).bind λx608=>some<|.nx (s577.1,x608)):aU (Fl (aL (bZ×Int)×aL Test) Empty))) l (lK x x.cF.length,out)=some (.go (lK x x.cF.length,out++l.filterMap λe=>Kf x gs e.1)):=by
   intro l
   induction l with
   |nil=>intro out _ _;simp[vm]
   |cons e l ih=>
    intro out hm ho;simp only[fQ]at ho;obtain⟨g,k,p,q,hk⟩:=hkey e<|hm e (by simp)
    have hap:=BR (x:=x) hk;have pl:=J6 b.KZ hk.p;have ql:=J6 b.KZ hk.q;have hfl:=b.xT.Ew;have ih2:=λout ho=>ih out (λe he=>hm e (by simp[he])) ho;unfold vm;rw[hk.e0,hk.e1,cG hk.p,aA,cG hk.q,aA]
    by_cases h1:p.aZ= []
    ·rw[h1,show((([]:aL bZ).length:Int)==0)=true from rfl,aQ,aA,aQ,aA];dsimp only;rw[ih2 out (by omega),List.filterMap_cons,hap,aH<|.inl h1]
    have h1l:0<p.aZ.length:=List.length_pos_iff.2 h1;rw[show((p.aZ.length:Int)==0)=false by rw[beq_eq_false_iff_ne];omega,aP]
    by_cases h2:q.aZ= []
    ·rw[h2,show((([]:aL bZ).length:Int)==0)=true from rfl,aQ,aA,aQ,aA];dsimp only;rw[ih2 out (by omega),List.filterMap_cons,hap,aH<|.inr<|.inl h2]
    have h2l:0<q.aZ.length:=List.length_pos_iff.2 h2
    rw[show((q.aZ.length:Int)==0)=false by rw[beq_eq_false_iff_ne];omega,aP,I6 (by simp) (by simp;omega),aA,show([p.aZ,q.aZ]:aL (aL bZ)).flatten=p.aZ++q.aZ by simp,
     Lr ok (by simp[h1]) (by rw[bO];omega),aA,aA]
    dsimp only
    cases h3:Lq x (p.aZ++q.aZ)with
    |true=>
     rw[aQ,aA];dsimp only;rw[ih2 out (by omega),List.filterMap_cons,hap,aH<|.inr<|.inr h3]
    |false=>
     have hn:¬(p.aZ= []\/q.aZ= []\/Lq x (p.aZ++q.aZ)=true):=by simp[h1,h2,h3]
     rw[aP,(HG h1).1,aA,(HG h2).1,aA];rw[show cO N (gN q.aZ 0) (gN p.aZ 0)=some (fL (gN q.aZ 0)<|gN p.aZ 0)from lR _ _,aA];have ha:(bif fL (gN q.aZ 0) (gN p.aZ 0)<0 then some (⟨gN q.aZ 0,gN p.aZ 0,false⟩:Test)else some (⟨gN p.aZ 0,gN q.aZ 0,false⟩:Test))=some (PB p.aZ q.aZ):=by
      unfold PB
      by_cases h4:fL (gN q.aZ 0) (gN p.aZ 0)<0
      ·rw[bU h4,aQ,aH h4]
      ·rw[bS h4,aP,aF h4]
     rw[ha,aA,gK (by simp only[fQ,List.length_nil];omega),aA,aA];dsimp only;rw[ih2 _ (by simp only[bO,fQ,List.length_nil];omega),List.filterMap_cons,hap,aF hn];simp
  rw[hfold l [] (λe he=>hl.mem_iff.1 he) (by simp;omega),aA];unfold Fo.cs;dsimp only;rw[List.nil_append];have hpl:(l.filterMap λe=>Kf x gs e.1).Perm (K.filterMap λe=>Kf x gs e.1):=hl.filterMap _;have:=hfl l;obtain⟨m,t1,t2,t3⟩:=zY (N:=N) (l:=l.filterMap λe=>Kf x gs e.1) (by omega);rw[t1,aA];congr 1;exact Lt (EL t3<|HI (t2.trans hpl) hknd) hm0<|(t2.trans hpl).trans s2.symm
 obtain⟨m,h1,K,h2⟩:=key;exact⟨m,K,h1,h2⟩
theorem NC{n:Nat}(h:n<=1000000000):gV N (n:Int)=some []:=by
 unfold gV;have w1:wrap .i64 (((0:Nat):Int) -((0:Nat):Int))=0:=by decide
 have w2:wrap .i64 ((n:Int) - 0)=(n:Int):=by rw[IntKind.wrap_i64];omega
 rw[bS (by omega),aP,w1,w2]
 by_cases hn:n=0
 ·subst hn;rfl
 ·rw[bU (by omega),aQ];unfold HW;rw[aH ⟨by omega,by omega⟩,aA];have:=rI (List.replicate n (⟨⟨⟨[]⟩,⟨[]⟩⟩,⟨⟨[]⟩,⟨[]⟩⟩,false⟩:Test)) 0<|ox _
  rw[cR,this];rfl
theorem I7{l m:aL Test}(h:l.length+m.length<=1000000000):jZ N [l,m]=some (l++m):=by
 unfold jZ;have i0:idx [l,m] ((0:Nat):Int)=some l:=cG rfl;have i1:idx [l,m] ((1:Nat):Int)=some m:=cG rfl
 rw[uc (s:=(0:Int)) (m:=[l,m].length) (λk=>if k=0 then 0 else if k=1 then(l.length:Int)else((l.length+m.length:Nat):Int)) (by simp) rfl (λk hk=>by
  have hk2:k=0\/k=1:=by simp only[fQ,List.length_nil]at hk;omega
  rcases hk2 with rfl|rfl
  ·rw[i0,aA,aH rfl,Int.zero_add,qj (by omega),bS (by omega),aP];rfl
  ·rw[i1,aA];show(bif decide (wrap .i64 ((l.length:Int)+(m.length:Int))<0)then none else some (wrap .i64<|(l.length:Int)+(m.length:Int)))=_
   rw[wrap_add (by omega),bS (by omega),aP];rfl),aA]
 show(gV N ((l.length+m.length:Nat):Int)).bind _=_;rw[NC h,aA]
 rw[uc (s:=([]:aL Test)) (m:=[l,m].length) (λk=>if k=0 then []else if k=1 then l else l++m) (by simp) rfl (λk hk=>by
  have hk2:k=0\/k=1:=by simp only[fQ,List.length_nil]at hk;omega
  rcases hk2 with rfl|rfl
  ·rw[i0,aA,aH rfl,gK (by simp only[List.length_nil];omega),aA];simp
  ·rw[i1,aA];show(app 72 l m).bind _=_
   rw[gK (by omega),aA];rfl),aA]
 rfl
end
section
variable {N:Nat}{t:aL aY}{x:cB}{a:iE}
inductive U1 (N:Nat) (t:aL aY) (x:cB) (a:iE):Prop
 |err (e:Int) (he:e≠0) (h:eK N t x a=some (none,e)) (h1:l5 t x=e\/l5 t x=0/\gE N a=some (none,e))
 |ok {kC:aL (aL aB)} {eU:aL (aL (aL aB))} {r:Nat->Nat} {gs:aL bM} {ofP ofB mq:aL Int} {mj:aL fN} (h0:l5 t x=0) (b:mO a kC eU r gs ofP ofB mq mj)
  (h1:gE N a=some (some (a.aS,a.dU,a.bQ,a.bX,kC,cK 0 eU,lj a.bQ<|cK 0 eU,gs,ofP,ofB,mq,mj),0))
  (h:eK N t x a=some (some (a.aS,a.dU,a.bQ,a.bX,kC,cK 0 eU,lj a.bQ<|cK 0 eU,gs,ofP,ofB,mq,mj),0))
theorem U2(hbt:bk t<=1048576)(hbx:bk x<=1048576)(ha:bk a<=1048576)(hN:nb N):U1 N t x a:=by
 have hc:=wC (N:=N) hbt hbx (by omega)
 by_cases h0:l5 t x=0
 ·have hu:eK N t x a=(gE N a).bind λx36=>B6 x36.1 (some (none,x36.2)) (λy38=>some (some (y38.1,y38.2.1,y38.2.2.1,y38.2.2.2.1,y38.2.2.2.2.1,y38.2.2.2.2.2.1,y38.2.2.2.2.2.2.1,y38.2.2.2.2.2.2.2.1,y38.2.2.2.2.2.2.2.2.1,y38.2.2.2.2.2.2.2.2.2.1,y38.2.2.2.2.2.2.2.2.2.2.1,y38.2.2.2.2.2.2.2.2.2.2.2),x36.2)):=by
   unfold eK;rw[hc,aA,h0,show((0:Int) != 0)=false from rfl,aP]
  rcases opened (N:=N) (Hl ha) hN with⟨e,he,h⟩|⟨b,h⟩
  ·refine .err e he ?_<|.inr ⟨h0,h⟩
   rw[hu,h,aA];rfl
  ·refine .ok h0 b h ?_;rw[hu,h,aA];rfl
 ·refine .err _ h0 ?_<|.inl rfl
  unfold eK;rw[hc,aA,show(l5 t x != 0)=true by simpa using h0,aQ]
theorem EM(near:Int):lz N near 0 100000=some (decide (near>=0)&&decide (near<=100000)):=rfl
def HJ(l:aL Test):aL Test×Int:=if 2000<l.length then([],2)else(l,0)
theorem HK(l:aL Test):nT N l=some (HJ l):=by
 unfold nT HJ
 by_cases h:2000<l.length
 ·rw[bU (show(l.length:Int)>2000 by omega),aQ,aH h]
 ·rw[bS (show ¬(l.length:Int)>2000 by omega),aP,aF h]
theorem U3{e:Int}(he:e≠0):(e != 0)=true:=by simpa using he
theorem ND{e near:Int}(he:e≠0)(h:eK N t x a=some (none,e)):eW N t x a near=some (none,e):=by
 unfold eW;rw[h,aA];simp only[B6,U3 he,aQ]
theorem Ds{e near:Int}(he:e≠0)(h:eW N t x a near=some (none,e)):kA N t x a near=some ([],e):=by
 unfold kA;rw[h,aA];simp only[B6,U3 he,aQ]
section
variable {kC:aL (aL aB)}{eU:aL (aL (aL aB))}{r:Nat->Nat}{gs:aL bM}{ofP ofB mq:aL Int}{mj:aL fN}
theorem NF(h:eK N t x a=some (some (a.aS,a.dU,a.bQ,a.bX,kC,cK 0 eU,lj a.bQ<|cK 0 eU,gs,ofP,ofB,mq,mj),0)){l:aL Test}(hl:jH N x a=some l):pV N t x a=some (HJ l):=by
 unfold pV;rw[h,aA];simp only[B6,bne_self_eq_false,aP];rw[hl,aA,HK,aA]
theorem NG{near:Int}(h:eK N t x a=some (some (a.aS,a.dU,a.bQ,a.bX,kC,cK 0 eU,lj a.bQ<|cK 0 eU,gs,ofP,ofB,mq,mj),0))(hn:¬(0<=near/\near<=100000)):eW N t x a near=some (none,1):=by
 unfold eW;rw[h,aA];simp only[B6,bne_self_eq_false,aP];rw[EM,aA,show(decide (near>=0)&&decide (near<=100000))=false by rw[Bool.and_eq_false_iff,decide_eq_false_iff_not,decide_eq_false_iff_not];omega,ln,aQ]
theorem OY{near:Int}(h:eK N t x a=some (some (a.aS,a.dU,a.bQ,a.bX,kC,cK 0 eU,lj a.bQ<|cK 0 eU,gs,ofP,ofB,mq,mj),0))(hn:0<=near/\near<=100000):eW N t x a near=some (some (a.aS,a.dU,a.bQ,a.bX,kC,cK 0 eU,lj a.bQ<|cK 0 eU,gs,ofP,ofB,mq,mj),0):=by
 unfold eW;rw[h,aA];simp only[B6,bne_self_eq_false,aP];rw[EM,aA,show(decide (near>=0)&&decide (near<=100000))=true by rw[dB,dP,dP];exact hn,ll,aP]
theorem Lv{near:Int}(h:eW N t x a near=some (some (a.aS,a.dU,a.bQ,a.bX,kC,cK 0 eU,lj a.bQ<|cK 0 eU,gs,ofP,ofB,mq,mj),0)){l:aL Test}(hl:kz N x (cK 0 eU) gs ofP near=some l):oI N t x a near=some (HJ l):=by
 unfold oI;rw[h,aA];simp only[B6,bne_self_eq_false,aP];rw[hl,aA,HK,aA]
noncomputable def AQ(l:aL Test):Bool:=decide (∃i,∃u v,l[i]? =some u/\l[i+1]? =some v/\u.A=v.A/\u.B=v.B)
theorem I8{l:aL Test}(hl:l.length<=2000)(hN:nb N):
  (kb (λ(s75:Int)=>(bif decide (s75<(l.length:Int))then((idx l s75).bind λx86=>(idx l<|wrap .i64<|s75 - 1).bind λx88=>(dC N x86 x88).bind λx90=>bif x90==0 then some (.rt (([]:aL Test),12))else some (.nx<|wrap .i64<|s75+1))else(some<|.br s75):aU (Fl Int<|aL Test×Int))) N 1).bind (λ(o91:Fo Int (aL Test×Int))=>o91.cs (λ(s75:Int)=>some (l,0))<|λr=>some r)=some (if AQ l=true then([],12)else(l,0)):=by
 have hz:∀u v:Test,i6 u v=0↔u.A=v.A/\u.B=v.B:=λu v=>by
  unfold i6
  by_cases h:fL u.A v.A=0
  ·rw[aF (by simpa using h),iz,iz.1 h];simp
  ·rw[aH h];constructor
   ·exact λh'=>absurd h' h
   ·exact λh'=>iz.2 h'.1
 refine W9 ?_
 by_cases h0:l.length=0
 ·have:l= []:=List.length_eq_zero_iff.1 h0;subst this
  refine V3 (P:=NL (λ_=>True) (λ_=>False)) (WS (λs=>s=1) (λ_=>0) (λs hs=>by
   subst hs;rw[show decide ((1:Int)<((([]:aL Test).length:Nat):Int))=false from rfl,aP]
   exact WG trivial) rfl (by omega)) (λo ho=>WH ho (λ_ _=>VV ?_) (λr h=>h.elim))
  rw[aF];unfold AQ;simp
 ·refine V3 (P:=NL (λ_=>AQ l=false)<|λr=>AQ l=true/\r=([],12)) (Xv (n:=l.length) (λs=>s) (λk _=>1<=k/\∀i u v,i+1<k->l[i]? =some u->l[i+1]? =some v->¬(u.A=v.A/\u.B=v.B)) ?_ ?_ (k0:=1) (by omega) rfl ⟨bW _,λi u v h=>by omega⟩ (by omega))<|λo ho=>WH ho (λ_ h=>VV (by rw[h];rfl))<|λr h=>VV (by rw[h.1,h.2];rfl)
  ·rintro k s hk e⟨h1,hI⟩;subst e;have hx:l[k]? =some l[k]:=aM hk;have hy:l[k - 1]? =some l[k - 1]:=aM (by omega);rw[Bu hk,aQ,cG hx,aA,wv (by omega) (by omega),cG hy,aA,qG,aA]
   by_cases hc:i6 l[k] l[k - 1]=0
   ·rw[hc,show((0:Int)==0)=true from rfl,aQ];have:=(hz _ _).1 hc;refine Xu ⟨bU ⟨k - 1,_,_,hy,by rw[show k - 1+1=k by omega];exact hx,this.1.symm,this.2.symm⟩,rfl⟩
   ·rw[show(i6 l[k] l[k - 1]==0)=false by simpa using hc,aP];refine Wz ⟨eN (by omega),by omega,λi u v hi hu hv hAB=>?_⟩
    by_cases e:i+1=k
    ·subst e;rw[hx]at hv;injection hv with hv
     have e2:l[i+1 - 1]? =some u:=by rw[Nat.add_sub_cancel];exact hu
     rw[hy]at e2;injection e2 with e2
     refine hc<|(hz _ _).2 ?_
     rw[hv,e2];exact⟨hAB.1.symm,hAB.2.symm⟩
    ·exact hI i u v (by omega) hu hv hAB
  ·rintro s e⟨h1,hI⟩;subst e;rw[FK,aP];refine WG<|bS ?_
   rintro⟨i,u,v,hu,hv,hAB⟩;exact hI i u v (bN.1 hv).1 hu hv hAB
theorem Lw{near:Int}(h:eW N t x a near=some (some (a.aS,a.dU,a.bQ,a.bX,kC,cK 0 eU,lj a.bQ<|cK 0 eU,gs,ofP,ofB,mq,mj),0)){l m:aL Test}(hl:jH N x a=some l)(hm:kz N x (cK 0 eU) gs ofP near=some m)(hll:l.length+m.length<=1000000000)(hN:nb N):
  ∃o,o.Perm (l++m)/\o.Pairwise (λu v=>¬va v u)/\kA N t x a near=some (if 2000<l.length+m.length then([],2)else if AQ o=true then([],12)else(o,0)):=by
 obtain⟨o,o1,o2,o3⟩:=zY (N:=N) (l:=l++m) (by rw[bO];omega);have hol:=o2.length_eq;rw[bO]at hol;refine⟨o,o2,o3,?_⟩;unfold kA;rw[h,aA];simp only[B6,bne_self_eq_false,aP];have hm':lC N x (cK 0 eU) gs ofP near=some m:=hm;rw[hl,aA,hm',aA,I7 hll,aA];unfold pM;rw[bO]
 by_cases h2:2000<l.length+m.length
 ·rw[bU (show((l.length+m.length:Nat):Int)>2000 by omega),aQ,aA,aH h2];rfl
 ·rw[bS (show ¬((l.length+m.length:Nat):Int)>2000 by omega),aP,aA,aF h2];simp only[bne_self_eq_false,aP];rw[o1,aA,I8 (by omega) hN]
end
theorem Lx{p q:bZ}(h:uH p q=true):tL p q:=by
 unfold uH at h;rw[ij,dB,ud]at h;exact h
theorem I9{u:Test}(ok:AP t x)(h:u∈Dq x a):EG a u/\u.Joined=true:=by
 unfold Dq at h;obtain⟨n,hn,hu⟩:=List.mem_flatMap.1 h;unfold Dp at hu;obtain⟨e,he,rfl⟩:=cX.1 hu;obtain⟨h1,h2⟩:=Lm he;have m1:=yK.1<|EK (L:=iB a n.aZ) (i:=e.1) (by omega)
 have m2:=yK.1<|EK (L:=iB a n.aZ) (i:=e.2) (by omega)
 refine⟨⟨m1.2,m2.2,?_⟩,rfl⟩;have hup:(iB a n.aZ).Pairwise tL:=by
  unfold iB;refine List.Pairwise.filter _ ?_;rw[iS];intro i j hi hj hij;exact Lx<|ok.QG n hn i j _ _ hij (aM hi)<|aM hj
 have:=iS.1 hup e.1 e.2 (by omega) h2 h1;unfold I3 gN;rw[aM (show e.1<(iB a n.aZ).length by omega),aM h2];exact this
theorem QH{kC:aL (aL aB)}{eU:aL (aL<|aL aB)}{r:Nat->Nat}{gs:aL bM}{ofP ofB mq:aL Int}{mj:aL fN}(b:mO a kC eU r gs ofP ofB mq mj){near:Int}{key:bA}(hk:HF (cK 0 eU) ofP near key){u:Test}(h:Kf x gs key=some u):EG a u/\u.Joined=false:=by
 obtain⟨g,k,p,q,K⟩:=HH b hk;rw[BR K]at h;split at h
 ·cases h
 rename_i hn;simp only[not_or]at hn;injection h with h
 subst h;have m1:=(HG hn.1).2;have m2:=(HG hn.2.1).2;have a1:=(zZ b K.p).2.1 _ m1;have a2:=(zZ b K.q).2.1 _ m2;have hne:gN p.aZ 0≠gN q.aZ 0:=λe=>by
  have:=(zZ b K.p).2.2 _ m1 k q K.q<|e▸m2
  have:=K.lt;omega
 unfold PB
 by_cases hc:fL (gN q.aZ 0) (gN p.aZ 0)<0
 ·rw[aH hc];exact⟨⟨a2,a1,pH.1 hc⟩,rfl⟩
 ·rw[aF hc];refine⟨⟨a1,a2,?_⟩,rfl⟩
  rcases tL.total (gN p.aZ 0) (gN q.aZ 0)with h|h|h
  ·exact h
  ·exact absurd h hne
  ·exact absurd (pH.2 h) hc
theorem uZ{near:Int}(hbt:bk t<=1048576)(hbx:bk x<=1048576)(ha:bk a<=1048576)(_hn:bk near<=1048576)(hN:nb N):dO N t x a near=some true:=by
 have aw:=OK hN;have bad:∀{e:Int},e≠0->kA N t x a near=some ([],e)->dO N t x a near=some true:=λ{e}he h=>by
  unfold dO;rw[h,aA];simp only[U3 he,aQ,aw,aA];rfl
 rcases U2 (N:=N) hbt hbx ha hN with⟨e,he,h,_⟩|⟨h0,b,h1,h⟩
 ·exact bad he<|Ds he<|ND he h
 rename_i kC eU r gs ofP ofB mq mj
 by_cases hn:¬(0<=near/\near<=100000)
 ·exact bad (e:=1) (by omega)<|Ds (by omega)<|NG h hn
 replace hn:=Classical.not_not.1 hn
 have ok:=F0 h0;have hno:=OY h hn;obtain⟨l,l1,l2,l3⟩:=Ny (N:=N) ok b.xT hN;obtain⟨m,K,m1,m2,m3,m4,m5⟩:=Lu (N:=N) hbx ok b near hN;have hll:l.length<=250000000:=by
  rw[l2.length_eq];unfold Dq;have:=Dr (ns:=x.cF) (λn hn=>(ok.Kd n hn).2) a;have h2:x.cF.length*250000<=1000*250000:=Nat.mul_le_mul_right _ ok.Kc;omega
 obtain⟨o,o1,o2,o3⟩:=Lw (N:=N) hno l1 m1 (by omega) hN
 by_cases h2:2000<l.length+m.length
 ·rw[aH h2]at o3;exact bad (e:=2) (by omega) o3
 rw[aF h2]at o3
 cases hc:AQ o with
 |true=>rw[hc,aH rfl]at o3;exact bad (e:=12) (by omega) o3
 |false=>
  rw[hc,aF wF]at o3;have hol:=o1.length_eq;rw[bO]at hol;have jl:∀u∈l,EG a u/\u.Joined=true:=λu hu=>I9 ok<|l2.mem_iff.1 hu
  have jm:∀u∈m,EG a u/\u.Joined=false:=λu hu=>by
   obtain⟨e,he,hu⟩:=List.mem_filterMap.1<|m3.mem_iff.1 hu
   exact QH b ((m2.mem e.1).1<|cX.2 ⟨e,he,rfl⟩) hu
  have hop:o.Pairwise va:=by
   refine tH (R:=va) (λ_ _ _=>va.trans) λk u v hu hv=>?_;have hlk:=(bN.1 hv).1;obtain⟨_,e1⟩:=bN.1 hu;obtain⟨_,e2⟩:=bN.1 hv;have h3:=iS.1 o2 k (k+1) (by omega) hlk (by omega);rw[e1,e2]at h3
   rcases va.U0 u v with h|h|h
   ·exact h
   ·have:=of_decide_eq_false hc;exact absurd ⟨k,u,v,hu,hv,h⟩ this
   ·exact absurd h h3
  have hto:∀u∈o,EG a u:=λu hu=>by
   rcases dJ.1 (o1.mem_iff.1 hu)with h|h
   ·exact(jl u h).1
   ·exact(jm u h).1
  have hck:jM N a o=some 0:=by
   rcases ON (N:=N) b h1 (l:=o) (by omega) hN with⟨h3,_⟩|⟨h3,h4⟩
   ·exact absurd (IZ (by omega) hto hop) h3
   ·exact DZ h4
  unfold dO;rw[o3,aA];simp only[bne_self_eq_false,aP];rw[NF h l1,aA,Lv hno m1,aA];unfold HJ;rw[aF (show ¬2000<l.length by omega),aF (show ¬2000<m.length by omega)];simp only[bne_self_eq_false,Bool.or_self,aP];rw[wrap_add (by omega),<-hol,bne_self_eq_false,aA,aP];refine W9 ?_;refine V3 (P:=NL (λ_=>True)<|λ_=>False) (Xv (n:=o.length) (λs=>s) (λ_ _=>True) ?_ ?_ (ox _) rfl trivial (by omega))<|λo' ho=>WH ho (λs _=>?_)<|λr h=>h.elim
  ·rintro k s hk e _;subst e;have hx:o[k]? =some o[k]:=aM hk;have hmem:=o1.mem_iff.1<|cS hk
   rw[Bu hk,aQ,cG hx,aA,aA,xW (by omega),aA];have e1:decide (o[k]∈l)=o[k].Joined:=by
    rcases dJ.1 hmem with h|h
    ·rw[(jl _ h).2];exact bU h
    ·rw[(jm _ h).2];refine bS λh'=>?_;have:=(jl _ h').2;rw[(jm _ h).2]at this;cases this
   have e2:decide (o[k]∈m) = !o[k].Joined:=by
    rcases dJ.1 hmem with h|h
    ·rw[(jl _ h).2];refine bS λh'=>?_;have:=(jm _ h').2;rw[(jl _ h).2]at this;cases this
    ·rw[(jm _ h).2];exact bU h
   rw[e1,bne_self_eq_false,aP,aA,aA,xW (by omega),aA,e2,show((!o[k].Joined)==o[k].Joined)=false by cases o[k].Joined <;> rfl,aA,aP];exact Wz ⟨eN (by omega),trivial⟩
  ·rintro s e _;subst e;rw[FK,aP];exact WG trivial
  ·rw[hck,aA,show((0:Int)==0)=true from rfl,aQ,aw,aA,aA];exact VV rfl
end
end Go.Gk
