/-
  Helping texts: plain functions and plain laws. No statement of the seed is proved here.
-/
import Derived.Test.YtibjlncmnefhcaaGreatDoorE2
import Derived.Test.YtibjlncmnefhcaaGreatDoorE1
import Derived.Test.YtibjlncmnefhcaaGreatDoorA2
import Derived.Test.YtibjlncmnefhcaaGreatDoorA1
import Derived.Sort.Walk0
set_option linter.defProp false
set_option linter.unusedVariables false
set_option linter.unusedSimpArgs false
set_option linter.unusedSectionVars false
open Bool renaming true→aA,false→aK
open List renaming length→Z
open Option renaming bind→D,some→O,none→aQ
namespace Go.Gk
open Go IntKind Classical
def MZ(bs:aG cM)(n t:Nat)(r:Nat->Nat)(a:aG Nat)(h:Nat):py bs n t r (a++[h])=if PY bs n (h_ t r h)=aA then py bs n t r a++[YQ bs n<|h_ t r h]else py bs n t r a:=by
 grind [py,MT]
def XC(bs:aG cM)(n m:Nat)(r:Nat->Nat)(h:gL):Nat:=gi bs n (n+m) r<|r<|jg n h
structure ZJ (G G':aG bL):Prop where
 len:Z G'=Z G
 each:∀(g:Nat)x,G[g]? =O x->∃y,G'[g]? =O y/\y.fK=x.fK/\y.aX=x.aX
def Mg(G:aG bL)(lg:dD->aP Nat)(ls:aG dD):ZJ G (iR G lg ls):=
 ⟨BX _ _ _,λa b c=>⟨{b with aZ:=(ls.filter<|λb=>decide<|lg b=O a).map lx},by grind [ox],rfl,rfl⟩⟩
section
variable {N:Nat}
def Lr{bs:aG cM}{n m:Nat}{r:Nat->Nat}(ad:bs.length=m)(hn:n<=1000000)(hm:m<=1000000)(lm:∀i,i<n+m->r i<=i)(T:∀i,i<n+m->r (r i)=r i){G:aG bL}(B:ZJ (py bs n (n+m) r<|cE (n+m) r) G){h:gL}(hh:VT bs n m h)(E:nq N):
  fu N G h=O ((XC bs n m r h:Nat):Int)/\XC bs n m r h<Z G:=by
 obtain⟨b,k,M,P⟩:=hh.num;have I:jg n h<n+m:=by
  grind [jg]
 have L:r (jg n h)∈cE (n+m) r:=kQ.2 ⟨H,T _ I⟩;have Q:PY bs n (h_ (n+m) r<|r<|jg n h)=true:=by
  unfold jg at I ⊢
  by_cases e:h.cM=aA
  all_goals grind [cN,SP,P3]
 obtain⟨g1,g2⟩:=PZ (bs:=bs) (n:=n) L Q;have af:Z G=Z (kw bs n (n+m) r<|cE (n+m) r):=by rw[B.len,yG]
 have ag:(kw bs n (n+m) r<|cE (n+m) r).Nodup:=List.Nodup.sublist List.filter_sublist<|rY _ _
 have ah:Z (kw bs n (n+m) r<|cE (n+m) r)<=n+m:=by
  grind [ve,cE,nO]
 have U:∀(a:Nat)d,G[a]? =O d->Ok (bif h.cM then(D (A G ((a:Nat):Int)) λV=>D (dK N V.aX h.Number) λW=>bif W then O aA else(bif(!h.cM)then(D (A G ((a:Nat):Int)) λX=>D (dK N X.fK h.Number) λY=>O Y)else O aK))else(bif(!h.cM)then(D (A G ((a:Nat):Int)) λaa=>D (dK N aa.fK h.Number) λab=>O ab)else O aK))
   (λx=>x=aA↔(kw bs n (n+m) r<|cE (n+m) r)[a]? =O (r<|jg n h)):=λa d l=>by
  have J:a<Z (kw bs n (n+m) r<|cE (n+m) r):=by have:=(bR.1 l).1;omega
  have F:(kw bs n (n+m) r<|cE (n+m) r)[a]? =O (kw bs n (n+m) r<|cE (n+m) r)[a]:=aM J;have K:(py bs n (n+m) r<|cE (n+m) r)[a]? =O (YQ bs n<|h_ (n+m) r (kw bs n (n+m) r<|cE (n+m) r)[a]):=by unfold py;rw[nQ,F];rfl
  obtain⟨y',p,y,z⟩:=B.each a _ K;rw[l]at p;injection p with p;subst p
  generalize ae:(kw bs n (n+m) r<|cE (n+m) r)[a]=f at *;have ai:Z d.fK<=n+m/\Z d.aX<=n+m:=by
   have:=N6 n<|h_ (n+m) r f
   have:=N7 bs n<|h_ (n+m) r f
   have:=Hc (n+m) r f;rw[y,z];unfold YQ;simp only[ov];omega
  rw[F]
  cases e:h.cM with
  |true=>
   rw[aN,bS l,w,B4 C E,w];have u:jg n h=n+b:=by unfold jg;rw[aL e,k,cN]
   have g:(h.Number∈d.aX)↔f=r (jg n h):=by
    rw[z,u];unfold YQ;dsimp only;rw[tz,k];constructor
    ·rintro⟨i,t,c⟩;have:i=b:=C
     subst this;exact(Io.1 t).2.1.symm
    ·intro c;exact⟨b,Io.2 ⟨C,c.symm,(M e).2⟩,rfl⟩
   by_cases j:h.Number∈d.aX
   ·rw[bN j,aN];exact o ⟨λ_=>by rw[g.1 j],λ_=>rfl⟩
   ·rw[bW j,aR,iL,aR];refine o ⟨λh=>(by cases h),λh=>?_⟩;injection h with h
    exact absurd (g.2 h) j
  |false=>
   rw[aR,lU,aN,bS l,w,B4 C E,w];have u:jg n h=b:=by unfold jg;rw[aJ H,k,cN]
   have g:(h.Number∈d.fK)↔f=r (jg n h):=by
    rw[y,u];unfold YQ;dsimp only;rw[tz,k];constructor
    ·rintro⟨i,t,c⟩;have:i=b:=C
     subst this;exact(Im.1 t).2.2.symm
    ·intro c;exact⟨b,Im.2 ⟨P e,C,c.symm⟩,rfl⟩
   refine o ?_;rw[dZ,g];exact⟨λh=>by rw[h],λh=>by injection h⟩
 refine⟨l_ ?_,by grind [XC]⟩;unfold fu XC;refine v (kg (n:=Z G) (λq=>q) (λb _=>∀a,a<b->(kw bs n (n+m) r<|cE (n+m) r)[a]? ≠O (r<|jg n h)) (Go:=λ_=>False) (Rt:=λq=>q=((gi bs n (n+m) r (r<|jg n h):Nat):Int)) ?_ ?_ (cT _) rfl (λa s=>C) C) ?_
 ·rintro a q s c hI;subst c;rw[iB s,aN];refine v (U a _<|aM s) λx e=>?_
  grind [p5,Ey,fx,bM]
 ·grind
 intro aj R;exact gf R (λ_ h=>h.elim)<|λr S=>o S
def Qp{bs:aG cM}{pcs:aG aH}{r:Nat->Nat}(d:nP bs)(e:Z pcs<=1000000)(m:∀p∈pcs,Z p.eG<=1000000/\∀x∈p.eG,x.X0<x.X1)(hd:∀l:dD,∀b∈bs,∀p∈pcs,qV l b=aA->oM l p=aA->False)
  (lm:∀i,i<Z pcs+bs.length->r i<=i) (n:∀i,i<Z pcs+bs.length->r (r i)=r i) {G:aG bL} (j:ZJ (py bs (Z pcs) (Z pcs+bs.length) r<|cE (Z pcs+bs.length) r) G) (l:dD) (c:nq N):
  fX N bs (pcs.map aH.cR) (pcs.map aH.eG) G l=O (Rv bs pcs r l)/\∀g,zN bs pcs r l=O g->g<Z G:=by
 have q:=d.len;unfold fX Rv zN;rw[T2 d e m l c,w,XA<|hd l]
 cases k:wV bs pcs l with
 |none=>simp
 |some o=>
  obtain⟨f,h⟩:=Lr (N:=N) rfl e C lm n j (N8 k) c;refine⟨?_,λg a=>?_⟩
  ·dsimp only[Option.getD_some,Option.isSome_some];rw[iL,aR,f,w];rfl
  ·rw[Option.map_some]at a;injection a with a
   rw[<-a];exact h
def We{bs:aG cM}{pcs:aG aH}:∀(k:Nat)l,(jH bs pcs)[k]? =O l->l≠[]->AM bs k=true:=λk l a d=>by
 unfold jH at a;rw[nQ,xd]at a;obtain⟨b,c,rfl⟩:=a;unfold AM;rw[c]
 cases a:b.iE with
 |true=>simpa using a
 |false=>
  exfalso;refine d ?_;have:uy (jV b) pcs (Z pcs)= []:=by
   unfold uy;rw[List.filter_eq_nil_iff];intro b _;rw[mz,Option.any_eq_false];intro b _;unfold jV;rw[a];rfl
  rw[this];rfl
def T3{bs:aG cM}{ls:aG dD}{pcs:aG aH}{r:Nat->Nat}(k:nP bs)(M:Z pcs<=2000)(hl:Z ls<=1000000)(aq:∀p∈pcs,Z p.eG<=1000000/\∀x∈p.eG,x.X0<x.X1)(hd:∀l:dD,∀b∈bs,∀p∈pcs,qV l b=aA->oM l p=aA->False)
  (j:Jr (Z pcs) bs.length (jH bs pcs) r) (hN:nq N):
  gD N bs ls (pcs.map aH.cR) (pcs.map aH.eG) (jH bs pcs)=O (iR (py bs (Z pcs) (Z pcs+bs.length) r<|cE (Z pcs+bs.length) r) (zN bs pcs r) ls):=by
 refine l_ ?_;have ax:=k.len;have ae:Z (jH bs pcs)=bs.length:=by simp[jH,dR]
 have X:=K6 (bs:=bs) (pcs:=pcs) C;have T:∀V:aG Nat,Z (py bs (Z pcs) (Z pcs+bs.length) r V)<=Z V:=λV=>by simp[yG,ve]
 unfold gD;rw[dR];refine dy (vW aK C) ?_
 refine v (kg (n:=Z pcs) (λd=>d.2.2) (λa d=>d.1=py bs (Z pcs) (Z pcs+bs.length) r (cE a r)/\Z d.2.1=Z pcs/\∀p,p<Z pcs->d.2.1[p]? =O (decide (r p<a)))
  (Go:=λd=>d.1=py bs (Z pcs) (Z pcs+bs.length) r (cE (Z pcs) r)) (Rt:=λ_=>False) ?_ ?_ (cT _) rfl ⟨by rfl,G,λp M=>by simp[M]⟩ C) ?_
 ·rintro a⟨f,sn,t⟩h c⟨e,W,P⟩;dsimp only at c e W P ⊢;subst c;subst e;rw[iB h,aN];refine fy (P a h) ?_;refine v (P:=λd:aG bL×aG Bool=>d.1=py bs (Z pcs) (Z pcs+bs.length) r (cE (a+1) r)/\Z d.2=Z pcs/\∀p,p<Z pcs->d.2[p]? =O (decide<|r p<a+1)) (jn (λk=>?_)<|λk=>o ⟨?_,W,λp M=>?_⟩)<|λd s=>fx ⟨bM C,s⟩
  ·rw[Bool.not_eq_true',decide_eq_false_iff_not]at k;have i:r a=a:=by have:=j.le a C;omega
   refine v (Qo (bs:=bs) j ae X C C We h i W P hN) λx g=>?_;obtain⟨x1,x2,x3,x4,x5⟩:=g;have y:=T<|cE a r
   have J:=nO a r;refine li H<|o ⟨?_,x4,x5⟩
   dsimp only;have E:PY bs (Z pcs) (h_ (Z pcs+bs.length) r a)=true:=by
    grind [P3]
   rw[jf,aL i,MZ,aL E,x1,x2,x3];rfl
  ·grind [Bool.not_eq_false',jf]
  ·rw[Bool.not_eq_false',dZ]at k;rw[P p M];congr 1;rw[decide_eq_decide];have E:r p≠a:=λc=>by have:=j.rr p C;rw[c]at this;omega
   omega
 ·rintro⟨f,sn,t⟩c⟨e,_,_⟩;dsimp only at c e ⊢;subst c;rw[nG,aR];exact ga e
 intro ah F;refine gf F ?_<|λr I=>I.elim
 rintro⟨f,sn,t⟩e;dsimp only at e ⊢;subst e;rw[ae];have ak:∀m,m<bs.length->(jH bs pcs)[m]? =O []->∀x,x<Z pcs+bs.length->(r x=r (Z pcs+m)↔x=Z pcs+m):=λm hk B x g=>by
  constructor
  ·intro c;refine j.fi (λai=>ai=Z pcs+m) ?_ (Z pcs+m) x C g c.symm rfl;rintro a aV⟨k',l,hl,U,rfl⟩;obtain⟨i',aD,ei⟩:=(X l<|eR hl).2 _ U;constructor
   ·intro;omega
   ·intro c;have:k'=m:=C
    subst this;rw[B]at hl;injection hl with hl
    rw[<-hl]at U;cases U
  ·intro c;rw[c]
 refine v (kg (n:=bs.length) (λd=>d.2) (λa d=>d.1=py bs (Z pcs) (Z pcs+bs.length) r (cE (Z pcs+a) r))
  (Go:=λd=>d.1=py bs (Z pcs) (Z pcs+bs.length) r (cE (Z pcs+bs.length) r)) (Rt:=λ_=>False) ?_ ?_ (cT _) rfl rfl C) ?_
 ·rintro a⟨f,t⟩h c e;dsimp only at c e ⊢;subst c;subst e;rw[iB h,aN];have g:bs[a]? =O bs[a]:=aM h;have Q:(jH bs pcs)[a]? =O ((jH bs pcs)[a]' C):=aM _;have ap:AM bs a=bs[a].iE:=by unfold AM;rw[g];rfl
  have aE:=T<|cE (Z pcs+a) r
  have an:=nO (Z pcs+a) r;have al:(D (A bs ((a:Nat):Int)) λau=>bif au.iE then(D (A (jH bs pcs) ((a:Nat):Int)) λav=>O<|(Z av:Int)==0)else O aK)=O (AM bs a&&decide ((jH bs pcs)[a]' C= [])):=by
   rw[bS g,w,bS Q,w,ap]
   cases bs[a].iE with
   |false=>rfl
   |true=>
    rw[aN,Bool.true_and];congr 1;rw[iK,dZ,beq_iff_eq];constructor
    ·intro u;exact List.eq_nil_of_length_eq_zero C
    ·intro u;rw[u];rfl
  refine dy al ?_;have ad:py bs (Z pcs) (Z pcs+bs.length) r (cE (Z pcs+(a+1)) r)=if(AM bs a&&decide ((jH bs pcs)[a]' C= []))=aA then py bs (Z pcs) (Z pcs+bs.length) r (cE (Z pcs+a) r)++[⟨[],[((a:Nat):Int)],[]⟩]else py bs (Z pcs) (Z pcs+bs.length) r (cE (Z pcs+a) r):=by
   rw[<-Nat.add_assoc,jf]
   by_cases B:(jH bs pcs)[a]' C= []
   ·rw[B]at Q;have tL:=ak a h Q;have i:r (Z pcs+a)=Z pcs+a:=by
     have y:=j.le (Z pcs+a) C;exact(tL _ C).1<|j.rr _ C
    rw[aL i,MZ];have aa:∀x,x∈h_ (Z pcs+bs.length) r (Z pcs+a)↔x=Z pcs+a:=λx=>by
     rw[vZ];constructor
     ·rintro⟨y,J⟩;exact(tL x y).1 (by rw[J,i])
     ·intro u;subst u;exact⟨C,i⟩
    have ab:gP (Z pcs) (h_ (Z pcs+bs.length) r<|Z pcs+a)= []:=by
     unfold gP;rw[List.filter_eq_nil_iff];intro x g;rw[(aa x).1 g];simp
    by_cases q:AM bs a=aA
    ·have E:PY bs (Z pcs) (h_ (Z pcs+bs.length) r<|Z pcs+a)=true:=by
      have:=SP (bs:=bs) (n:=Z pcs) (r:=r) q (show Z pcs+a<Z pcs+bs.length by omega);rwa[i]at this
     rw[aL E,aL (by rw[q,bN B];rfl)];congr 2;unfold YQ;rw[ab];have S:hM (gB bs (Z pcs)<|h_ (Z pcs+bs.length) r<|Z pcs+a)= [((a:Nat):Int)]:=by
      refine JL (Wd _ _ _ _ _) (List.pairwise_singleton _ _) λx=>?_;rw[tz];simp only[ng];constructor
      ·rintro⟨m,y,J⟩;obtain⟨g1,g2,_⟩:=Io.1 y;have:=(tL _ g1).1 (by rw[g2,i]);omega
      ·intro u;exact⟨a,Io.2 ⟨C,i,q⟩,u⟩
     rw[S];rfl
    ·have E:¬PY bs (Z pcs) (h_ (Z pcs+bs.length) r<|Z pcs+a)=true:=by
      unfold PY;have S:gB bs (Z pcs) (h_ (Z pcs+bs.length) r<|Z pcs+a)= []:=by
       unfold gB;rw[List.map_eq_nil_iff,List.filter_eq_nil_iff];intro x g;rw[(aa x).1 g,Nat.add_sub_cancel_left];simp[q]
      rw[ab,S];simp
     rw[aJ E,aJ (by rw[mz]at q ⊢;rw[q];rfl)]
   ·have i:¬r (Z pcs+a)=Z pcs+a:=λc=>by
     obtain⟨x,ag⟩:=List.exists_mem_of_ne_nil _ B;obtain⟨p,aS,ao⟩:=(X _<|cH (show a<Z (jH bs pcs) by omega)).2 x ag;have y:=j.co p (Z pcs+a) ⟨a,_,Q,by rw[<-ao];exact ag,rfl⟩;have J:=j.le p C;omega
    rw[aJ i,aJ (by rw[bW B,Bool.and_false];exact A4)]
  refine v (P:=λd:aG bL=>d=py bs (Z pcs) (Z pcs+bs.length) r (cE (Z pcs+(a+1)) r)) (jn (λk=>?_)<|λk=>o ?_)<|λd s=>fx ⟨bM C,s⟩
  ·refine li (by simp only[eK,List.length_nil];omega)<|o ?_
   rw[ad,aL k]
  ·rw[ad,aJ (by rw[mz];exact k)]
 ·rintro⟨f,t⟩c e;dsimp only at c e ⊢;subst c;rw[nG,aR];exact ga e
 intro ah F;refine gf F ?_<|λr I=>I.elim
 rintro⟨f,t⟩e;dsimp only at e ⊢;subst e;have aw:=T<|cE (Z pcs+bs.length) r
 have an:=nO (Z pcs+bs.length) r;generalize Y:py bs (Z pcs) (Z pcs+bs.length) r (cE (Z pcs+bs.length) r)=f at *;refine v (kg (n:=Z ls) (λd=>d.2) (λa d=>d.1=iR f (zN bs pcs r) (ls.take a)) (Go:=λd=>d.1=iR f (zN bs pcs r) ls) (Rt:=λ_=>False) ?_ ?_ (cT _) rfl ?_ C) ?_
 ·rintro a⟨aj,t⟩h c z;dsimp only at c z ⊢;subst c;subst z;rw[iB h,aN];have g:ls[a]? =O ls[a]:=aM h;have af:ls.take (a+1)=ls.take a++[ls[a]]:=dQ h;obtain⟨e1,e2⟩:=Qp (N:=N) (r:=r) k C aq hd j.le j.rr (G:=iR f (zN bs pcs r)<|ls.take a) (by rw[Y];exact Mg _ _ _) ls[a] hN;refine fy g<|dy e1 ?_
  refine v (P:=λd:aG bL=>d=iR f (zN bs pcs r) (ls.take<|a+1)) ?_<|λd s=>fx ⟨bM C,s⟩
  unfold Rv
  cases R:zN bs pcs r ls[a]with
  |none=>
   dsimp only;rw[show decide ((-1:Int)>=0)=aK by decide,aR];refine o ?_;rw[af,Fq R]
  |some n=>
   have am:=e2 n R;have L:(iR f (zN bs pcs r)<|ls.take a)[n]? =O (iR f (zN bs pcs r)<|ls.take a)[n]:=aM am;dsimp only;rw[bN C,aN];have q:Z (iR f (zN bs pcs r)<|ls.take a)[n].aZ<=Z ls:=by
    have:=L;rw[ox,xd]at this;obtain⟨ai,_,hy⟩:=this;rw[<-hy];dsimp only;rw[dR];have:=qW (λl=>decide<|zN bs pcs r l=O n)<|ls.take a
    rw[cQ]at this;omega
   refine fy L<|li (by simp only[eK,List.length_nil];omega)<|fy L<|o ?_
   rw[cN,af];exact Hh R L
 ·rintro⟨aj,t⟩c z;dsimp only at c z ⊢;subst c;rw[nG,aR];exact ga (by rw[fz]at z;exact z)
 ·apply List.ext_getElem?;intro n;rw[ox]
  cases K:f[n]? with
  |none=>rfl
  |some x=>
   have ar:x.aZ= []:=by
    rw[<-Y]at K;unfold py at K;rw[nQ,xd]at K;obtain⟨ay,_,rfl⟩:=K;rfl
   simp only[Option.map_some,List.take_zero,List.filter_nil,List.map_nil,Option.some.injEq];rw[<-ar]
 intro ah F;exact gf F (λd s=>o s)<|λr I=>I.elim
end
section
variable {N:Nat}{a:ir}{kT:aG (aG aB)}{c:aG (aG (aG aB))}{r:Nat->Nat}{gs:aG bL}{ofP ofB nF:aG Int}{ny:aG gL}
def mE.DR(b:mE a kT c r gs ofP ofB nF ny):pA a:=T0 b.Hk.DR
def I2(b:mE a kT c r gs ofP ofB nF ny)(u:nq N):
  jK N a=O (a.aS,a.cZ,a.aX,a.cA,(cG 0 c).map aH.cR,(cG 0 c).map aH.eG,gs,jH a.aX<|cG 0 c):=by
 refine l_ ?_;have e:=b.Hk.CX.2;have e:=b.CX.2;have e:=b.Hk.gb.len;have e:=b.DR.CX;unfold jK;have n:∀e,Z (cG 0<|c.take e)<=2000:=λe=>by
  grind [Ik,List.length,List.take_append_drop]
 refine v (kg (n:=Z a.aS) (λd=>d.2.2) (λe d=>d.1=(cG 0<|c.take e).map aH.cR/\d.2.1=(cG 0<|c.take e).map aH.eG) (Go:=λd=>d.1=(cG 0 c).map aH.cR/\d.2.1=(cG 0 c).map aH.eG) (Rt:=λ_=>False) ?_ ?_ (cT _) rfl ⟨rfl,rfl⟩ C) ?_
 ·rintro e⟨s,t,q⟩k h⟨g,i⟩;dsimp only at h g i ⊢;subst h;subst g;subst i;rw[iB k,aN];obtain⟨f,j,f,f,l,f⟩:=IY b k;have y:a.aS[e]? =O a.aS[e]:=aM k;have x:=b.Hk.cs _<|cH k
  have m:=(bR.1 l).1;have p:cG 0 (c.take<|e+1)=cG 0 (c.take e)++j.map (λm=>⟨((e:Nat):Int),m,bF m⟩):=by
   grind [dQ,bR,BW,cQ,Min.min]
  have z:=n e;have z:=n<|e+1
  rw[p,cK,dR]at z;refine dy (DY b.Hk.gb y x.1 x.2 f.dr u)<|dy (f.pieces u) ?_
  rw[dR]
  refine v (kg (n:=Z j) (λd=>d.2.2) (λf d=>d.1=(cG 0 (c.take e)).map aH.cR++(j.take f).map (λ_=>((e:Nat):Int))/\d.2.1=(cG 0 (c.take e)).map aH.eG++(j.take f).map bF)
   (Go:=λd=>d.1=(cG 0 (c.take (e+1))).map aH.cR/\d.2.1=(cG 0 (c.take (e+1))).map aH.eG) (Rt:=λ_=>False) ?_ ?_ (cT _) rfl ⟨G,G⟩ C) ?_
  ·rintro f⟨s,t,F⟩x h⟨g,i⟩
   grind [iB,bF,li,fy,fx,bM,dQ,eM]
  ·rintro⟨s,t,F⟩h⟨g,i⟩;dsimp only at h g i ⊢;subst h;subst g;subst i;rw[nG,aR];refine ga ⟨?_,?_⟩
   ·dsimp only;rw[p,fY,List.map_map,fz];rfl
   ·dsimp only;rw[p,fY,List.map_map,fz];rfl
  intro H j;exact gf j (λd B=>fx ⟨bM C,B⟩)<|λr p=>p.elim
 ·rintro⟨s,t,q⟩h⟨g,i⟩;dsimp only at h g i ⊢;subst h;rw[nG,aR];rw[nR (by rw[b.dr.H9];exact du _)]at g i;exact ga ⟨g,i⟩
 intro H j;refine gf j ?_<|λr p=>p.elim
 rintro⟨s,t,q⟩⟨g,i⟩;dsimp only at g i ⊢;subst g;subst i;rw[dR];have z:=λm l=>AW b (p:=m) l;generalize K:cG 0 c=g at *;refine v (kg (n:=Z a.aX) (λd=>d.2) (λe d=>d.1=jH (a.aX.take e) g) (Go:=λd=>d.1=jH a.aX g) (Rt:=λ_=>False) ?_ ?_ (cT _) rfl rfl C) ?_
 ·rintro e⟨J,q⟩k h i;dsimp only at h i ⊢;subst h;subst i;rw[iB k,aN];have E:a.aX[e]? =O a.aX[e]:=aM k;have y:=b.Hk.gb.ok _<|cH k
  have Q:=YP y.1 y.2;have M:¬a.aX[e].iE=aA->uy (jV a.aX[e]) g (Z g)= []:=λl=>by
   unfold uy;rw[List.filter_eq_nil_iff];intro f _;rw[mz,Option.any_eq_false];intro m _;unfold jV;rw[mz]at l;rw[l];rfl
  refine v (od (Go:=λd=>d.1=hM (uy (jV a.aX[e]) g (Z g))) (Rt:=λ_=>False) (λd=>∃f:Nat,d.2=((f:Nat):Int)/\f<=Z g/\d.1=hM (uy (jV a.aX[e]) g f)) (λd=>Z g - d.2.toNat) ?_ ⟨0,rfl,cT _,rfl⟩ (by simp;omega)) ?_
  ·rintro⟨R,F⟩⟨f,h,x,j⟩;dsimp only at h j ⊢;subst h;subst j
   by_cases s:f<Z g
   ·rw[iB s,aN,bS E,w,w];refine jn (λn=>?_)<|λn=>ga ?_
    ·have t:g[f]? =O g[f]:=aM s;have I:(g.map aH.cR)[f]? =O g[f].cR:=by rw[nQ,t];rfl
     have P:(g.map aH.eG)[f]? =O g[f].eG:=by rw[nQ,t];rfl
     obtain⟨x,x,_⟩:=z _<|cH s
     have L:=Ia (jV a.aX[e]) g f;have L:(D (O a.aX[e]) λS=>D (A (g.map aH.cR) ((f:Nat):Int)) λT=>D (gI N S T) λS=>bif S then(D (A (g.map aH.eG) ((f:Nat):Int)) λS=>D (O a.aX[e]) λT=>D (dA N T) λT=>D (lq N S T) λS=>O S)else O aK)=O (jV a.aX[e] g[f]):=by
      rw[w,bS I,w,B3,w,bS P,w,w,tB y.1,w,Xz C (λI y=>N4 (x I y).1 (x I y).2.1 (x I y).2.2) Q u,w];unfold jV;rw[n,Bool.true_and]
      cases qy a.aX[e] g[f].cR <;> rfl
     refine dy L ?_;refine v (P:=λd:aG Int=>d=hM (uy (jV a.aX[e]) g<|f+1)) (jn (λx=>?_)<|λx=>o ?_)<|λd B=>fx ⟨⟨f+1,bM C,s,B⟩,?_⟩
     ·refine li (by rw[ov];simp only[eK,List.length_nil];omega)<|o ?_
      rw[F4 t,aL x,wB];rfl
     ·rw[F4 t,aJ (by rw[mz];exact x)]
     ·dsimp only;rw[bM C];simp only[cN];omega
    ·have t:=M (by rw[n];exact A4);have s:uy (jV a.aX[e]) g f= []:=by
      unfold uy;rw[List.filter_eq_nil_iff];intro e e;rw[mz,Option.any_eq_false];intro m _;unfold jV;rw[n];rfl
     dsimp only;rw[t,s]
   ·have:f=Z g:=C
    subst this;rw[nG,aR,w,aR];exact ga rfl
  intro H j;refine gf j ?_<|λr p=>p.elim
  rintro⟨R,F⟩e;dsimp only at e ⊢;subst e;refine li ?_<|fx ⟨bM C,?_⟩
  ·unfold jH;rw[dR,cQ];simp only[eK,List.length_nil];omega
  ·dsimp only;unfold jH;rw[dQ k,fY];rfl
 ·rintro⟨J,q⟩h i;dsimp only at h i ⊢;subst h;rw[nG,aR];exact ga (by rw[fz]at i;exact i)
 intro H j;refine gf j ?_<|λr p=>p.elim
 rintro⟨J,q⟩i;dsimp only at i ⊢;subst i;have e:=b.JJ;rw[K]at e;have f:=λg=>XB b g;rw[K]at f;refine dy (T3 (r:=r) b.Hk.gb C C (λm l=>⟨by have:=(z m l).1;omega,λg E=>((z m l).2.1 g E).2.1⟩) f e.conn u)<|o ?_
 rw[<-e.gs]
end
section
variable {bs:aG cM}{ls:aG dD}{pcs:aG aH}{r:Nat->Nat}{gs:aG bL}{b c nF:aG Int}{ny:aG gL}
def Ls(hc:DQ bs ls pcs r gs b c nF ny){g:Nat}{x:bL}(hg:gs[g]? =O x):
  ∃hd,(kw bs (Z pcs) (Z pcs+bs.length) r<|cE (Z pcs+bs.length) r)[g]? =O hd/\x.fK=hM (gP (Z pcs)<|h_ (Z pcs+bs.length) r hd)/\
   x.aX=hM (gB bs (Z pcs)<|h_ (Z pcs+bs.length) r hd)/\x.aZ=(ls.filter<|λa=>decide<|zN bs pcs r a=O g).map lx:=by
 rw[hc.gs,ox]at hg;obtain⟨a,a,rfl⟩:=xd.1 hg;unfold py at a;rw[nQ]at a;obtain⟨hd,d,rfl⟩:=xd.1 a;exact⟨hd,d,rfl,rfl,rfl⟩
theorem Wf(hc:DQ bs ls pcs r gs b c nF ny):Z gs=Z (kw bs (Z pcs) (Z pcs+bs.length) r<|cE (Z pcs+bs.length) r)/\Z gs<=Z pcs+bs.length:=by
 have a:Z gs=Z (kw bs (Z pcs) (Z pcs+bs.length) r<|cE (Z pcs+bs.length) r):=by
  rw[hc.gs,BX,yG]
 grind [ve,cE,nO]
def Wg(hc:DQ bs ls pcs r gs b c nF ny){k:Nat}(a:k<Z pcs):
  ∃g:Nat,b[k]? =O (g:Int)/\g<Z gs/\(kw bs (Z pcs) (Z pcs+bs.length) r<|cE (Z pcs+bs.length) r)[g]? =O (r k):=by
 have d:r k∈cE (Z pcs+bs.length) r:=kQ.2 ⟨by have:=hc.conn.le k C;omega,hc.conn.rr k C⟩;obtain⟨e,e⟩:=PZ (bs:=bs) (n:=Z pcs) d<|P3 a C
 exact⟨_,hc.of.pc k a d,by grind [Wf],e⟩
def RH(hc:DQ bs ls pcs r gs b c nF ny){g:Nat}{x:bL}(hg:gs[g]? =O x)(k:Nat):
  (k:Int)∈x.fK↔k<Z pcs/\b[k]? =O (g:Int):=by
 obtain⟨q,l,m,_⟩:=Ls hc hg;rw[m,tz];constructor
 ·rintro⟨o,n,p⟩;have:k=o:=C
  subst this;obtain⟨d,e,i⟩:=Im.1 n;obtain⟨h,a,j,f⟩:=Wg hc d;have:=Ey (List.Nodup.sublist List.filter_sublist<|rY _ _) l<|i▸f
  grind
 ·rintro⟨d,e⟩;obtain⟨h,a,j,f⟩:=Wg hc d;rw[e]at a;injection a with a
  have:g=h:=C
  grind [Im]
def EE(hc:DQ bs ls pcs r gs b c nF ny){g:Nat}{x:bL}(hg:gs[g]? =O x):Z x.fK<=Z pcs+bs.length/\Z x.aX<=Z pcs+bs.length/\Z x.aZ<=Z ls:=by
 obtain⟨a,d,d,d,d⟩:=Ls hc hg;have d:=N6 (Z pcs)<|h_ (Z pcs+bs.length) r a
 grind [N7,h_,Hc,ov,dR,qW,decide,zN]
end
section
variable {N:Nat}{a:ir}{kT:aG (aG aB)}{dW:aG (aG (aG aB))}{r:Nat->Nat}{gs:aG bL}{ofP ofB nF:aG Int}{ny:aG gL}
theorem XD(x:dD)(p:bX):lx x=p↔x.Part=p.Part/\x.bX=p.bX:=by
 cases p;unfold lx;rw[bX.mk.injEq]
def Ip(g:pA a)(p:bX)(b:nq N):lA N a p=O (jZ a p):=by
 obtain⟨r,c,d⟩:=Qj (N:=N) (p:=p) g.up (by have:=g.CX;omega) C (φ:=ll N) (λb=>by simp[ll,H7,w,tJ]);unfold lA;have b:iN N a.cA p (ll N)=L5 N a.cA p (ll N):=rfl;rw[b,c,w];exact d
end
def Jr.uniq{n m:Nat}{c:aG (aG Int)}{b a:Nat->Nat}(h1:Jr n m c b)(h2:Jr n m c a){i j:Nat}(hi:i<n+m)(hj:j<n+m):b i=b j↔a i=a j:=by
 have d:∀{b a:Nat->Nat},Jr n m c b->Jr n m c a->b i=b j->a i=a j:=λ{b a}h1 h2 c=>
  (h1.fi (λb=>a i=a b) (λa b d=>by rw[h2.co a b d]) i j hi hj c) rfl
 grind
section
variable {N:Nat}{a:ir}{n:aG (aG aB)}{e:aG (aG (aG aB))}{r:Nat->Nat}{gs:aG bL}{f m nF:aG Int}{ny:aG gL}
def ZK(x y:Int)(u:aG Int):oX N x y [] u=eV N u x y:=by
 show(D (D (eV N u x y) λa=>O a) λa=>O a)=_;simp
def RI{bs:aG cM}{pcs:aG aH}{l:dD}{h:gL}(hh:wV bs pcs l=O h)(a:Z pcs+bs.length<=1000000000):
  mK N h (Z pcs:Int)=O ((jg (Z pcs) h:Nat):Int)/\jg (Z pcs) h<Z pcs+bs.length:=by
 obtain⟨a,a,a,a⟩:=(N8 hh).num
 grind [mK,jg,cN,ed]
structure XE (bs:aG cM) (pcs:aG aH) (ls:aG dD) (r2:Nat->Nat) (j:Nat) (up:aG Int) (fm:aG (Int×Int)) (out:aG Int):Prop where
 uf:UF (Z pcs+bs.length) up r2
 len:Z out=Z ls
 no:∀i l,i<j->ls[i]? =O l->wV bs pcs l=aQ->out[i]? =O (-1)
 yes:∀i l h,i<j->ls[i]? =O l->wV bs pcs l=O h->oN fm ((r2 (jg (Z pcs) h):Nat):Int)=aA/\out[i]? =O (eU fm ((r2 (jg (Z pcs) h):Nat):Int) 0)
 low:∀x,oN fm x=aA->∃v:Nat,eU fm x 0=(v:Int)/\v<j
 inj:∀x y,oN fm x=aA->oN fm y=aA->eU fm x 0=eU fm y 0->x=y
def RJ{bs:aG cM}{pcs:aG aH}{ls:aG dD}(u:Z pcs+bs.length<=1000000000)(hp:Z pcs<=1073741824)(ag:bs.length<=1073741824)(hl:Z ls<=1073741824)(ai:nF=ls.map (Rv bs pcs r))(aa:ny=ls.map (λn=>(wV bs pcs n).getD ⟨aK,0⟩))(hN:nq N):
  ∃g c D m,qE N bs ls pcs (jH bs pcs) nF ny []=O c/\Jr (Z pcs) bs.length (jH bs pcs) g/\XE bs pcs ls g (Z ls) D m c:=by
 suffices i:Ok (qE N bs ls pcs (jH bs pcs) nF ny []) (λc=>∃g D m,Jr (Z pcs) bs.length (jH bs pcs) g/\XE bs pcs ls g (Z ls) D m c)by
  obtain⟨c,L,g,D,m,V,I⟩:=i
  grind
 unfold qE;refine dy (x:=[]) rfl ?_;rw[ed C];obtain⟨aj,u1,u2⟩:=DJ (N:=N) (n:=Z pcs+bs.length) C;refine dy u1 ?_;simp only[ZK];refine v (MS (n:=Z pcs) (m:=bs.length) (by simp[jH]) (K6 C) C C u2 hN) ?_;rintro ad⟨g,v1,v2⟩;refine dy (x:=ad) rfl<|dy (vW 0 C) ?_
 have tL:Z ny=Z ls:=by rw[aa,dR]
 refine v (p9 (λe(d:aG Int×aG (Int×Int)×aG Int)=>XE bs pcs ls g e d.1 d.2.1 d.2.2) C ⟨v1,G,λk n i=>C,λk n i L=>C,λa b=>(by cases b),λa p b=>(by cases b)⟩ ?_)<|λd h=>o ⟨g,d.1,d.2.1,v2,H⟩
 rintro e⟨D,m,J⟩Q h;rw[tL]at Q;dsimp only at h ⊢;have b:ls[e]? =O ls[e]:=aM Q;have L:ny[e]? =O ((wV bs pcs ls[e]).getD ⟨aK,0⟩):=H
 have V:nF[e]? =O (Rv bs pcs r ls[e]):=H
 have I:J[e]? =O (J[e]'(by rw[h.len];exact Q)):=aM _;have ah:e<Z J:=H
 refine fy L ?_
 cases M:wV bs pcs ls[e]with
 |none=>
  have F:Rv bs pcs r ls[e] = -1:=by grind [Rv,zN]
  refine dy (x:=0) rfl<|dy (x:=aA) (by grind [bS,w]) ?_
  refine fy I<|o ?_
  dsimp only;rw[cN];refine⟨h.uf,by rw[jD];exact h.len,λk n P j u=>?_,λk n i P j x=>?_,λa b=>?_,h.inj⟩
  ·by_cases f:k=e
   ·grind
   ·rw[List.getElem?_set_ne<|Ne.symm f];exact h.no k n C j u
  ·by_cases f:k=e
   ·grind
   ·rw[List.getElem?_set_ne<|Ne.symm f];exact h.yes k n i C j x
  ·obtain⟨s,q,z⟩:=h.low a b;grind
 |some i=>
  obtain⟨Y,E⟩:=RI (N:=N) M u;have F:∃K:Nat,Rv bs pcs r ls[e]=(K:Int):=by grind [Rv,zN]
  obtain⟨K,F⟩:=F;refine dy Y<|dy (x:=aK) (by rw[bS V,w,F,bW (show ¬(K:Int)<0 by omega),aR];rfl) ?_
  rw[aR];obtain⟨ae,t1,X⟩:=BT (N:=N) h.uf E C;refine dy t1 ?_;dsimp only;have T:∀(y:aG Int)(l:aG (Int×Int)),UF (Z pcs+bs.length) y g->(∀a,oN m a=aA->oN l a=aA/\eU l a 0=eU m a 0)->oN l ((g (jg (Z pcs) i):Nat):Int)=aA->(∀a,oN l a=aA->∃s:Nat,eU l a 0=(s:Int)/\s<e+1)->(∀a p,oN l a=aA->oN l p=aA->eU l a 0=eU l p 0->a=p)->
    XE bs pcs ls g (e+1) y l (J.set e<|eU l ((g (jg (Z pcs) i):Nat):Int) 0):=λy l g1 U g3 g4 g5=>by
   refine⟨g1,by rw[jD];exact h.len,λk n P j u=>?_,λk n h' P j x=>?_,g4,g5⟩
   ·by_cases f:k=e
    ·subst f;rw[b]at j;injection j with j;subst j;rw[M]at u;cases u
    ·rw[List.getElem?_set_ne<|Ne.symm f];exact h.no k n C j u
   ·by_cases f:k=e
    ·subst f;rw[b]at j;injection j with j;subst j;rw[M]at x;injection x with x;subst x
     exact⟨g3,H⟩
    ·obtain⟨q,z⟩:=h.yes k n h' C j x;rw[List.getElem?_set_ne<|Ne.symm f,z,(U _ q).2];exact⟨(U _ q).1,rfl⟩
  cases W:oN m ((g (jg (Z pcs) i):Nat):Int)with
  |true=>
   rw[iL,aR];obtain⟨y,R,S⟩:=BT (N:=N) X E C;refine dy (x:=(ae,m)) rfl<|dy R<|fy I<|o ?_
   dsimp only;rw[cN];exact T y m S (λa b=>⟨b,rfl⟩) W (λa b=>by obtain⟨s,q,z⟩:=h.low a b;grind) h.inj
  |false=>
   rw[lU,aN];obtain⟨y,R,S⟩:=BT (N:=N) X E C;obtain⟨af,t5,t6⟩:=BT (N:=N) S E C;refine dy (x:=(y,oO m ((g (jg (Z pcs) i):Nat):Int) (e:Int))) (by rw[R,w])<|dy t5<|fy I<|o ?_
   dsimp only;rw[cN];refine T af _ t6 (λa b=>?_) (by rw[vH];simp) (λa b=>?_)<|λa p b B f=>?_
   ·have ab:a≠((g (jg (Z pcs) i):Nat):Int):=λf=>by rw[f,W]at b;cases b
    rw[vH,sG,aJ ab,b];exact⟨G,rfl⟩
   ·rw[sG]
    by_cases f:a=((g (jg (Z pcs) i):Nat):Int)
    ·rw[aL f];exact⟨e,rfl,C⟩
    ·rw[aJ f];rw[vH,bW f,Bool.false_or]at b;obtain⟨s,q,z⟩:=h.low a b;exact⟨s,q,C⟩
   ·rw[sG,sG]at f;rw[vH]at b B
    by_cases A:a=((g (jg (Z pcs) i):Nat):Int)
    ·by_cases t:p=((g (jg (Z pcs) i):Nat):Int)
     ·rw[A,t]
     ·rw[aL A,aJ t]at f;rw[bW t,Bool.false_or]at B;obtain⟨s,q,z⟩:=h.low p B;omega
    ·rw[bW A,Bool.false_or]at b
     by_cases t:p=((g (jg (Z pcs) i):Nat):Int)
     ·rw[aJ A,aL t]at f;obtain⟨s,q,z⟩:=h.low a b;omega
     ·rw[aJ A,aJ t]at f;rw[bW t,Bool.false_or]at B;exact h.inj a p b B f
def XF(b:mE a n e r gs f m nF ny){x y:dD}{h c:gL}(hx:wV a.aX (cG 0 e) x=O h)(hy:wV a.aX (cG 0 e) y=O c):(zN a.aX (cG 0 e) r x=zN a.aX (cG 0 e) r y)↔r (jg (Z (cG 0 e)) h)=r (jg (Z (cG 0 e)) c):=by
 have c:∀{z:dD}{h:gL},wV a.aX (cG 0 e) z=O h->(kw a.aX (Z (cG 0 e)) (Z (cG 0 e)+Z a.aX) r<|cE (Z (cG 0 e)+Z a.aX) r)[gi a.aX (Z (cG 0 e)) (Z (cG 0 e)+Z a.aX) r<|r<|jg (Z (cG 0 e)) h]? =O (r<|jg (Z (cG 0 e)) h):=by
  intro z h c;obtain⟨d,d,g,g⟩:=(N8 c).num;have lm:=b.JJ.conn.le;have c:=b.JJ.conn.rr;have c:∀c,c<Z (cG 0 e)+Z a.aX->r c∈cE (Z (cG 0 e)+Z a.aX) r:=λc c=>nc.2 ⟨A3.2 H,H⟩;unfold jg
  cases c:h.cM with
  |true=>
   grind [cN,PZ,SP]
  |false=>
   have i:=g c;rw[aJ A4,d,cN]
   grind [PZ,P3]
 unfold zN
 grind
def Ol(b:mE a n e r gs f m nF ny)(h1:jE N a=O (O (a.aS,a.cZ,a.aX,a.cA,n,cG 0 e,jH a.aX<|cG 0 e,gs,f,m,nF,ny),0)){p q:bX}{i k:Nat}{x y:dD}(l:jZ a p=(i:Int))(hx:a.cA[i]? =O x)(o:jZ a q=(k:Int))(hy:a.cA[k]? =O y)(d:nq N):
  mi N a [] p q=O ((zN a.aX (cG 0 e) r x).isSome&&decide (zN a.aX (cG 0 e) r x=zN a.aX (cG 0 e) r y),0):=by
 have c:=b.CX.2;have c:=b.Hk.gb.len;have c:=b.DR.CX;obtain⟨c,c,c,c,g,s,c⟩:=RJ (N:=N) (r:=r) (nF:=nF) (ny:=ny) (bs:=a.aX) (pcs:=cG 0 e) (ls:=a.cA) C C C C b.JJ.nF b.JJ.ny d;have h:=(bR.1 hx).1;have j:=(bR.1 hy).1;unfold mi;rw[h1,w,Ip b.DR p d,Ip b.DR q d];simp only[LP,bne_self_eq_false,aR,w];have d:∀(t:aG (aG z))(u:aG z)(B:aG cM)(D:aG dD)(E:aG (aG aB))(F:aG aH)(G:aG (aG Int))(I:aG bL)(J K v:aG Int)(A:aG gL),sq N t u B D E F G I J K v A []=O 0:=λ_ _ _ _ _ _ _ _ _ _ _ _=>rfl;rw[d,w,bne_self_eq_false,aR,l,o,bW (show ¬(i:Int)<0 by omega),bW (show ¬(k:Int)<0 by omega),Bool.or_false,aR,g,w]
 cases d:wV a.aX (cG 0 e) x with
 |none=>
  have g:zN a.aX (cG 0 e) r x=none:=by grind [zN]
  rw[bS<|c.no i x h hx d,w,g];rfl
 |some o=>
  obtain⟨l,t⟩:=c.yes i x o h hx d;obtain⟨h,o,_⟩:=c.low _ l;have g:(zN a.aX (cG 0 e) r x).isSome=true:=by grind [zN]
  rw[bS t,w,o,bN (show(h:Int)>=0 by omega),aN,w,g,Bool.true_and]
  cases g:wV a.aX (cG 0 e) y with
  |none=>
   have o:zN a.aX (cG 0 e) r y=none:=by grind [zN]
   rw[bS<|c.no k y j hy g,w,w,bW (λt=>H),show((h:Int)== -1)=aK from by rfl]
  |some u=>
   obtain⟨o,v⟩:=c.yes k y u j hy g;obtain⟨A,j,_⟩:=c.low _ o;rw[bS v,w,j,w];have j:=(RI (N:=N) d C).2;have u:=(RI (N:=N) g C).2;have v:((h:Int)=(A:Int))↔zN a.aX (cG 0 e) r x=zN a.aX (cG 0 e) r y:=by
    rw[XF b d g,Jr.uniq b.JJ.conn s j u];constructor
    ·intro t;have:=c.inj _ _ l o C;omega
    grind
   grind
end
def F7:ir:=⟨[[⟨0,0,1,1⟩]],[],[],[⟨⟨[97]⟩,⟨[49]⟩,0,⟨0,0⟩⟩]⟩
def ZL:bX:=⟨⟨[97]⟩,⟨[49]⟩⟩
def Ct:aB:=⟨0,1,[0,1]⟩
def XG:yD [⟨0,0,1,1⟩] [Ct]where
 can:=⟨λe g=>by
  grind [cS,Ct,decide,lF],List.pairwise_singleton _ _⟩
 cover:=λa b=>by
  show vk (if(0:Int)<=b/\b<1 then [0,1]else []) a=((decide ((0:Int)<=a)&&decide (a<1))&&(decide ((0:Int)<=b)&&decide (b<1))||aK)
  by_cases c:(0:Int)<=b/\b<1
  ·rw[aL c,bN c.1,bN c.2];unfold vk;rw[u9,u9,NV]
   by_cases d:(0:Int)<=a
   ·by_cases f:(1:Int)<=a
    ·rw[aL d,aL f,bW (show ¬a<1 by omega)];simp
    ·rw[aL d,aJ f,bN d,bN (show a<1 by omega)];rfl
   ·rw[aJ d,aJ (show ¬(1:Int)<=a by omega),bW d];rfl
  ·rw[aJ c];have:(decide ((0:Int)<=b)&&decide (b<1))=false:=by
    rw[Bool.eq_false_iff];intro a;rw[dE,dZ,dZ]at a;exact c a
   rw[this,Bool.and_false];rfl
 lim:=λe g=>by
  have a:e=cS Ct:=by simpa using g
  subst a;exact⟨I,I,I⟩
def aeB:yD [] []:=⟨gC.nil,λ_ _=>rfl,λa a=>by cases a⟩
def aeC:lu [⟨0,0,1,1⟩]=0:=wA.2 ⟨I,λa a a a a=>H,⟨_,XG,rfl⟩⟩
theorem aeD:lu []=0:=wA.2 ⟨I,λa a a a a=>(by simp at a),⟨_,aeB,rfl⟩⟩
def ZM:AN F7:=⟨I,I,I,I,I,by
 intro a a
 grind [F7,decide]⟩
theorem ZN:mx F7=0:=by
 have a:F7.aS.findSome? DS=none:=by
  show [[(⟨0,0,1,1⟩:z)]].findSome? DS=aQ;simp[DS,aeC]
 have a:kL F7=0:=I
 have a:qx F7=0:=by
  rfl
 grind [w8,F7,mx,decide,TO,lu,Oa,aeD]
def acM{j:aG (aG aB)}{e:aG (aG<|aG aB)}(b:DO F7.aS F7.aX (Z F7.aS) j e):j= [[Ct]]/\e= [[[Ct]]]:=by
 obtain⟨l,rfl⟩:=List.length_eq_one_iff.1 b.len;obtain⟨k,rfl⟩:=List.length_eq_one_iff.1 b.H9;have f:=b.dr 0 [⟨0,0,1,1⟩] l I rfl rfl;have n:l= [Ct]:=PU f.can XG.can λq r=>by
  rw[f.cover,XG.cover];show(_&& !zK [] q r)=_;simp[zK]
 subst n;obtain⟨a,c⟩:=b.pt 0 [Ct] k I rfl rfl;have p:a 0=0:=Nat.le_zero.1<|c.join.le 0 I
 have g:cE (Z (bF [Ct])) a= [0]:=by
  show(List.range 1).filter (λi=>decide<|a i=i)= [0]
  grind
 obtain⟨o,rfl⟩:=List.length_eq_one_iff.1 (show Z k=1 by rw[c.len,g];rfl);have h:=c.each 0 0 o (by rw[g];rfl) rfl;have m:uE (bF [Ct]) (Z (bF [Ct])) a 0= [⟨0,0,1,1⟩]:=by
  show((List.range 1).filter<|λd=>decide<|a d=0).filterMap (λd=>(bF [Ct])[d]?)=_;simp[List.range_succ,p];rfl
 rw[m]at h;exact⟨rfl,by rw[h.unique XG]⟩
section
variable {N:Nat}
def XH(c:nq N):lN N=O true:=by
 have l:mi N F7 [] ZL ZL=O (aA,0):=by
  obtain⟨a,j,a⟩:=Ic (N:=N) ZM c
  rcases a with⟨a,_⟩|⟨_,i,h,k,d,a,⟨b,_⟩|⟨b,q,f,p,o,m,n,g,rfl⟩⟩
  ·grind [ZN]
  ·obtain⟨rfl,rfl⟩:=acM a;exact absurd ⟨I,I⟩ b
  ·have e:mE F7 k d q f p o m n:=⟨i,h,a,b,g⟩;have b:jZ F7 ZL=((0:Nat):Int):=by
    rfl
   have d:F7.cA[0]? =O ⟨⟨[97]⟩,⟨[49]⟩,0,⟨0,0⟩⟩:=rfl;rw[Ol e j b d b d c];obtain⟨rfl,rfl⟩:=acM a;have a:wV F7.aX (cG 0 [[[Ct]]]) ⟨⟨[97]⟩,⟨[49]⟩,0,⟨0,0⟩⟩=O ⟨aK,0⟩:=I
   grind [zN]
 unfold lN;have b:mi N (⟨([([(⟨0,0,1,1⟩:z)]:aG z)]:aG (aG z)),([]:aG z),([]:aG cM),([(⟨⟨[97]⟩,⟨[49]⟩,0,⟨0,0⟩⟩:dD)]:aG dD)⟩:ir) ([]:aG rm) (⟨⟨[97]⟩,⟨[49]⟩⟩:bX) (⟨⟨[97]⟩,⟨[49]⟩⟩:bX)=O (aA,0):=l
 grind
end
def acN(n:Nat)(a:aG rm)(v:Nat):Prop:=∃x∈a,x.Open=aA/\jg n x.gL=v
structure afy (bs:aG cM) (n m:Nat) (fl:aG rm):Prop where
 op:∀x∈fl,x.Open=aA->VT bs n m x.gL
 br:∀x∈fl,x.Open=aK->∃i k:Nat,x.A=(i:Int)/\x.B=(k:Int)/\i<k/\k<n
structure aeT (t:Nat) (L:Nat->Nat->Prop) (r:Nat->Nat):Prop where
 le:∀i,i<t->r i<=i
 rr:∀i,i<t->r (r i)=r i
 co:∀i j,L i j->r i=r j
 fi:∀S:Nat->Prop,(∀i j,L i j->(S i↔S j))->∀i j,i<t->j<t->r i=r j->S i->S j
noncomputable def Lt(bs:aG cM)(pcs:aG aH)(a:aG rm)(l:dD):aP Nat:=D (wV bs pcs l) λh=>if acN (Z pcs) a (jg (Z pcs) h)then aQ else O (jg (Z pcs) h)
section
variable {N:Nat}{r:Nat->Nat}{nF:aG Int}{ny:aG gL}
structure acO (bs:aG cM) (pcs:aG aH) (fl:aG rm) (ls:aG dD) (r2:Nat->Nat) (j:Nat) (up:aG Int) (fm:aG (Int×Int)) (out:aG Int):Prop where
 uf:UF (Z pcs+bs.length) up r2
 len:Z out=Z ls
 no:∀i l,i<j->ls[i]? =O l->Lt bs pcs fl l=aQ->out[i]? =O (-1)
 yes:∀i l v,i<j->ls[i]? =O l->Lt bs pcs fl l=O v->oN fm ((r2 v:Nat):Int)=aA/\out[i]? =O (eU fm ((r2 v:Nat):Int) 0)
 low:∀x,oN fm x=aA->∃(v:Nat)(l:dD)(u:Nat),eU fm x 0=((v:Nat):Int)/\v<j/\ls[v]? =O l/\Lt bs pcs fl l=O u/\((r2 u:Nat):Int)=x
 inj:∀x y,oN fm x=aA->oN fm y=aA->eU fm x 0=eU fm y 0->x=y
 le:∀(i v:Nat),out[i]? =O ((v:Nat):Int)->v<=i
end
structure ZO (c:aG Int):Prop where
 neg:∀(i:Nat)(x:Int),c[i]? =O x->x<0->x = -1
 own:∀(i v:Nat),c[i]? =O (v:Int)->c[v]? =O (v:Int)
section
variable {r:Nat->Nat}
def acO.first{bs:aG cM}{pcs:aG aH}{j:aG rm}{ls:aG dD}{v:Nat->Nat}{x:aG Int}{p:aG (Int×Int)}{c:aG Int}(h:acO bs pcs j ls v (Z ls) x p c):ZO c where
 neg:=λa B d z=>by
  have b:=(bR.1 d).1;rw[h.len]at b;have f:ls[a]? =O ls[a]:=aM b
  cases g:Lt bs pcs j ls[a]with
  |none=>have:=h.no a _ b f g;rw[d]at this;injection this
  |some l=>
   obtain⟨k,e⟩:=h.yes a _ l b f g;obtain⟨m,_,_,i,_⟩:=h.low _ k;rw[d,i]at e;injection e with e;omega
 own:=λa m d=>by
  have b:=(bR.1 d).1;rw[h.len]at b;have f:ls[a]? =O ls[a]:=aM b
  cases g:Lt bs pcs j ls[a]with
  |none=>have:=h.no a _ b f g;rw[d]at this;injection this with this;omega
  |some l=>
   obtain⟨k,e⟩:=h.yes a _ l b f g;obtain⟨y,q,w,i,r,s,t,u⟩:=h.low _ k;have o:m=y:=by rw[d,i]at e;injection e with e;omega
   subst o;obtain⟨A,n⟩:=h.yes m q w r s t;rw[u,i]at n;exact n
end
def Mh(a0 a1 b0 b1:Int):Int:=max (max 0<|b0 - a1+1)<|a0 - b1+1
def wW(a b:z):Int:=max (Mh a.X0 a.X1 b.X0 b.X1)<|Mh a.Y0 a.Y1 b.Y0 b.Y1
def yX(s:Int)(x:z)(b:aG z):Int:=b.foldl (λs y=>if s<0\/wW x y<s then wW x y else s) s
def vn(a b:aG z):Int:=a.foldl (λs x=>yX s x b)<|-1
def Wh{a0 a1 b0 b1:Int}(a: -1000000<=a0/\a0<=1000000)(h1: -1000000<=a1/\a1<=1000000)(h2: -1000000<=b0/\b0<=1000000)(a: -1000000<=b1/\b1<=1000000):0<=Mh a0 a1 b0 b1/\Mh a0 a1 b0 b1<=2000001:=by
 unfold Mh;omega
def Lu{a b:z}(g:dJ a=aA)(k:dJ b=aA):0<=wW a b/\wW a b<=2000001:=by
 obtain⟨c,d,e,f⟩:=ks g;obtain⟨g,h,i,j⟩:=ks k;have:=Wh c e g i;have:=Wh d f h j;unfold wW;omega
def SX{x:z}{s:Int}(hx:dJ x=aA):∀(b:aG z),(∀y∈b,dJ y=aA)->∀{s:Int},-1<=s/\s<=2000001-> -1<=yX s x b/\yX s x b<=2000001
 | [],_,s,a=>a
 |y::b,c,s,a=>by
  have a:=Lu hx<|c y<|List.mem_cons_self ..
  unfold yX;rw[List.foldl_cons];refine SX (s:=s) hx b (λd a=>c d<|ku _ a) ?_;split <;> omega
def SY{a b:aG z}(d:∀y∈a,dJ y=aA)(f:∀y∈b,dJ y=aA): -1<=vn a b/\vn a b<=2000001:=by
 have h:∀(a:aG z),(∀y∈a,dJ y=aA)->∀{s:Int},-1<=s/\s<=2000001-> -1<=a.foldl (λs c=>yX s c b) s/\a.foldl (λs c=>yX s c b) s<=2000001:=by
  intro a
  induction a with
  |nil=>simp
  |cons c a g=>
   intro d s e;rw[List.foldl_cons];exact g (λi g=>d i<|ku _ g)<|SX (s:=s) (d c<|List.mem_cons_self ..) b f e
 exact h a d ⟨C,C⟩
section
variable {N:Nat}
theorem RK{a0 a1 b0 b1:Int}(a: -1000000<=a0/\a0<=1000000)(h1: -1000000<=a1/\a1<=1000000)(h2: -1000000<=b0/\b0<=1000000)(a: -1000000<=b1/\b1<=1000000):mG N a0 a1 b0 b1=O (Mh a0 a1 b0 b1):=by
 unfold mG Mh
 grind [Ev,vf]
def Wi{a b:z}(c:dJ a=aA)(d:dJ b=aA):oU N a b=O (wW a b):=by
 obtain⟨e,e,e,e⟩:=ks c;obtain⟨c,c,c,c⟩:=ks d;unfold oU wW
 grind [RK,w,vf]
def Wj(a b:z):∃n,oU N a b=O n:=⟨_,rfl⟩
def M1(a b:z)(n:Int):∃p,xZ N a b n=O p:=⟨_,rfl⟩
def M3(p q:dP):∃c,x6 N p q=O c:=⟨_,rfl⟩
def Wk{a b:aG z}(tL:Z a<=1000000)(c:Z b<=1000000)(l:∀y∈a,dJ y=aA)(m:∀y∈b,dJ y=aA):∃g,oe N a b=O g/\g.iY=vn a b - 1:=by
 have c:=SY l m
 suffices c:Ok (oe N a b) (λg=>g.iY=vn a b - 1)from c
 unfold oe;refine v (p9 (λc f=>f=(a.take c).foldl (λf e=>yX f e b) (-1)) C rfl<|λc f h i=>?_)<|λf i=>?_
 ·have k:a[c]? =O a[c]:=aM h;refine fy k<|v (p9 (λe n=>n=yX f a[c] (b.take e)) C rfl<|λe n j p=>?_)<|λn p=>o ?_
  ·have p:b[e]? =O b[e]:=aM j;refine fy p<|dy (Wi (l _<|cH h)<|m _<|cH j) ?_
   grind [yX,dQ,decide,o,Bool.or_eq_false_iff,decide_eq_false_iff_not]
  grind [fz,dQ]
 rw[fz]at i;have i:f=vn a b:=i;subst i;rw[Ev C];refine v (p9 (λc(d:y6×Bool)=>d.1.iY=vn a b - 1) C rfl<|λc d h f=>?_)<|λd f=>?_
 ·have k:a[c]? =O a[c]:=aM h;refine fy k<|v (p9 (λe(d:y6×Bool)=>d.1.iY=vn a b - 1) C f<|λe d j f=>?_)<|λd f=>o f
  have p:b[e]? =O b[e]:=aM j;obtain⟨q,n⟩:=M1 (N:=N) a[c] b[e]<|vn a b
  refine fy p<|dy n ?_
  refine v (P:=λ_=>True) ?_<|λi _=>?_
  ·refine dy (Wi (l _<|cH h)<|m _<|cH j) ?_
   cases(wW a[c] b[e]==vn a b)with
   |false=>exact o trivial
   |true=>
    rw[aN]
    cases d.2 with
    |false=>exact o trivial
    |true=>
     obtain⟨i,j⟩:=M3 (N:=N) q d.1.dC
     grind [dy,o]
  grind [v,vn,o]
 refine v (p9 (λc(d:y6×Bool)=>d.1.iY=vn a b - 1) C f<|λc e h f=>?_)<|λd f=>o f
 have k:b[c]? =O b[c]:=aM h;obtain⟨q,n⟩:=M1 (N:=N) b[c] (⟨d.1.dC.X,d.1.dC.Y,wrap .i64<|d.1.dC.X+1,wrap .i64<|d.1.dC.Y+1⟩:z)<|vn a b
 obtain⟨f,h⟩:=Wj (N:=N) b[c] (⟨d.1.dC.X,d.1.dC.Y,wrap .i64<|d.1.dC.X+1,wrap .i64<|d.1.dC.Y+1⟩:z);refine fy k<|dy n ?_
 refine v (P:=λ_=>True) ?_<|λi _=>?_
 ·refine dy h ?_
  cases(f==vn a b)with
  |false=>exact o trivial
  |true=>
   rw[aN]
   cases e.2 with
   |false=>exact o trivial
   |true=>
    obtain⟨i,j⟩:=M3 (N:=N) q e.1.To
    grind [dy,o]
 grind [v,vn,o]
end
def nH(pcs:aG aH)(a:aG Int)(near:Int)(i k:Nat):Bool:=(pcs[i]?).elim aK λp=>(pcs[k]?).elim aK λq=>decide (i<k)&&(q.cR==p.cR&&(decide (a[i]? ≠a[k]?)&&decide (vn p.eG q.eG - 1<near)))
def Wl:∀(a:aG (aG<|aG aB))(k:Nat),(cG k a).Pairwise (λp b=>p.cR<=b.cR)/\∀p∈cG k a,((k:Nat):Int)<=p.cR
 | [],k=>⟨kW,λp a=>by cases a⟩
 |a::d,k=>by
  obtain⟨a,c⟩:=Wl d<|k+1
  unfold cG;refine⟨fZ.2 ⟨?_,a,λp a b d=>?_⟩,λp a=>?_⟩
  ·rw[List.pairwise_map];exact List.Pairwise.imp (λ_=>Int.le_refl _)<|List.pairwise_of_forall (R:=λ_ _=>True)<|λ_ _=>trivial
  ·obtain⟨e,_,rfl⟩:=dH.1 a;have:=c b d;show((k:Nat):Int)<=b.cR;omega
  ·rcases dS.1 a with a|a
   ·obtain⟨e,_,rfl⟩:=dH.1 a;exact Int.le_refl _
   ·have:=c p a;omega
section
variable {N:Nat}{a:ir}{kT:aG (aG aB)}{dW:aG (aG (aG aB))}{r:Nat->Nat}{gs:aG bL}{c ofB nF:aG Int}{ny:aG gL}
def Lv(b:mE a kT dW r gs c ofB nF ny){k:Nat}(d:k<Z c):∃g:Nat,c[k]? =O (g:Int)/\g<Z gs:=by
 have d:=b.JJ.of.lp;obtain⟨g,d,d,_⟩:=Wg b.JJ (k:=k) C
 grind
end
def qA(t u:k):Int:=if iQ t.A u.A≠0 then iQ t.A u.A else iQ t.B u.B
structure acP (a:ir) (t:k):Prop where
 la:0<=jZ a t.A
 lb:0<=jZ a t.B
 lt:yJ t.A t.B
theorem Wm{a:ir}{p:bX}(h:0<=jZ a p):∃(k:Nat)(x:dD),jZ a p=(k:Int)/\a.cA[k]? =O x/\lx x=p/\k<Z a.cA:=by
 grind [Qk,bR]
section
variable {N:Nat}
def ZP(u v:Int):xY N [u,v]=O (if u≠0 then u else v):=by
 unfold xY
 rw[GQ (l:=[u,v]) (λa=>if a≠0 then O a else aQ) G (λb a b=>by
  rw[bS b,w]
  by_cases b:a=0
  ·subst b;rfl
  ·rw[show(a != 0)=aA by simpa using b,aN,aL b];rfl),w]
 grind [NN,Fo.cs]
def Cu(t u:k):eZ N t u=O (qA t u):=by
 simp[eZ,qA,tJ,w,ZP]
end
section
variable (T:Nat->Nat->Bool)(n:Nat)
def YY(i k:Nat)(K:aG Nat):Nat:=(List.range k).countP (T i)+K.countP (T i)
variable {T n}
structure aeU (T:Nat->Nat->Bool) (n m k:Nat) (K:aG Nat):Prop where
 up:K.Pairwise (· < ·)
 lo:∀j∈K,k<=j/\j<m
 all:∀i,i<n->(∃j,j<m/\T i j=aA)->0<YY T i k K
 own:∀j∈K,∃i,i<n/\T i j=aA/\YY T i k K=1
end
def AX{α:Type}{R:α->α->Prop}(d:∀x y z,R x y->R y z->R x z):∀{l:aG α},(∀(k:Nat)x y,l[k]? =O x->l[k+1]? =O y->R x y)->l.Pairwise R
 | [],_=>kW
 | [x],_=>List.pairwise_singleton R x
 |x::y::l,a=>by
  have c:=AX d (l:=y::l)<|λk f g b e=>a (k+1) f g b e
  have b:=a 0 x y rfl rfl;refine lz.2 ⟨λz a=>?_,c⟩
  rcases eO.1 a with rfl|a
  ·exact b
  ·exact d x y z b<|(lz.1 c).1 z a
def vl(u t:k):Prop:=yJ u.A t.A\/(u.A=t.A/\yJ u.B t.B)
def vl.trans{s t u:k}(h1:vl s t)(h2:vl t u):vl s u:=by
 rcases h1 with h1|⟨b,h1⟩
 ·rcases h2 with h2|⟨a,_⟩
  ·exact .inl<|h1.trans h2
  ·exact .inl<|a▸h1
 ·rcases h2 with h2|⟨a,h2⟩
  ·exact .inl<|b▸h2
  ·exact .inr ⟨b.trans a,h1.trans h2⟩
section
variable {N:Nat}
def F8{l m:aG k}(hl:Z l<=4611686018427387904):l5 N l m=O (decide<|l=m):=HO hl
end
def ZQ(t:Nat)(u:aG Int)(r:Nat->Nat):Prop:=u=(List.range t).map (λi=>((r i:Nat):Int))
def ZQ.at{t:Nat}{u:aG Int}{r:Nat->Nat}(h:ZQ t u r){i:Nat}(hi:i<t):u[i]? =O ((r i:Nat):Int):=by rw[h,nQ,List.getElem?_range hi];rfl
structure aeV (t:Nat) (L:Nat->Nat->Prop) (r:Nat->Nat):Prop where
 co:∀i j,L i j->r i=r j
 fi:∀S:Nat->Prop,(∀i j,L i j->(S i↔S j))->∀i j,i<t->j<t->r i=r j->S i->S j
section
variable {N:Nat}
theorem F9(p q:bX):iC N p q=O (decide<|yJ p q):=by
 unfold iC;congr 1;rw[iK,dZ,jk,dE,tG];rfl
def Lw(t u:k):kj N t u=O (decide<|vl t u):=by
 grind [kj,F9,w,yJ,vl,bN,bW]
def Ga{a:ir}(hl:Z a.cA<=1000000)(p:bX)(b:nq N):jB N a p=O (jZ a p):=by
 refine l_ ?_;unfold jB;refine v (kg (n:=Z a.cA) (λe=>e) (λb _=>∀(c:Nat)d,c<b->a.cA[c]? =O d->decide (lx d=p)=aK) (Go:=λ_=>jZ a p = -1) (Rt:=λg=>g=jZ a p) ?_ ?_ (cT _) rfl (λc d j=>C) C) ?_
 ·rintro b e f h i;subst h;rw[iB f,aN];have h:a.cA[b]? =O a.cA[b]:=aM f;refine dy (x:=decide<|lx a.cA[b]=p) ?_<|jn (λb=>p5 ?_)<|λb=>fx ⟨bM C,λc d j c=>?_⟩
  ·grind [bS,w,NO,bN,XD,bW]
  ·exact(Kp h b i).symm
  grind
 ·grind [ga,jZ,GS,List.any_eq_false,dM,bR]
 intro b b;exact gf b (λe b=>o b.symm)<|λg b=>o b
end
def CQ(x y:Int×Nat×Nat):Prop:=x.1<y.1\/x.1=y.1/\(x.2.1<y.2.1\/x.2.1=y.2.1/\x.2.2<y.2.2)
def CQ.trans{x y z:Int×Nat×Nat}(h1:CQ x y)(h2:CQ y z):CQ x z:=by grind [CQ]
theorem CQ.asymm{x y:Int×Nat×Nat}(h1:CQ x y)(h2:CQ y x):False:=by grind [CQ]
theorem CQ.total{x y:Int×Nat×Nat}(h:x≠y):CQ x y\/CQ y x:=by
 grind [CQ]
theorem ZR{l m:aG (Int×Nat×Nat)}(hl:l.Pairwise CQ)(hm:m.Pairwise CQ)(a:l.Perm m):l=m:=
 by grind [List.Perm.eq_of_pairwise,CQ,CQ.asymm]
def uz(d:Nat->Nat->Int)(i n:Nat):aG (Int×Nat×Nat):=((List.range n).filter<|λk=>decide<|i<k).map λk=>(d i k,i,k)
def ry(d:Nat->Nat->Int)(m n:Nat):aG (Int×Nat×Nat):=(List.range m).flatMap λi=>uz d i n
def AY(d:Nat->Nat->Int)(m n:Nat):ry d (m+1) n=ry d m n++uz d m n:=by
 simp[ry,List.range_succ,List.flatMap_append]
theorem B5(d:Nat->Nat->Int)(i n:Nat):uz d i (n+1)=uz d i n++if i<n then [(d i n,i,n)]else []:=by
 grind [uz,List.range_succ]
theorem Iq(d:Nat->Nat->Int)(i n:Nat)(h:n<=i+1):uz d i n= []:=by
 grind [uz,List.map_eq_nil_iff,List.filter_eq_nil_iff]
def EF(d:Nat->Nat->Int)(i n:Nat):Z (uz d i n)<=n:=by
 unfold uz
 grind
def yK(d:Nat->Nat->Int)(n:Nat):∀m,Z (ry d m n)<=m*n
 | 0=>by simp[ry]
 |m+1=>by
  rw[AY,cK,Nat.succ_mul];have:=yK d n m;have:=EF d m n;omega
def EG{d:Nat->Nat->Int}{i n:Nat}{e:Int×Nat×Nat}:e∈uz d i n↔e.2.1=i/\i<e.2.2/\e.2.2<n/\e.1=d i e.2.2:=by
 unfold uz
 grind
theorem wE{d:Nat->Nat->Int}{m n:Nat}{e:Int×Nat×Nat}:e∈ry d m n↔e.2.1<m/\e.2.1<e.2.2/\e.2.2<n/\e.1=d e.2.1 e.2.2:=by
 unfold ry;simp only[List.mem_flatMap,A3,EG]
 grind
def SZ(x y:Int×Nat×Nat):Prop:=x.2.1<y.2.1\/x.2.1=y.2.1/\x.2.2<y.2.2
def Qq(d:Nat->Nat->Int)(i:Nat):∀n,(uz d i n).Pairwise SZ
 | 0=>by simp[uz]
 |n+1=>by
  rw[B5,fZ];refine⟨Qq d i n,by split <;> simp,λa e a a=>?_⟩;obtain⟨b,c,c,_⟩:=EG.1 e;split at a
  ·rw[ng]at a;subst a;exact .inr ⟨b,c⟩
  ·simp at a
def JM(d:Nat->Nat->Int)(n:Nat):∀m,(ry d m n).Pairwise SZ
 | 0=>by simp[ry]
 |m+1=>by
  rw[AY,fZ];refine⟨JM d n m,Qq d m n,λa a b b=>?_⟩;have c:=(wE.1 a).1;have a:=(EG.1 b).1;exact .inl C
def SZ.ne{x y:Int×Nat×Nat}(h:SZ x y):x≠y:=by grind [SZ]
def RM(d:Nat->Nat->Int)(m n:Nat):(ry d m n).Nodup:=(JM d n m).imp SZ.ne
noncomputable def Wo(l:aG (Int×Nat×Nat)):aG (Int×Nat×Nat):=l.mergeSort<|λa b=>decide<|¬CQ b a
theorem wF(l:aG (Int×Nat×Nat)):(Wo l).Perm l:=List.mergeSort_perm _ _
theorem ZS{l:aG (Int×Nat×Nat)}(h:l.Nodup):(Wo l).Pairwise CQ:=by
 have c:=List.pairwise_mergeSort (le:=λa b:Int×Nat×Nat=>decide (¬CQ b a)) (λa b d c d=>by
  simp only[dZ]at c d ⊢;intro e
  by_cases f:a=b
  ·grind
  ·rcases CQ.total f with h|h
   ·exact d<|e.trans h
   ·exact c h) (λa b=>by
  grind [CQ,CQ.asymm]) l
 have d:(Wo l).Nodup:=(wF l).symm.nodup h;have e:(Wo l).Pairwise λa b=>¬CQ b a:=c.imp λh=>by simpa using h
 exact(e.and d).imp λ⟨a,b⟩=>by
  grind [CQ.total]
def Wp{l m:aG (Int×Nat×Nat)}(h:l.Nodup)(a:m.Perm l)(hm:m.Pairwise CQ):m=Wo l:=by grind [ZR,ZS,wF]
def B6:(Nat->Nat)->aG (Int×Nat×Nat)->aG (Nat×Nat)
 |_,[]=>[]
 |r,e::l=>if r e.2.1=r e.2.2 then B6 r l else(e.2.1,e.2.2)::B6 (px r (r e.2.1) (r e.2.2)) l
def Lx:∀(l:aG (Int×Nat×Nat))(r:Nat->Nat)(p:Nat×Nat),p∈B6 r l->∃e∈l,p=(e.2.1,e.2.2)
 | [],_,_,a=>by simp[B6]at a
 |e::l,r,p,a=>by
  unfold B6 at a;split at a
  ·obtain⟨b,c,d⟩:=Lx l r p a;exact⟨b,by simp[c],d⟩
  ·rcases eO.1 a with rfl|a
   ·exact⟨e,G,rfl⟩
   ·obtain⟨b,c,d⟩:=Lx l _ p a;exact⟨b,by simp[c],d⟩
def Ly:∀(l:aG (Int×Nat×Nat))(r:Nat->Nat),Z (B6 r l)<=Z l
 | [],_=>by simp[B6]
 |a::l,r=>by
  unfold B6;split
  ·exact nS (Ly l r) G
  ·simp only[eK];have:=Ly l<|px r (r a.2.1)<|r a.2.2
   omega
def B7(n:Nat)(a:aG Int)(r:Nat->Nat):Prop:=Z a=n/\∀i j x y,i<n->j<n->a[i]? =O x->a[j]? =O y->(x=y↔r i=r j)
def T4{n:Nat}{r:Nat->Nat}(c:∀i,i<n->r (r i)=r i){a b:Nat}(i j:Nat):(px r (r a) (r b) i=px r (r a) (r b) j)↔(r i=r j\/(r i=r a\/r i=r b)/\(r j=r a\/r j=r b)):=by
 unfold px
 grind
def B7.join{n:Nat}{c o:aG Int}{r:Nat->Nat}(h:B7 n c r)(E:∀i,i<n->r (r i)=r i){a b:Nat}{p q:Int}(t:a<n)(u:b<n)(v:c[a]? =O p)(hq:c[b]? =O q)
  (hl:Z o=n) (s:∀k x,k<n->c[k]? =O x->o[k]? =O (if x=q then p else x)):B7 n o (px r (r a)<|r b):=by
 refine⟨hl,λi d x F e f l m=>?_⟩;rw[T4 E];have g:c[i]? =O (c[i]'(by rw[h.1];exact e)):=aM _;have j:c[d]? =O (c[d]'(by rw[h.1];exact f)):=aM _;have C:=s i _ e g;have D:=s d _ f j;rw[C]at l;rw[D]at m;injection l with l;injection m with m
 have w:=h.2 i d _ _ e f g j;have y:=h.2 i a _ _ e t g v;have z:=h.2 i b _ _ e u g hq;have A:=h.2 d a _ _ f t j v;have B:=h.2 d b _ _ f u j hq;rw[<-l,<-m,<-w,<-y,<-z,<-A,<-B];split <;> split <;> omega
def B7.init(n:Nat)(a:aG Int)(hl:Z a=n)(h:∀i,i<n->a[i]? =O ((i:Nat):Int)):B7 n a (λi=>i):=
 ⟨hl,λi a a a a a a a=>H⟩
def acQ(s:aG Bool):cU:=⟨s.map (λb=>bif b then 121 else 110)⟩
structure afz (M:aG (cU×Int)) (G:aG (aG Bool×aG rm)):Prop where
 has:∀s,oN M (acQ s)=(G.findIdx?<|λg=>decide<|g.1=s).isSome
 get:∀s i,G.findIdx? (λg=>decide<|g.1=s)=O i->eU M (acQ s) 0=((i:Nat):Int)
def T5(p:dP):Prop:=(-1000000<=p.X/\p.X<=1000000)/\(-1000000<=p.Y/\p.Y<=1000000)
def aeE(g:dP×dP):Prop:=T5 g.1/\T5 g.2
def R7:dP:=⟨0,0⟩
def aeG:aeE (R7,R7):=⟨⟨⟨I,I⟩,⟨I,I⟩⟩,⟨⟨I,I⟩,⟨I,I⟩⟩⟩
def T6(a:ir)(p:bX):dP:=(a.cA[(jZ a p).toNat]?).elim R7 dD.At
def Uz(x y:Int):Int:=max (x - y)<|y - x
theorem RN{x y:Int}(h1: -1000000<=x/\x<=1000000)(h2: -1000000<=y/\y<=1000000):0<=Uz x y/\Uz x y<=2000000:=by grind [Uz]
structure YZ (a:ir):Prop where
 CX:Z a.cA<=1000
 pts:∀x∈a.cA,T5 x.At
def Om{a:ir}(h:YZ a)(p:bX):T5 (T6 a p):=by
 unfold T6
 cases b:a.cA[(jZ a p).toNat]? with
 |none=>exact aeG.1
 |some c=>exact h.pts c (eR b)
theorem ZT{a:ir}{p:bX}{k:Nat}{x:dD}(e:jZ a p=(k:Int))(hx:a.cA[k]? =O x):T6 a p=x.At:=by grind [T6,cN]
def Qr{a:ir}(h:pA a):YZ a:=⟨h.CX,λc b=>by
 have:=(h.each c b).at_;unfold w6 vc iP at this;simp only[dE,dZ]at this
 exact⟨⟨C,C⟩,⟨C,C⟩⟩⟩
section
variable {N:Nat}
def DZ{x y:Int}(h1: -1000000<=x/\x<=1000000)(h2: -1000000<=y/\y<=1000000):pF N x y=O (Uz x y):=by
 grind [pF,Uz,Ev,vf]
end
end Go.Gk
namespace Go.Gk
open Go IntKind
section
variable {N:Nat}
def B8(l:aG dX)(k:Nat):aP Int:=
 match l[k]? with
 |none=>aQ
 |some p=>if fd p.Name=aK then O 5 else if(decide (p.Kind<1)||decide (p.Kind>7))=aA then O 4 else if(decide (p.bL<0)||decide (p.bL>200))=aA then O 1 else if rK dX.Name l k=aA then O 8 else aQ
def B9(p q:dX):Bool:=decide (p.bL>0)&&(q.bL==p.bL)&&(q.Kind != p.Kind)
def Lz(l:aG dX)(k:Nat):aP Int:=
 match l[k]? with
 |none=>aQ
 |some p=>if(l.take k).any (B9 p)=aA then O 12 else aQ
def pB(l:aG dX):Int:=if Z l=0 then 9 else if 200<Z l then 2 else((pR (Z l)<|B8 l).or<|pR (Z l)<|Lz l).getD 0
def zm(t:aG bD)(k:Nat):aP Int:=
 match t[k]? with
 |none=>aQ
 |some x=>if fd x.Name=aK then O 5 else if pB x.aZ≠0 then O (pB x.aZ)else if rK bD.Name t k=aA then O 8 else aQ
def gc(t:aG bD):Int:=if 200<Z t then 2 else(pR (Z t)<|zm t).getD 0
def Ho{R β:Type}(o:aP R)(f:Unit->aP β)(g:R->aP β):(NN o ()).cs f g=o.elim (f ()) g:=by cases o <;> rfl
def AZ(o:aP Int):(NN o ()).cs (λ_=>O (0:Int)) (λa=>O a)=O (o.getD 0):=by cases o <;> rfl
def vi(a b:aP Int):(a.elim (O<|b.getD 0) λc=>O c)=O ((a.or b).getD 0):=by cases a <;> rfl
def D0{l:aG dX}(h:bk l<=1048576):nU N l=O (pB l):=by
 have a:=mB l;unfold nU pB
 by_cases b:Z l=0
 ·grind
 ·have a:((Z l:Int)==0)=false:=H
  rw[aJ b,a,aR]
  by_cases a:200<Z l
  ·grind
  ·rw[aJ a,bW C,aR]
   rw[lP (B8 l) C (λa c _=>by
    have b:l[a]? =O l[a]:=aM c;have d:=FK b;rw[FL,Bw]at d;rw[bS b,w,rl C,w,Dg dX.Name b C];unfold B8;rw[b];dsimp only
    cases fd l[a].Name
    ·rfl
    ·cases decide (l[a].Kind<1)||decide (l[a].Kind>7)
     ·cases decide (l[a].bL<0)||decide (l[a].bL>200)
      ·cases rK dX.Name l a <;> rfl
      ·rfl
     ·rfl),w]
   rw[Ho]
   rw[lP (Lz l) C (λa c _=>by
    have b:l[a]? =O l[a]:=aM c;rw[bS b,w,pd l a C,w]
    have d:=sD (l:=l.take a) (φ:=λc=>iZ N c l[a]) (B9 l[a]) H (λe _=>by
     grind [iZ,B9,decide])
    have e:kz N (l.take a) (λc=>iZ N c l[a])=tj (l.take a) (λc=>iZ N c l[a]):=rfl;rw[e,d,w];unfold Lz;rw[b];dsimp only
    cases(l.take a).any (B9 l[a]) <;> rfl),w,AZ]
   exact vi _ _
def CR{t:aG bD}(h:bk t<=1048576):mP N t=O (gc t):=by
 have a:=mB t;unfold mP gc
 by_cases a:200<Z t
 ·grind
 ·rw[aJ a,bW C,aR]
  rw[lP (zm t) C (λb c _=>by
   have a:t[b]? =O t[b]:=aM c;have c:=FK a;rw[wj]at c;have c:=Bw t[b].Name;rw[bS a,w,rl C,w,D0 C,w,Dg bD.Name a C]
   grind [zm,fd,pB,rK,L4]),w,AZ]
def Fv(a b c:Int):gW N a b c=O (!(decide (a<b)||decide (a>c))):=by
 unfold gW;congr 1
 grind
def Ir{x:bD}(h:bk x<=1048576):ka N x=O (if fd x.Name=aK then 5 else pB x.aZ):=by
 rw[wj]at h;have o:=Bw x.Name;have n:=mB x.aZ;unfold ka;rw[zL C,w]
 cases fd x.Name
 ·rfl
 simp only[iL,aR,Bool.true_eq_false,if_false];unfold pB;generalize m:x.aZ=a at *
 by_cases i:Z a=0
 ·grind
 ·have g:((Z a:Int)==0)=false:=H
  rw[aJ i,g,aR]
  by_cases j:200<Z a
  ·grind
  ·rw[aJ j,bW C,aR]
   rw[lP (B8 a) C (λb e _=>by
    have c:a[b]? =O a[b]:=aM e;have k:=FK c;rw[FL,Bw]at k;rw[bS c,w,zL C,w,Fv,w,Fv,w,Dg dX.Name c C];unfold B8;rw[c];dsimp only
    cases fd a[b].Name
    ·rfl
    ·cases decide (a[b].Kind<1)||decide (a[b].Kind>7)
     ·cases decide (a[b].bL<0)||decide (a[b].bL>200)
      ·cases rK dX.Name a b <;> rfl
      ·rfl
     ·rfl),w]
   rw[Ho]
   rw[lP (Lz a) C (λb e _=>by
    have c:a[b]? =O a[b]:=aM e;rw[bS c,w,pd a b C,w]
    rw[GR (B9 a[b]) (12:Int) (by rw[cQ];omega) (λp d l=>by
     rw[bS l,w];have f:((decide (a[b].bL>0)&&(a[b].bL==d.bL))&&(a[b].Kind != d.Kind))=B9 a[b] d:=by
      unfold B9;rw[iK];simp;omega
     rw[f];cases B9 a[b] d <;> rfl),w]
    unfold Lz;rw[c];dsimp only
    cases(a.take b).any (B9 a[b]) <;> rfl),w,AZ]
   exact vi _ _
theorem Hp{t:aG bD}(h:bk t<=1048576):jQ N t=O (gc t):=by
 have a:=mB t;unfold jQ gc
 by_cases a:200<Z t
 ·grind
 ·rw[aJ a,bW C,aR]
  rw[lP (zm t) C (λb c _=>by
   have a:t[b]? =O t[b]:=aM c;have b:=FK a;rw[bS a,w,Ir C,w,Dg bD.Name a C]
   grind [zm,fd,Bool.true_eq_false,pB,rK,L4]),w,AZ]
structure On (t:aG bD):Prop where
 sorted:jx bD.Name t
 pins:∀x∈t,jx dX.Name x.aZ
theorem EH{e:Nat->aP Int}{m:Nat}(a:∀k r,e k=O r->r≠0)(h:(pR m e).getD 0=0):∀k,k<m->e k=none:=by
 cases a:pR m e with
 |none=>grind [nN]
 |some r=>
  grind [mM]
theorem T7{l:aG dX}{k:Nat}{r:Int}(h:B8 l k=O r):r≠0:=by
 grind [B8]
theorem Oo{l:aG dX}(h:pB l=0):jx dX.Name l:=by
 unfold pB at h;split at h
 ·cases h
 split at h
 ·cases h
 refine vY λa a=>?_
 cases a:pR (Z l) (B8 l)with
 |some a=>
  grind [mM,T7]
 |none=>
  grind [nN,B8,aM]
def Fw{t:aG bD}(h:gc t=0):On t:=by
 unfold gc at h;split at h
 ·cases h
 have c:∀a b,zm t a=O b->b≠0:=by
  grind [zm]
 have b:=EH c h;have c:∀a(b:a<Z t),pB t[a].aZ=0/\rK bD.Name t a=false:=by
  grind [zm,aM]
 refine⟨vY λa b=>(c a b).2,λa a=>?_⟩
 grind [dM,bR,Oo]
end
section
variable {N:Nat}
def M4{t:aG bD}{s:cU}(b:jx bD.Name t)(a:bk t<=1048576)(a:4194304<=N):oQ N t s=O (l0 bD.Name t s):=by
 have:=mB t;obtain⟨c,c,c⟩:=NR (N:=N) (key:=bD.Name) (l:=t) (s:=s) (φ:=nV N) (λc=>rfl) b C a
 grind [gl,nV,L5,oQ,w]
def T8{l:aG Part}{s:cU}(b:jx Part.Name l)(hl:Z l<=1048576)(a:4194304<=N):rB N l s=O (l0 Part.Name l s):=by
 obtain⟨c,c,c⟩:=NR (N:=N) (key:=Part.Name) (l:=l) (s:=s) (φ:=nX N) (λc=>rfl) b C a
 grind [gR,nX,L5,rB,w]
def Wq{y:bD}{s:cU}(b:jx dX.Name y.aZ)(hl:Z y.aZ<=1048576)(a:4194304<=N):sX N y s=O (l0 dX.Name y.aZ s):=by
 obtain⟨c,c,c⟩:=NR (N:=N) (key:=dX.Name) (l:=y.aZ) (s:=s) (φ:=oS N) (λc=>rfl) b C a
 grind [gq,oS,L5,sX,w]
def M5{t:aG bD}{s:cU}(hl:Z t<=1048576):lJ N t s=O (l0 bD.Name t s):=by
 rw[<-Kq C];rfl
def T9{l:aG Part}{s:cU}(hl:Z l<=1048576):n8 N l s=O (l0 Part.Name l s):=by
 rw[<-Kq C];rfl
def Wr{y:bD}{s:cU}(hl:Z y.aZ<=1048576):oK N y s=O (l0 dX.Name y.aZ s):=by
 rw[<-Kq C];rfl
def LA{α:Type}(key:α->cU)(l:aG α)(s:cU):(l0 key l s = -1/\∀x∈l,key x≠s)\/∃k x,l0 key l s=((k:Nat):Int)/\l[k]? =O x/\key x=s:=by
 rcases qI l (λx=>(key x).sU s)with⟨a,b⟩|⟨k,x,a,b,c,_⟩
 ·exact .inl ⟨a,λx d=>xN.1<|b x d⟩
 ·exact .inr ⟨k,x,a,b,tG.1 c⟩
def XI{α:Type}(key:α->cU)(l:aG α)(s:cU):decide (l0 key l s>=0)=l.any (λa=>(key a).sU s):=HM _ _
def vg(t:aG bD)(l:aG Part)(k:Nat):aP Int:=
 match l[k]? with
 |none=>aQ
 |some p=>if lR p.Name=aK then O 5 else if l0 bD.Name t p.sJ<0 then O 9 else if rK Part.Name l k=aA then O 8 else aQ
def jC(t:aG bD)(l:aG Part):Int:=if 1000<Z l then 2 else(pR (Z l)<|vg t l).getD 0
def LB{R:Type}(a:Bool)(z:Int)(b:Bool)(f:Int->R):
  ((bif(!a)then O (.rt<|f 5)else(bif z<0 then O (.rt<|f 9)else(D (O b) λc=>bif c then O (.rt<|f 8)else O (.nx ())))):aP (Fl Unit R)) =
  O (L4 ((if a=aK then O (5:Int)else if z<0 then O 9 else if b=aA then O 8 else aQ).map f) ()):=by
 grind [bN,L4,bW]
theorem LC(o:aP Int):o.map (λa=>a)=o:=G
def LD{t:aG bD}{l:aG Part}(f:jx bD.Name t)(g:bk t<=1048576)(hl:Z l<=1048576)(e:∀p∈l,Z p.Name.eI<=2097152)(a:4194304<=N):
  mQ N t l (lG N)=O (jC t l):=by
 unfold mQ jC
 by_cases b:1000<Z l
 ·grind
 ·rw[aJ b,bW C,aR]
  rw[lP (vg t l) C (λd b _=>by
   have c:l[d]? =O l[d]:=aM b;have d:=e _<|cH b
   rw[bS c,w,vd C a,w,M4 f g a,w,Dg Part.Name c C];refine(LB _ _ _ (λa:Int=>a)).trans ?_
   grind [LC,vg]),w,AZ]
def zP(t:aG bD)(l:aG Part)(p:bX):Bool:=
 match l.find? (λx=>x.Name.sU p.Part)with
 |none=>aK
 |some x=>match t.find? (λy=>y.Name.sU x.sJ)with
  |none=>aK
  |some y=>y.aZ.any (λq=>q.Name.sU p.bX)
def S3{α:Type}{l:aG α}{p:α->Bool}{k:Nat}{x:α}(a:OI l p=(k:Int))(hx:l[k]? =O x):l.find? p=O x:=by
 rcases qI l p with⟨a,_⟩|⟨b,c,a,a,a,a⟩
 ·omega
 ·have:b=k:=C
  grind [List.find?_eq_some_iff_getElem,bR,aM]
def Ua{α:Type}{l:aG α}{p:α->Bool}(a:OI l p = -1):l.find? p=none:=by
 grind [qI,List.find?_eq_none,decide]
def vp(t:aG bD)(l:aG Part):Prop:=∀x∈l,0<=l0 bD.Name t x.sJ
def I3{t:aG bD}{l:aG Part}{p:bX}(e:vp t l){a:aP Int}{ft:cU->aP Int}{b:bD->aP Int}
  (h1:a=O (l0 Part.Name l p.Part)) (h2:∀s,ft s=O (l0 bD.Name t s)) (d:∀y∈t,b y=O (l0 dX.Name y.aZ p.bX)):
  (D a λa=>D (bif a>=0 then(D (A l a) λa=>D (ft a.sJ) λa=>D (A t a) λQL=>D (b QL) λa=>O<|decide<|a>=0)else O aK) λa=>O a)=O (zP t l p):=by
 rw[h1,w];unfold zP
 rcases LA Part.Name l p.Part with⟨a,_⟩|⟨b,c,a,b,f⟩
 ·rw[Ua a,a];rfl
 ·rw[S3 a b,a,bN C,aN,bS b,w,h2,w];dsimp only;have a:=e c<|eR b
  rcases LA bD.Name t c.sJ with⟨a,_⟩|⟨b,y,a,b,_⟩
  ·omega
  ·rw[S3 a b,a,bS b,w,d y<|eR b,w,w,XI]
def Gb{t:aG bD}{l:aG Part}{p:bX}(b:On t)(hl:jx Part.Name l)(d:vp t l)(c:bk t<=1048576)(a:Z l<=1048576)(a:4194304<=N):
  uJ N t l p=O (zP t l p):=by
 exact I3 d (T8 hl C a) (λd=>M4 b.sorted c a) (λd c=>Wq (b.pins d c) (by
  have b:=Bv c;grind [wj,mB]) a)
def Mi{t:aG bD}{x:bV}{p:bX}(b:vp t x.gH)(a:bk t<=1048576)(a:bk x<=1048576):n9 N t x p=O (zP t x.gH p):=by
 rw[Bz]at a;have a:=mB x.gH;have c:=mB t
 exact I3 b (T9 C) (λb=>M5 C) (λb b=>Wr (by
  have a:=Bv b;grind [wj,mB]))
def Cv(a b:bX):Bool:=a.Part.v7 b.Part||(a.Part.sU b.Part&&a.bX.v7 b.bX)
def yL(l:aG bX)(k:Nat):Bool:=match l[k]?,l[k - 1]? with|some p,O q=>decide (0<k)&& !Cv q p|_,_=>aK
def Ws(a b:cU):0<Lib.compareBytes a.eI b.eI↔cU.lt b a:=by
 have d:=vD a.eI b.eI;have c:=tP a.eI b.eI
 rcases cU.GO a b with c|c|c
 ·have e:=d.2 c
  grind [cU.lt_asymm]
 ·grind [cU.lt_irrefl]
 ·refine⟨λ_=>c,λ_=>?_⟩;have e:¬Lib.compareBytes a.eI b.eI<0:=λe=>cU.lt_asymm c<|d.1 e
  grind [Lib.compareBytes,cU.Ko,cU.ext']
def Oq(a b:bX):Int:=if Lib.compareBytes a.Part.eI b.Part.eI=0 then Lib.compareBytes a.bX.eI b.bX.eI else Lib.compareBytes a.Part.eI b.Part.eI
def LF(a b:bX):dY N a b=O (Oq a b):=by
 show(bif Lib.compareBytes a.Part.eI b.Part.eI != 0 then O (Lib.compareBytes a.Part.eI b.Part.eI)else O (Lib.compareBytes a.bX.eI b.bX.eI))=_;unfold Oq
 by_cases c:Lib.compareBytes a.Part.eI b.Part.eI=0
 ·rw[c];rfl
 ·have:(Lib.compareBytes a.Part.eI b.Part.eI != 0)=true:=by rw[bne_iff_ne];exact c
  rw[this,aJ c];rfl
def Ub(a b:bX):decide (Oq a b<=0) = !Cv b a:=by
 unfold Oq Cv
 by_cases e:Lib.compareBytes a.Part.eI b.Part.eI=0
 ·have c:a.Part=b.Part:=cU.ext'<|(tP _ _).1 e
  have d:b.Part.v7 a.Part=false:=by rw[c,<-mz];exact cU.lt_irrefl _
  rw[aL e,d,tG.2 c.symm,Bool.false_or,Bool.true_and];have:=Ws a.bX b.bX;rw[iK,dZ,Bool.not_eq_true',<-mz];constructor
  ·intro d f;have:=this.2 f;omega
  ·intro d
   by_cases g:0<Lib.compareBytes a.bX.eI b.bX.eI
   ·exact absurd (this.1 g) d
   ·omega
 ·have c:b.Part≠a.Part:=λc=>e<|(tP _ _).2 (by rw[c])
  rw[aJ e,xN.2 c,Bool.false_and,Bool.or_false];have:=Ws a.Part b.Part;rw[iK,dZ,Bool.not_eq_true',<-mz];constructor
  ·intro d f;have:=this.2 f;omega
  ·intro d
   by_cases g:0<Lib.compareBytes a.Part.eI b.Part.eI
   ·exact absurd (this.1 g) d
   ·omega
def M6{l:aG bX}{k:Nat}{x:bX}{f:bX->aP Bool}(a:∀y,f y=O (!Cv y x))(hx:l[k]? =O x)(hl:Z l<=1048576):
  (bif decide ((k:Int)>0)then D (A l<|wrap .i64<|(k:Int) - 1) f else O aK)=O (yL l k):=by
 grind [bR,yL,bN,kn,ma,w,aM]
def Ca(l:aG p4)(p:bX):Bool:=l.any<|λn=>decide<|p∈n.aZ
def Cw(t:aG bD)(x:bV)(i:Nat)(l:aG bX)(k:Nat):aP Int:=
 match l[k]? with
 |none=>aQ
 |some p=>if zP t x.gH p=aK then O 9 else if yL l k=aA then O 8 else if Ca (x.cD.take i) p=aA then O 7 else aQ
def Cb(t:aG bD)(x:bV)(i:Nat):aP Int:=
 match x.cD[i]? with
 |none=>aQ
 |some n=>if lR n.Name=aK then O 5 else if Z n.aZ=0 then O 9 else if 500<Z n.aZ then O 2 else
   (pR (Z n.aZ)<|Cw t x i n.aZ).or (if 0<Z n.y5 then O 3 else if rK p4.Name x.cD i=aA then O 8 else aQ)
def A1(t:aG bD)(x:bV):Int:=if 1000<Z x.cD then 2 else(pR (Z x.cD)<|Cb t x).getD 0
def pC(t:aG bD)(x:bV):Int:=
 if gc t≠0 then gc t else if jC t x.gH≠0 then jC t x.gH else A1 t x
theorem Gc{t:aG bD}{l:aG Part}{k:Nat}{r:Int}(h:vg t l k=O r):r≠0:=by
 grind [vg]
structure S4 (t:aG bD) (l:aG Part):Prop where
 sorted:jx Part.Name l
 typed:vp t l
def zQ{t:aG bD}{l:aG Part}(h:jC t l=0):S4 t l:=by
 unfold jC at h;split at h
 ·cases h
 have a:=EH (λa b b=>Gc b) h;have c:∀a(b:a<Z l),0<=l0 bD.Name t l[a].sJ/\rK Part.Name l a=false:=by
  grind [vg,aM]
 refine⟨vY λa b=>(c a b).2,λa a=>?_⟩
 grind [dM,bR]
theorem Qs{t:aG bD}{x:bV}{i:Nat}{l:aG bX}{k:Nat}{r:Int}(h:Cw t x i l k=O r):r≠0:=by
 grind [Cw]
def Ju{l:aG bX}{a:bX->aP Bool}{m:aG (bX×Bool)}(b:bX->Bool)(hh:∀p∈l,a p=O (b p))(hl:Z l<=1048576):
  lH N l a m=O (if 500<Z l then((2:Int),m)else
   (pR (Z l) (λa=>match l[a]? with
    |none=>aQ
    |some p=>if b p=aK then O (9:Int)else if yL l a=aA then O 8 else if eU m p aK=aA then O 7 else aQ)).elim ((0:Int),yB m l aA) (λc=>(c,m))):=by
 unfold lH
 by_cases d:500<Z l
 ·grind
 ·rw[aJ d,bW C,aR]
  rw[lP (λa=>Option.map (λ(c:Int)=>(c,m)) (match l[a]? with
    |none=>aQ
    |some p=>if b p=aK then O (9:Int)else if yL l a=aA then O 8 else if eU m p aK=aA then O 7 else aQ)) C (λa d _=>by
   have c:l[a]? =O l[a]:=aM d;rw[bS c,w,hh _<|cH d,w,M6 (λd=>by rw[LF,w,Ub]) c hl,c];dsimp only
   cases b l[a]
   ·rfl
   ·cases yL l a
    ·cases eU m l[a] aK <;> rfl
    ·rfl),w,Ho,MP aA C,w]
  rw[<-Vz];generalize pR (Z l) _=a
  cases a <;> rfl
def Cc(x:bV)(i:Nat):aG (bX×Bool):=(x.cD.take i).foldl (λm n=>yB m n.aZ aA) []
theorem Uc(l:aG p4)(p:bX):∀(m:aG (bX×Bool)),eU (l.foldl (λm a=>yB m a.aZ aA) m) p aK=(Ca l p||eU m p aK):=by
 induction l with
 |nil=>intro m;rfl
 |cons a l b=>
  grind [KH,Ca]
def Ot(x:bV)(i:Nat)(p:bX):eU (Cc x i) p aK=Ca (x.cD.take i) p:=by
 grind [Cc,Uc,eU]
def Ou{x:bV}{i:Nat}{n:p4}(h:x.cD[i]? =O n):Cc x (i+1)=yB (Cc x i) n.aZ true:=by
 grind [Cc,bR,dQ]
structure R9 (x:bV):Prop where
 pl:Z x.gH<=1048576
 pn:∀p∈x.gH,Z p.Name.eI<=2097152
 nl:Z x.cD<=1048576
 nn:∀n∈x.cD,Z n.Name.eI<=2097152
 np:∀n∈x.cD,Z n.aZ<=1048576
def Wt{x:bV}(h:bk x<=1048576):R9 x:=by
 rw[Bz]at h;have a:=mB x.gH;have a:=mB x.cD;refine⟨C,λa b=>?_,C,λc a=>?_,λc a=>?_⟩
 ·have:=Bv b
  grind [NS,Bw]
 ·have:=Bv a
  grind [Kr,Bw]
 ·have:=Bv a
  grind [Kr,mB]
def CS{t:aG bD}{x:bV}(f:bk t<=1048576)(b:R9 x)(e:4194304<=N):lV N t x=O (pC t x):=by
 have i:=b.pl;have a:=b.nl;unfold lV pC;rw[CR f,w]
 by_cases a:gc t≠0
 ·grind
 replace a:=Decidable.not_not.1 a
 have h:=Fw a;have c:(gc t != 0)=false:=by rw[a];rfl
 rw[c,aR,aJ<|λd=>d a,LD h.sorted f b.pl b.pn e,w]
 by_cases a:jC t x.gH≠0
 ·grind
 replace a:=Decidable.not_not.1 a
 have g:=zQ a;have c:(jC t x.gH != 0)=false:=by rw[a];rfl
 rw[c,aR,aJ<|λd=>d a];unfold A1
 by_cases a:1000<Z x.cD
 ·grind
 ·rw[aJ a,bW C,aR]
  rw[Sy (s:=([]:aG (bX×Bool))) (Cc x) (Cb t x) C rfl (λa d _=>by
   have c:x.cD[a]? =O x.cD[a]:=aM d;have j:=b.nn _<|cH d
   have j:=b.np _<|cH d
   rw[Ou c]
   rw[bS c,w,vd C e,w,Ju (zP t x.gH) (λd _=>by
    unfold nY
    rw[Gb h g.sorted g.typed f i e,w]) C,w,Dg p4.Name c C]
   unfold Cb;rw[c];dsimp only
   cases lR x.cD[a].Name
   ·rfl
   simp only[iL,aR,Bool.true_eq_false,if_false]
   by_cases b:Z x.cD[a].aZ=0
   ·rw[aL b,b];rfl
   have c:(((Z x.cD[a].aZ:Nat):Int)==0)=false:=by grind
   rw[aJ b,c,aR]
   by_cases b:500<Z x.cD[a].aZ
   ·rw[aL b,aL b];rfl
   rw[aJ b,aJ b]
   have c:(pR (Z x.cD[a].aZ) (λb=>match x.cD[a].aZ[b]? with
    |none=>aQ
    |some d=>if zP t x.gH d=aK then O (9:Int)else if yL x.cD[a].aZ b=aA then O 8 else if eU (Cc x a) d aK=aA then O 7 else aQ))=pR (Z x.cD[a].aZ) (Cw t x a x.cD[a].aZ):=by
    congr 1;funext b;unfold Cw;split
    ·rfl
    ·rw[Ot]
   rw[c]
   cases b:pR (Z x.cD[a].aZ) (Cw t x a x.cD[a].aZ)with
   |some c=>
    obtain⟨d,_,d,_⟩:=mM.1 b;have b:(c != 0)=true:=by grind [Qs]
    simp only[Option.elim_some,b,aN];rfl
   |none=>
    simp only[Option.elim_none,bne_self_eq_false,aR,Option.none_or]
    by_cases b:0<Z x.cD[a].y5
    ·rw[aL b,bN C];rfl
    ·rw[aJ b,bW C]
     cases rK p4.Name x.cD a <;> rfl),w]
  cases pR (Z x.cD) (Cb t x) <;> rfl
def D1{t:aG bD}{x:bV}(b:bk t<=1048576)(c:bk x<=1048576)(a:4194304<=N):lV N t x=O (pC t x):=CS b (Wt c) a
def Ud{l:aG p4}{p:bX}(a:bk l<=1048576):lK N l p=O (Ca l p):=by
 have:=mB l;unfold lK
 rw[GR (λa=>decide (p∈a.aZ)) aA C (λb a c=>by
  have b:=FK c;rw[Kr]at b;have:=mB a.aZ;have b:oL N a.aZ p=HN a.aZ p:=rfl
  grind [bS,w,NQ,decide]),w]
 unfold Ca
 cases l.any _ <;> rfl
theorem Is{t:aG bD}{x:bV}(h:bk t<=1048576)(i:bk x<=1048576)(e:4194304<=N):
  kc N t x=O (if jC t x.gH≠0 then jC t x.gH else A1 t x):=by
 have a:=Bz x;have b:=mB x.cD;have j:=mB x.gH;have b:=mB t;unfold kc
 by_cases b:1000<Z x.gH
 ·grind [jC,bN]
 rw[bW C,aR]
 rw[lP (vg t x.gH) C (λb d _=>by
  have c:x.gH[b]? =O x.gH[b]:=aM d;have a:=FK c;rw[NS]at a;have f:=Bw x.gH[b].Name;rw[bS c,w,Fm C e,w,M5 C,w,Dg Part.Name c C];refine(LB _ _ _ (λx:Int=>x)).trans ?_
  grind [LC,vg]),w,Ho]
 have a:jC t x.gH=(pR (Z x.gH)<|vg t x.gH).getD 0:=by grind [jC]
 cases g:pR (Z x.gH) (vg t x.gH)with
 |some l=>
  grind [mM,Gc]
 |none=>
  rw[g]at a;simp only[Option.getD_none]at a;have k:=zQ a;rw[a,aJ<|λa=>a rfl];simp only[Option.elim_none];unfold A1
  by_cases a:1000<Z x.cD
  ·grind
  ·rw[aJ a,bW C,aR]
   rw[lP (Cb t x) C (λa g _=>by
    have c:x.cD[a]? =O x.cD[a]:=aM g;have f:=FK c;rw[Kr,Bw]at f;have j:=mB x.cD[a].aZ;rw[bS c,w,Fm C e,w,Dg p4.Name c C];unfold Cb;rw[c];dsimp only
    cases lR x.cD[a].Name
    ·rfl
    simp only[iL,aR,Bool.true_eq_false,if_false]
    by_cases c:Z x.cD[a].aZ=0
    ·rw[aL c,c];rfl
    have e:(((Z x.cD[a].aZ:Nat):Int)==0)=false:=by grind
    rw[aJ c,e,aR]
    by_cases c:500<Z x.cD[a].aZ
    ·rw[aL c,bN C];rfl
    rw[aJ c,bW C,aR]
    rw[lP (Cw t x a x.cD[a].aZ) C (λb d _=>by
     have c:x.cD[a].aZ[b]? =O x.cD[a].aZ[b]:=aM d;rw[bS c,w,Mi k.typed h i,w,M6 (f:=λd=>D (oc N d x.cD[a].aZ[b]) λd=>O<|!d) (λd=>rfl) c C,w,pd _ a C,w,Ud (by grind [Sz]),w];unfold Cw;rw[c];dsimp only
     cases zP t x.gH x.cD[a].aZ[b]
     ·rfl
     ·cases yL x.cD[a].aZ b
      ·cases Ca (x.cD.take a) x.cD[a].aZ[b] <;> rfl
      ·rfl),w,Ho]
    cases pR (Z x.cD[a].aZ) (Cw t x a x.cD[a].aZ)with
    |some l=>rfl
    |none=>
     simp only[Option.elim_none,Option.none_or]
     by_cases b:0<Z x.cD[a].y5
     ·rw[aL b,bN C];rfl
     ·rw[aJ b,bW C]
      cases rK p4.Name x.cD a <;> rfl),w,AZ]
def It{t:aG bD}{x:bV}(a:bk t<=1048576)(a:bk x<=1048576)(a:4194304<=N):kd N t x=O (pC t x):=by
 unfold kd pC
 grind [Hp,w,Is,gc]
end
section
variable {N:Nat}
structure vh (t:aG bD) (x:bV):Prop where
 types:On t
 parts:S4 t x.gH
 CX:Z x.gH<=1000
 JN:Z x.cD<=1000
 JO:∀n∈x.cD,0<Z n.aZ/\Z n.aZ<=500
 ac1:∀n∈x.cD,n.y5= []
 aeI:jx p4.Name x.cD
 path:∀n∈x.cD,lR n.Name=aA
 aeW:∀p∈x.gH,lR p.Name=aA
 pin:∀n∈x.cD,∀p∈n.aZ,zP t x.gH p=aA
 ZU:∀n∈x.cD,∀(i j:Nat)(p q:bX),i<j->n.aZ[i]? =O p->n.aZ[j]? =O q->Cv p q=aA
 once:∀(i j:Nat)(n m:p4)(p:bX),x.cD[i]? =O n->x.cD[j]? =O m->p∈n.aZ->p∈m.aZ->i=j
theorem Qt{a b c:bX}(h1:Cv a b=aA)(h2:Cv b c=aA):Cv a c=true:=by
 unfold Cv at *;simp only[jk,dE,tG]at *
 rcases h1 with h1|⟨e,h1⟩
 ·rcases h2 with h2|⟨d,_⟩
  ·exact .inl<|cU.lt_trans h1 h2
  grind
 ·rcases h2 with h2|⟨d,h2⟩
  ·grind
  ·exact .inr ⟨e.trans d,cU.lt_trans h1 h2⟩
theorem Ue{l:aG bX}(h:∀k,k<Z l->yL l k=aK):∀(i j:Nat)(p q:bX),i<j->l[i]? =O p->l[j]? =O q->Cv p q=true:=by
 intro i j
 induction j with
 |zero=>omega
 |succ j a=>
  grind [bR,yL,yY,aM,Qt]
def Uf{t:aG bD}{x:bV}{k:Nat}{r:Int}(h:Cb t x k=O r):r≠0:=by
 unfold Cb at h;split at h
 ·cases h
 split at h
 ·grind
 split at h
 ·grind
 split at h
 ·grind
 cases a:pR _ (Cw t x k _)with
 |some b=>
  rw[a]at h
  grind [mM,Qs]
 |none=>
  grind
def Ov{t:aG bD}{x:bV}(h:pC t x=0):vh t x:=by
 unfold pC at h
 by_cases n:gc t≠0
 ·omega
 rw[aJ n]at h
 by_cases o:jC t x.gH≠0
 ·omega
 rw[aJ o]at h
 replace n:=Decidable.not_not.1 n
 replace o:=Decidable.not_not.1 o
 unfold A1 at h
 by_cases u:1000<Z x.cD
 ·omega
 rw[aJ u]at h;have e:=EH (λf A g=>Uf g) h;have s:∀a(k:a<Z x.cD),lR x.cD[a].Name=aA/\0<Z x.cD[a].aZ/\Z x.cD[a].aZ<=500/\x.cD[a].y5= []/\rK p4.Name x.cD a=aK/\
   ∀f(g:f<Z x.cD[a].aZ),zP t x.gH x.cD[a].aZ[f]=aA/\yL x.cD[a].aZ f=aK/\Ca (x.cD.take a) x.cD[a].aZ[f]=false:=by
  intro a k;have b:=e a k;unfold Cb at b;rw[aM k]at b;dsimp only at b;split at b
  ·cases b
  split at b
  ·cases b
  split at b
  ·cases b
  cases d:pR (Z x.cD[a].aZ) (Cw t x a x.cD[a].aZ)with
  |some A=>rw[d]at b;cases b
  |none=>
   rw[d]at b;simp only[Option.none_or]at b;split at b
   ·cases b
   split at b
   ·cases b
   rename_i D E F G B;refine⟨H,C,C,List.length_eq_zero_iff.1 C,H,λf g=>?_⟩;have m:=nN.1 d f g;unfold Cw at m;rw[aM g]at m;dsimp only at m
   repeat' split at m
   all_goals first|(simp at m;done)|simp_all
 have I:∀f(g:f<Z x.gH),lR x.gH[f].Name=true:=by
  grind [jC,EH,Gc,vg,aM]
 have J:∀c∈x.cD,∃a,∃k:a<Z x.cD,c=x.cD[a]:=λc e=>by
  grind [dM,bR]
 refine⟨Fw n,zQ o,?_,C,λc e=>?_,λc e=>?_,vY λa k=>(s a k).2.2.2.2.1,λc e=>?_,λj z=>?_,λc e j z=>?_,λc e=>?_,?_⟩
 ·grind [jC]
 ·grind
 ·grind
 ·grind
 ·grind [dM,bR]
 ·grind [dM,bR]
 ·grind [Ue]
 ·have one:∀(a i:Nat)(c l:p4)(j:bX),a<i->x.cD[a]? =O c->x.cD[i]? =O l->j∈c.aZ->j∈l.aZ->False:=by
   intro a i c l j v e p r q;obtain⟨w,rfl⟩:=bR.1 p;obtain⟨f,g⟩:=dM q;obtain⟨y,rfl⟩:=bR.1 g;have d:=((s i w).2.2.2.2.2 f y).2.2;unfold Ca at d;rw[List.any_eq_false]at d;refine d c (eR (i:=a) (by rw[List.getElem?_take_of_lt v];exact e)) ?_;simpa using r
  intro a i c l j e p r q
  rcases Nat.lt_trichotomy a i with d|d|d
  ·exact(one a i c l j d e p r q).elim
  ·exact d
  ·exact(one i a l c j d p e q r).elim
def kA(x:bV)(p:bX):Int:=OI x.cD<|λn=>decide<|p∈n.aZ
def qf(x:bV)(i:Nat):aG (bX×Int):=(List.range i).foldl (λm k=>yB m ((x.cD[k]?.map p4.aZ).getD []) ((k:Nat):Int)) []
theorem D2{x:bV}{i:Nat}{n:p4}(h:x.cD[i]? =O n):qf x (i+1)=yB (qf x i) n.aZ (i:Int):=by
 grind [qf,List.range_succ]
def Wu{x:bV}(a:R9 x):pL N x=O (qf x (Z x.cD)):=by
 have:=a.nl;unfold pL
 rw[Bu (s:=([]:aG (bX×Int))) (qf x) C rfl (λc b=>by
  have d:x.cD[c]? =O x.cD[c]:=aM b;have:=a.np _<|cH b
  grind [bS,w,MP,D2]),w]
def XJ{x:bV}(a:bk x<=1048576):pL N x=O (qf x (Z x.cD)):=Wu<|Wt a
def I4{x:bV}{p:bX}:∀(i:Nat),i<=Z x.cD->oN (qf x i) p=(x.cD.take i).any (λa=>decide<|p∈a.aZ)
 | 0,_=>by simp[qf,oN]
 |i+1,a=>by
  have a:x.cD[i]? =O x.cD[i]:=aM C;rw[D2 a,Rk,I4 i C,dQ C,List.any_append];simp[Bool.or_comm]
def I5{x:bV}{p:bX}{j:Nat}(hj:∀k n,x.cD[k]? =O n->p∈n.aZ->k=j)(z:Int):∀(i:Nat),i<=Z x.cD->eU (qf x i) p z=if(x.cD.take i).any (λn=>decide<|p∈n.aZ)=aA then(j:Int)else z
 | 0,_=>by simp[qf,eU]
 |i+1,a=>by
  have b:x.cD[i]? =O x.cD[i]:=aM C;rw[D2 b,KH,I5 hj z i C,dQ C,List.any_append]
  by_cases a:p∈x.cD[i].aZ
  ·have c:=hj i _ b a;rw[aL a,aL (by simp[a])];omega
  ·rw[aJ a];simp[a]
def M7{t:aG bD}{x:bV}(h:vh t x)(p:bX):
  oN (qf x (Z x.cD)) p=decide (kA x p>=0)/\(0<=kA x p->∀z,eU (qf x (Z x.cD)) p z=kA x p):=by
 have b:oN (qf x (Z x.cD)) p=x.cD.any (λa=>decide<|p∈a.aZ):=by rw[I4 _<|du _,fz]
 unfold kA;refine⟨by rw[b,HM],λb z=>?_⟩
 rcases qI x.cD (λa=>decide<|p∈a.aZ)with⟨b,_⟩|⟨c,a,b,d,e,_⟩
 ·omega
 ·have e:p∈a.aZ:=H
  rw[I5 (j:=c) (λi j f g=>h.once i c j a p f d g e) z _<|du _,fz,b,aL]
  grind
end
end Go.Gk
namespace Go.Gk
open Go IntKind Classical
def gU(a:ir)(b:aG bX):aG bX:=b.filter λp=>decide<|0<=jZ a p
def vj(a:ir)(p:bX):dD:=(a.cA[(jZ a p).toNat]?).getD default
def iW(L:aG bX)(i:Nat):bX:=(L[i]?).getD default
def ZV(a:ir)(p q:bX):Int:=Uz (T6 a p).X (T6 a q).X+Uz (T6 a p).Y (T6 a q).Y
def vL(a:ir)(L:aG bX)(i k:Nat):Int:=ZV a (iW L i)<|iW L k
noncomputable def Hq(a:ir)(L:aG bX):aG (Nat×Nat):=B6 (λi=>i)<|Wo<|ry (vL a L) (Z L) (Z L)
def Jv(L:aG bX)(e:Nat×Nat):k:=⟨iW L e.1,iW L e.2,aA⟩
noncomputable def Hr(a:ir)(b:aG bX):aG k:=(Hq a<|gU a b).map<|Jv<|gU a b
noncomputable def zR(x:bV)(a:ir):aG k:=x.cD.flatMap λn=>Hr a n.aZ
def yM{a:ir}{p:bX}(h:0<=jZ a p):a.cA[(jZ a p).toNat]? =O (vj a p)/\lx (vj a p)=p/\(vj a p).At=T6 a p:=by
 grind [Wm,vj,cN,ZT]
def Cd{a:ir}{b:aG bX}{p:bX}:p∈gU a b↔p∈b/\0<=jZ a p:=by simp[gU]
def LG{L:aG bX}{i:Nat}(h:i<Z L):L[i]? =O (iW L i):=by unfold iW;grind
def M8{L:aG bX}{i:Nat}(h:i<Z L):iW L i∈L:=eR<|LG h
def Ug{a:ir}{L:aG bX}{e:Nat×Nat}(h:e∈Hq a L):e.1<e.2/\e.2<Z L:=by
 obtain⟨b,b,rfl⟩:=Lx _ _ _ h
 grind [wE,wF]
def Uh(a:ir)(L:aG bX):Z (Hq a L)<=Z L*Z L:=by
 refine nS (Ly _ _) ?_;rw[(wF _).length_eq];simp[yK]
def yN(e:Int×Nat×Nat):aC:=⟨e.1,((e.2.1:Nat):Int),((e.2.2:Nat):Int)⟩
def J1(p:aC):Int×Nat×Nat:=(p.Nq,p.i.toNat,p.k.toNat)
theorem Qu(e:Int×Nat×Nat):J1 (yN e)=e:=by rfl
def Pr(x y:aC):Prop:=x.Nq<y.Nq\/x.Nq=y.Nq/\(x.i<y.i\/x.i=y.i/\x.k<y.k)
theorem Y3{x y:Int×Nat×Nat}:Pr (yN x) (yN y)↔CQ x y:=by
 grind [Pr,CQ,yN]
def Z5(x y:aC):Int:=if x.Nq<y.Nq then -1 else if x.Nq>y.Nq then 1 else 0
section
variable {N:Nat}{a:ir}
def Qv(x y:aC):mW N x y=O (Z5 x y):=by
 unfold mW tD sY Z5
 grind
def Wv{l:aG (Int×Nat×Nat)}(h:l.Pairwise SZ):(l.map yN).Pairwise (DV Pr<|Fu Z5):=by
 rw[List.pairwise_map];refine h.imp λ{x y}a=>?_;unfold SZ at a;have a:Fu Z5 (yN y) (yN x)=decide (y.1<x.1):=by
  grind [Fu,Z5,yN]
 refine⟨?_,?_⟩
 all_goals grind [Y3,CQ]
def Ww{l:aG (Int×Nat×Nat)}(h:l.Pairwise SZ)(hl:Z l<=134217728)(d:nq N):fL N (l.map yN) (mW N)=O ((Wo l).map yN):=by
 obtain⟨a,b,c,f⟩:=Mf (N:=N) (φ:=mW N) (cf:=Z5) (R:=Pr) Qv (λx y e b c=>by grind [Pr]) (λx y b c=>by grind [Pr]) (Wv h) H d;rw[b];congr 1;have d:∀b∈a,yN (J1 b)=b:=λb g=>by
  grind [Qu]
 have e:a=(a.map J1).map yN:=by
  rw[List.map_map];refine(List.map_id' a).symm.trans<|List.map_congr_left λb g=>?_
  grind
 have b:a.map J1=Wo l:=by
  refine Wp (h.imp SZ.ne) ?_ ?_
  ·have:=c.map J1;rw[List.map_map]at this;refine this.trans<|List.Perm.of_eq ?_
   refine Eq.trans (List.map_congr_left λa _=>?_)<|List.map_id' l
   exact Qu a
  ·rw[List.pairwise_map];refine List.Pairwise.imp_of_mem (λ{x y}c g a=>?_) f;rw[<-d x c,<-d y g,Y3]at a;exact a
 rw[e,b]
def RP(g:pA a){b:aG bX}(c:Z b<=1048576)(k:nq N):
  lT (Z b) (λ(e:Nat)(c:aG dD)=>(D (A b (e:Int)) λh=>D (lA N a h) λd=>D (bif d>=0 then(D (A a.cA d) λi=>D (gx 56 c ([i]:aG dD)) λj=>O j)else O c) λf=>O f:aP (aG dD))) ([]:aG dD)=O ((gU a b).map<|vj a):=by
 have:=Bu (m:=Z b) (s:=([]:aG dD)) (body:=λ(e:Nat)(c:aG dD)=>(D (A b (e:Int)) λh=>D (lA N a h) λd=>D (bif d>=0 then(D (A a.cA d) λi=>D (gx 56 c ([i]:aG dD)) λj=>O j)else O c) λf=>O f:aP (aG dD)))
  (λc=>(gU a (b.take c)).map (vj a)) C rfl (λc d=>by
  have e:b[c]? =O b[c]:=aM d;have lm:Z (gU a<|b.take c)<=c:=by
   unfold gU
   grind
  rw[bS e,w,Ip g _ k,w];have d:gU a (b.take<|c+1)=gU a (b.take c)++if 0<=jZ a b[c]then [b[c]]else []:=by
   grind [gU,dQ,jZ]
  rw[d]
  by_cases d:0<=jZ a b[c]
  ·obtain⟨e,e,e⟩:=yM d;have e:((jZ a b[c]).toNat:Int)=jZ a b[c]:=Int.toNat_of_nonneg d
   grind [bN,jZ,bS,w,jA,dR,eK,List.length_nil]
  grind)
 grind
def RQ(g:pA a){L:aG bX}(m:∀p∈L,0<=jZ a p)(hl:Z L<=500)(b:nq N):
  lT (Z (L.map<|vj a)) (λ(c:Nat)(h:aG aC)=>(D (A (L.map<|vj a) (c:Int)) λe=>D (gh (λ(b:aG aC×Int)=>(bif decide (b.2<(Z (L.map<|vj a):Int))then(D (A (L.map<|vj a) b.2) λf=>D (pF N e.At.X f.At.X) λi=>D (pF N e.At.Y f.At.Y) λe=>D (gx 24 b.1 ([(⟨wrap .i64<|i+e,(c:Int),b.2⟩:aC)]:aG aC)) λe=>O<|.nx (e,wrap .i64<|b.2+1))else(O<|.br (b.1,b.2)):aP (Fl (aG aC×Int) Empty))) N (h,wrap .i64<|(c:Int)+1)) λc=>c.cs (λ(b:aG aC×Int)=>O b.1) (λq=>q.elim):aP (aG aC))) ([]:aG aC)=O ((ry (vL a L) (Z L) (Z L)).map yN):=by
 have k:=Qr g;have b:Z (L.map<|vj a)=Z L:=G
 have n:∀c,(e:c<Z L)->(L.map<|vj a)[c]? =O (vj a L[c]):=λc e=>H
 rw[b];refine l_ ?_;refine(p9 (λb f=>f=(ry (vL a L) b (Z L)).map yN) C (by simp[ry])<|λb f i h=>?_).mono<|λf j=>j
 subst h;rw[bS<|n b i,w,bM C];have l:=yK (vL a L) (Z L) b;have l:Z (ry (vL a L) b (Z L))<=250000:=nS l<|Nat.mul_le_mul (show b<=500 by omega) hl
 refine v (kg (n:=Z L) (λd=>d.2) (λc d=>b+1<=c/\d.1=(ry (vL a L) b (Z L)).map yN++(uz (vL a L) b c).map yN) (Go:=λd=>d.1=(ry (vL a L) (b+1) (Z L)).map yN) (Rt:=λ_=>False) ?_ ?_ (k0:=b+1) C rfl ⟨du _,by simp[Iq,du]⟩ C) ?_
 ·rintro c⟨f,l⟩e h⟨l,l⟩;dsimp only at h l ⊢;subst h;subst l;have h:=EF (vL a L) b c;have l:=(yM<|m _<|cH i).2.2;have r:=(yM<|m _<|cH e).2.2;have h:=Om k L[b];have b:=Om k L[c];rw[iB e,aN,bS<|n c e,w,l,r,DZ h.1 b.1,w,DZ h.2 b.2,w];have c:=RN h.1 b.1;have c:=RN h.2 b.2;rw[fG C C,jA H,w];refine fx ⟨bM C,C,?_⟩;dsimp only;rw[B5,aL C,fY,eM];congr 2;unfold vL ZV iW;rw[aM i,aM e];rfl
 ·simp[nG,aR,ga,AY,fY]
 ·intro b b;exact gf b (λf j=>o j)<|λq b=>b.elim
def M9(r:Nat->Nat)(e:Int×Nat×Nat)(l:aG (Int×Nat×Nat)):B6 r (e::l)=if r e.2.1=r e.2.2 then B6 r l else(e.2.1,e.2.2)::B6 (px r (r e.2.1)<|r e.2.2) l:=rfl
def Wx{L:aG bX}(l:∀p∈L,0<=jZ a p)(hl:Z L<=500){E:aG (Int×Nat×Nat)}(q:∀e∈E,e.2.1<Z L/\e.2.2<Z L)(b:Z E<=1000000){g:aG k}(b:Z g<=1000000000){f:aG Int}{i:Nat->Nat}(j:UF (Z L) f i)(b:nq N):
  Ok (lT (Z (E.map yN)) (λ(b:Nat)(c:aG k×aG Int)=>(D (A (E.map yN) (b:Int)) λb=>D (eC N c.2 b.i) λh=>D (eC N h.2 b.k) λd=>D (bif h.1 != d.1 then(D (eV N d.2 b.i b.k) λm=>D (A (L.map<|vj a) b.i) λh=>D (A (L.map<|vj a) b.k) λb=>D (gx 72 c.1 ([(⟨(⟨h.Part,h.bX⟩:bX),(⟨b.Part,b.bX⟩:bX),aA⟩:k)]:aG k)) λb=>O (b,m))else O (c.1,d.2)) λb=>O (b.1,b.2):aP (aG k×aG Int))) (g,f))
   (λd=>d.1=g++(B6 i E).map (Jv L)):=by
 have m:∀b,(h:b<Z L)->(L.map<|vj a)[b]? =O (vj a L[b]):=λb h=>H
 rw[dR];refine(p9 (λb d=>∃c f,UF (Z L) d.2 c/\d.1=g++f/\Z f<=b/\f++(B6 c<|E.drop b).map (Jv L)=(B6 i E).map (Jv L)) C ⟨i,[],j,G,G,G⟩<|λb d h⟨c,f,i,j,n,g⟩=>?_).mono<|λd⟨c,f,i,j,n,g⟩=>?_
 ·grind [List.drop_length,B6]
 ·obtain⟨n,n⟩:=d;dsimp only at i j ⊢;subst j;have r:(E.map yN)[b]? =O (yN E[b]):=H
  have d:=q _<|cH h
  have j:E.drop b=E[b]::E.drop (b+1):=r6 h;rw[j]at g;obtain⟨h,h,j⟩:=BT (N:=N) i d.1 C;obtain⟨i,i,n⟩:=BT (N:=N) j d.2 C;rw[bS r,w,show(yN E[b]).i=((E[b].2.1:Nat):Int)from rfl,show(yN E[b]).k=((E[b].2.2:Nat):Int)from rfl,h,w];dsimp only;rw[i,w];dsimp only;rw[M9]at g
  by_cases h:c E[b].2.1=c E[b].2.2
  ·grind [w,o,Nat.le_succ_of_le]
  ·rw[aJ h]at g;obtain⟨h,h,i⟩:=SJ (N:=N) n d.1 d.2 C;obtain⟨_,j,_⟩:=yM<|l _<|cH d.1
   obtain⟨_,n,_⟩:=yM<|l _<|cH d.2
   rw[show(((c E[b].2.1:Nat):Int) != ((c E[b].2.2:Nat):Int))=aA by grind,aN,h,w,bS (m _ d.1),w,bS (m _ d.2),w,
    jA H,w,w]
   refine o ⟨px c (c E[b].2.1)<|c E[b].2.2,f++[Jv L (E[b].2.1,E[b].2.2)],i,?_,by simp;omega,?_⟩
   ·dsimp only;rw[eM];congr 3;unfold Jv iW;rw[aM d.1,aM d.2];show(⟨lx<|vj a L[E[b].2.1],lx<|vj a L[E[b].2.2],aA⟩:k)=_;rw[j,n];rfl
   ·rw[gQ]at g;rw[<-g,eM];rfl
def Ow{α γ:Type}{l:aG α}{k:Nat}(a:k<Z l)(f:α->aG γ):(l.take<|k+1).flatMap f=(l.take k).flatMap f++f l[k]:=by
 grind [dQ]
def Ui(a:ir)(b:aG bX):Z (Hr a b)<=Z b*Z b:=by
 unfold Hr;rw[dR];have d:=Uh a<|gU a b
 have c:Z (gU a b)<=Z b:=qW _ _;exact nS d<|Nat.mul_le_mul c c
def Hs{ns:aG p4}(h:∀n∈ns,Z n.aZ<=500)(a:ir):Z (ns.flatMap λn=>Hr a n.aZ)<=Z ns*250000:=by
 induction ns with
 |nil=>simp
 |cons n ns b=>
  rw[List.flatMap_cons,cK,eK,Nat.succ_mul];have b:=Ui a n.aZ;have b:=Nat.mul_le_mul (h n G)<|h n G
  grind
def uA{t u:k}:qA t u<0↔vl t u:=by
 grind [qA,vl,iQ,qe,vK,yJ.irrefl]
def vl.tot(x y:k):vl x y\/(x.A=y.A/\x.B=y.B)\/vl y x:=by
 grind [vl,yJ.total]
def vl.irr(x:k):¬vl x x:=λa=>by
 rcases a with a|⟨_,a⟩
 ·exact yJ.irrefl _ a
 ·exact yJ.irrefl _ a
def Ht{l:aG k}(hl:Z l<4611686018427387904):∃m,y4 (eZ N) l=O m/\m.Perm l/\m.Pairwise (λa b=>¬vl b a):=by
 have h:∀a,a∈l->∀b,b∈l->∀f,f∈l->¬qA a b<0->¬qA b f<0->¬qA a f<0:=by
  intro a _ b _ f _ d e g;rw[uA]at d e g
  rcases vl.tot a b with c|⟨i,i⟩|c
  ·exact d c
  ·grind [vl]
  ·exact e<|c.trans g
 obtain⟨m,d,e,g⟩:=G6 (φ:=eZ N) (l:=l) qA (λa _ b _=>Cu a b) (λa _ c=>vl.irr a<|uA.1 c) (λa _ b _ f _ d e=>uA.2<|(uA.1 d).trans<|uA.1 e) h hl
 simp_all[uA]
def Wy{t:aG bD}{x:bV}(h:vh t x)(g:pA a)(f:nq N):∃m,mH N x a=O m/\m.Perm (zR x a)/\m.Pairwise (λb d=>¬vl d b):=by
 have n:=h.JN;have i:∀c∈x.cD,Z c.aZ<=500:=λc e=>(h.JO c e).2;have q:Ok (mH N x a) (λm=>m.Perm (zR x a)/\m.Pairwise (λb d=>¬vl d b)):=by
  unfold mH;refine v (p9 (λb h=>h=(x.cD.take b).flatMap λc=>Hr a c.aZ) C G<|λb h j d=>?_)<|λh d=>?_
  ·subst d;have p:x.cD[b]? =O x.cD[b]:=aM j;have k:=i _<|cH j
   have l:=Hs (ns:=x.cD.take b) (λc e=>i c<|List.mem_of_mem_take e) a;rw[cQ]at l;have e:min b (Z x.cD)*250000<=1000*250000:=Nat.mul_le_mul_right _ C;have l:∀e∈gU a x.cD[b].aZ,0<=jZ a e:=λe k=>(Cd.1 k).2;have e:Z (gU a x.cD[b].aZ)<=500:=nS (qW _ _) k;have k:=yK (vL a<|gU a x.cD[b].aZ) (Z (gU a x.cD[b].aZ)) (Z (gU a x.cD[b].aZ));have k:Z (gU a x.cD[b].aZ)*Z (gU a x.cD[b].aZ)<=500*500:=Nat.mul_le_mul e e;rw[bS p,w,RP g C f,w,RQ g l e f,w,Ww (JM _ _ _) C f,w,dR];obtain⟨k,k,p⟩:=DJ (N:=N) (n:=Z (gU a x.cD[b].aZ)) C;rw[k,w];refine v (Wx l e (E:=Wo<|ry (vL a<|gU a x.cD[b].aZ) (Z (gU a x.cD[b].aZ)) (Z (gU a x.cD[b].aZ))) (λd b=>?_) (by rw[(wF _).length_eq];omega) C p f)<|λh e=>o ?_
   ·have:=wE.1<|(wF _).mem_iff.1 b
    exact⟨C,this.2.2.1⟩
   ·rw[e,Ow j];rfl
  ·subst d;rw[fz];have b:=Hs (ns:=x.cD) i a;have b:Z x.cD*250000<=1000*250000:=Nat.mul_le_mul_right _ n;obtain⟨m,b,d,e⟩:=Ht (N:=N) (l:=x.cD.flatMap λc=>Hr a c.aZ) C;rw[b,w];exact o ⟨d,e⟩
 obtain⟨m,b,c,d⟩:=q;exact⟨m,b,c,d⟩
end
end Go.Gk
namespace Go.Gk
open Go IntKind
section
variable {N:Nat}
def Ox{α:Type}(L:aG (aG α))(k:Nat):Z (L.take k).flatten<=Z L.flatten:=by
 grind [List.take_append_drop,List.flatten_append,cK]
def Wz{n:Nat}(a:n<=1048576):mo N (n:Int)=O []:=by
 unfold mo;rw[bW C,aR];have a:wrap .i64 ((n:Int) -(wrap .i64<|((0:Nat):Int) -((0:Nat):Int)))=(n:Int):=by
  grind [wrap,fG]
 rw[a]
 by_cases a:0<n
 ·rw[bN C,aN];have:QW 32 (⟨⟨[]⟩,⟨[]⟩⟩:bX) (n:Int)=O (List.replicate n ⟨⟨[]⟩,⟨[]⟩⟩):=by
   grind [QW]
  rw[this,w,pd _ _ C,w,w];rfl
 grind
def RR{L:aG (aG bX)}(h1:Z L<=1048576)(h2:Z L.flatten<=1048576):kI N L=O L.flatten:=by
 unfold kI;have d:∀a,a<=Z L->Z (L.take a).flatten<=1048576:=λa _=>nS (Ox L a) h2
 rw[Bu (s:=(0:Int)) (λa=>((Z (L.take a).flatten:Nat):Int)) C rfl (λa b=>by
  have e:L[a]? =O L[a]:=aM b;have c:=d (a+1) b;rw[dQ b,List.flatten_append,cK,List.flatten_singleton]at c;rw[bS e,w,dQ b,List.flatten_append,cK,List.flatten_singleton]
  grind [wrap,fG,bW]),w,fz,Wz h2,w]
 rw[Bu (s:=([]:aG bX)) (λa=>(L.take a).flatten) C rfl (λa b=>by
  grind [aM,dQ,List.flatten_append,cK,List.flatten_singleton,bS,w,jA]),w,fz]
end
end Go.Gk
namespace Go.Gk
open Go IntKind Classical
section
variable {N:Nat}{t:aG bD}{x:bV}{a:ir}{kT:aG (aG aB)}{f:aG (aG (aG aB))}{r:Nat->Nat}{gs:aG bL}{c ofB nF:aG Int}{ny:aG gL}
def JP(b:mE a kT f r gs c ofB nF ny){g:Nat}{y:bL}(hg:gs[g]? =O y):y.aZ.Pairwise yJ/\(∀p∈y.aZ,0<=jZ a p)/\∀p∈y.aZ,∀(h:Nat)z,gs[h]? =O z->p∈z.aZ->h=g:=by
 obtain⟨d,d,d,d,i⟩:=Ls b.JJ hg;have d:=b.DR.up;refine⟨?_,λp d=>?_,λp d h z l k=>?_⟩
 ·grind
 ·rw[i]at d;obtain⟨e,j,rfl⟩:=dH.1 d;have:=HM a.cA<|λx=>decide<|lx x=lx e
  rw[ky.2 ⟨e,(nc.1 j).1,bN rfl⟩,dZ]at this;exact this
 ·obtain⟨m,m,m,m,m⟩:=Ls b.JJ l;rw[i]at d;rw[m]at k;obtain⟨e,j,rfl⟩:=dH.1 d;obtain⟨d,d,d⟩:=dH.1 k
  grind [List.mem_iff_getElem,Nat.lt_trichotomy,jW,yJ.irrefl]
def Oy(x:bV)(a:aG bX):Bool:=match a with| []=>aK|p::_=>decide (0<=kA x p)&&a.all λq=>decide<|kA x q=kA x p
def Uj(d:vh t x){a:aG bX}(h:a≠[])(hl:Z a<=1048576):pM N (qf x (Z x.cD)) a=O (Oy x a,qf x (Z x.cD)):=by
 obtain⟨a,b,rfl⟩:=List.exists_cons_of_ne_nil h;unfold pM;have c:A (a::b) 0=O a:=by
  rfl
 obtain⟨e,f⟩:=M7 d a;rw[c,w,e];unfold Oy;dsimp only
 by_cases c:0<=kA x a
 ·rw[bN (show kA x a>=0 from c),aN,f c 0];have c:fC N (a::b) (qf x (Z x.cD)) (kA x a)=tj (a::b) (λb=>qj N b (qf x (Z x.cD))<|kA x a):=rfl
  rw[c,sD (λb=> !decide (kA x b=kA x a)) C (λb _=>by
   obtain⟨a,a⟩:=M7 d b
   grind [qj,kA,bN,iL,w,bW,lU]),w,w,Bool.true_and]
  grind
 grind
def gk(c:aG Int)(i k:Nat):bU:=⟨min (c[i]?.getD 0)<|c[k]?.getD 0,max (c[i]?.getD 0)<|c[k]?.getD 0⟩
structure D3 {κ:Type} [DecidableEq κ] (m:aG (κ×Bool)) (S:κ->Prop):Prop where
 nd:(m.map Prod.fst).Nodup
 all:∀e∈m,e.2=aA
 mem:∀k,k∈m.map Prod.fst↔S k
def D3.get{κ:Type}[DecidableEq κ]{m:aG (κ×Bool)}{S:κ->Prop}(h:D3 m S)(k:κ):eU m k aK=aA↔S k:=by
 rw[<-h.mem];unfold eU
 cases a:m.find? (λb=>decide<|k=b.1)with
 |none=>
  grind
 |some b=>
  have c:=List.mem_of_find?_eq_some a;have d:=List.find?_some a;rw[dZ]at d;simp only[h.all b c,true_iff]
  grind
def EI{κ ν:Type}[DecidableEq κ](k:κ)(x:ν):∀m:aG (κ×ν),(oO m k x).map Prod.fst=if k∈m.map Prod.fst then m.map Prod.fst else m.map Prod.fst++[k]
 | []=>by simp[oO]
 |b::m=>by
  unfold oO
  by_cases a:k=b.1
  ·simp[a]
  ·rw[aJ a,gQ,EI k x m];simp only[gQ,eO,a,false_or];split <;> simp
def D3.put{κ:Type}[DecidableEq κ]{m:aG (κ×Bool)}{S:κ->Prop}(h:D3 m S)(k:κ):D3 (oO m k aA) (λa=>S a\/a=k):=by
 have b:=h.nd;refine⟨by rw[EI];grind,?_,λa=>?_⟩
 ·have:∀m:aG (κ×Bool),(∀a∈m,a.2=aA)->∀a∈oO m k aA,a.2=true:=by
   intro m
   induction m with
   |nil=>simp[oO]
   |cons b m a=>
    grind [oO]
  exact this m h.all
 ·rw[EI,<-h.mem]
  grind
def D3.congr{κ:Type}[DecidableEq κ]{m:aG (κ×Bool)}{S a:κ->Prop}(h:D3 m S)(e:∀k,S k↔a k):D3 m a:=⟨h.nd,h.all,λk=>(h.mem k).trans<|e k⟩
def I6(pcs:aG aH)(c:aG Int)(near:Int)(key:bU):Prop:=∃i k,nH pcs c near i k=aA/\key=gk c i k
def xQ{pcs:aG aH}{c:aG Int}{near:Int}{i k:Nat}(h:nH pcs c near i k=aA):i<k/\k<Z pcs/\c[i]? ≠c[k]? :=by
 unfold nH at h
 grind
def Uk(b:mE a kT f r gs c ofB nF ny){near:Int}(hN:nq N):
  Ok (lT (Z (cG 0 f)) (λ(R:Nat)(av:aG (bU×Bool))=>(D (A (cG 0 f) (R:Int)) λai=>D (gh (λ(u:aG (bU×Bool)×Int)=>(D (bif decide (u.2<(Z (cG 0 f):Int))then(D (A (cG 0 f) u.2) λaD=>O<|aD.cR==ai.cR)else O aK) λaw=>bif aw then(D (A c (R:Int)) λE=>D (A c u.2) λF=>D (A c (R:Int)) λI=>D (A c u.2) λJ=>D (bif(if F<E then F else E) != (if I<J then J else I)then(bif(!(eU u.1 (⟨(if F<E then F else E),(if I<J then J else I)⟩:bU) (aK:Bool)))then(D (A (cG 0 f) u.2) λaa=>D (oe N ai.eG aa.eG) λab=>O<|decide<|ab.iY<near)else O aK)else O aK) λax=>D (bif ax then O (oO u.1 (⟨(if F<E then F else E),(if I<J then J else I)⟩:bU) aA)else O u.1) λay=>O<|.nx (ay,wrap .i64<|u.2+1))else(O<|.br (u.1,u.2)):aP (Fl (aG (bU×Bool)×Int) Empty))) N (av,wrap .i64<|(R:Int)+1)) λar=>ar.cs (λ(u:aG (bU×Bool)×Int)=>O u.1) (λr=>r.elim):aP (aG<|bU×Bool))) ([]:aG (bU×Bool)))
   (λx=>D3 x (I6 (cG 0 f) c near)/\Z x<=4000000):=by
 have hf:=b.CX.2;have aS:=b.JJ.of.lp;have aq:=(Wl f 0).1;have ag:∀e,(B:e<Z (cG 0 f))->Z (cG 0 f)[e].eG<=2000/\∀au∈(cG 0 f)[e].eG,dJ au=true:=λe B=>by
  grind [AW,cH]
 generalize aX:cG 0 f=h at *;refine(p9 (λg x=>D3 x (λn=>∃k e,k<g/\nH h c near k e=aA/\n=gk c k e)/\Z x<=g*Z h) C ⟨⟨G,G,λe=>G⟩,G⟩<|λg x hi⟨T,ae⟩=>?_).mono<|λx⟨T,ae⟩=>⟨T.congr λn=>?_,?_⟩
 ·have X:h[g]? =O h[g]:=aM hi;obtain⟨p,U,_⟩:=Lv b (k:=g) C;refine fy X ?_;rw[bM C];refine v (kg (n:=Z h) (λd=>d.2) (λe d=>g+1<=e/\D3 d.1 (λn=>(∃k e,k<g/\nH h c near k e=aA/\n=gk c k e)\/∃i,i<e/\nH h c near g i=aA/\n=gk c g i)/\Z d.1<=g*Z h+e) (Go:=λd=>D3 d.1 (λn=>∃k e,k<g+1/\nH h c near k e=aA/\n=gk c k e)/\Z d.1<=(g+1)*Z h) (Rt:=λ_=>False) ?_ ?_ (k0:=g+1) C rfl ⟨du _,T.congr λn=>?_,H⟩ C) ?_
  ·rintro e⟨L,y⟩B m⟨aE,z,Q⟩;dsimp only at m z Q ⊢;subst m;have Y:h[e]? =O h[e]:=aM B;have am:=ag g hi;have an:=ag e B;obtain⟨q,V,_⟩:=Lv b (k:=e) C;have af:∀S M:Nat,(hv:M<Z h)->(ah:S<M)->h[S].cR<=h[M].cR:=λS M hv ah=>jW.1 aq S M C hv ah;rw[iB B,aN];refine dy (x:=h[e].cR==h[g].cR) (by rw[bS Y,w]) ?_
   cases hL:(h[e].cR==h[g].cR)with
   |false=>
    rw[aR];have aV:h[e].cR≠h[g].cR:=λm=>H
    have s:=af g e B C;have al:∀y,e<=y->nH h c near g y=false:=λy j=>by
     cases P:nH h c near g y with
     |false=>rfl
     |true=>
      have hj:=(xQ P).2.1;have h4:h[e].cR<=h[y].cR:=by
       by_cases m:e=y
       ·subst m;exact Int.le_refl _
       ·exact af e y hj C
      unfold nH at P;rw[X,aM hj,Option.elim_some,Option.elim_some,show(h[y].cR==h[g].cR)=aK by rw[beq_eq_false_iff_ne];omega,Bool.false_and,Bool.and_false]at P
      cases P
    refine ga ⟨z.congr λn=>?_,by rw[Nat.succ_mul];dsimp only;omega⟩;constructor
    ·rintro(⟨k,i,s,j⟩|⟨i,s,j,t⟩)
     ·exact⟨k,i,C,j⟩
     ·exact⟨g,i,C,j,t⟩
    ·rintro⟨k,i,s,j,t⟩
     by_cases m:k=g
     ·subst m;refine .inr ⟨i,?_,j,t⟩
      rcases Nat.lt_or_ge i e with l|l
      ·exact l
      ·rw[al i l]at j;cases j
     ·exact .inl ⟨k,i,C,j,t⟩
   |true=>
    rw[aN,bS U,w,bS V,w,w,w,Rq,Rp];have eg:gk c g e= ⟨((min p q:Nat):Int),((max p q:Nat):Int)⟩:=by
     unfold gk;rw[U,V];show(⟨min (p:Int) (q:Int),max (p:Int) (q:Int)⟩:bU)=_;congr 1 <;> omega
    obtain⟨gp,g1,g2⟩:=Wk (N:=N) (a:=h[g].eG) (b:=h[e].eG) C C am.2 an.2;have W:nH h c near g e=(decide (p≠q)&&decide (gp.iY<near)):=by
     unfold nH;rw[X,Y,Option.elim_some,Option.elim_some,hL,bN (show g<e by omega),Bool.true_and,Bool.true_and,U,V,g2];congr 1
     by_cases m:p=q
     ·subst m;simp
     ·have:O (p:Int)≠O (q:Int):=λl=>by injection l with l;omega
      simp[m,this]
    have ap:∃K:Bool,(bif((min p q:Nat):Int) != ((max p q:Nat):Int)then(bif(!(eU L (⟨((min p q:Nat):Int),((max p q:Nat):Int)⟩:bU) (aK:Bool)))then(D (A h ((e:Nat):Int)) λaa=>D (oe N h[g].eG aa.eG) λab=>O<|decide<|ab.iY<near)else O aK)else O aK)=O K/\
      (K=aA->nH h c near g e=aA)/\(K=aK->nH h c near g e=aA->eU L (gk c g e) aK=aA):=by
     by_cases m:p=q
     ·refine⟨aK,?_,G,λ_ l=>?_⟩
      ·rw[show(((min p q:Nat):Int) != ((max p q:Nat):Int))=aK by rw[bne_eq_false_iff_eq];omega,aR]
      ·rw[W]at l;simp[m]at l
     ·rw[show(((min p q:Nat):Int) != ((max p q:Nat):Int))=aA by rw[bne_iff_ne];omega,aN,<-eg]
      cases hm:eU L (gk c g e) aK with
      |true=>exact⟨aK,rfl,G,λ_ _=>rfl⟩
      |false=>
       refine⟨decide<|gp.iY<near,by rw[lU,aN,bS Y,w,g1,w],λl=>by rw[W,l];simp[m],λl h'=>?_⟩;rw[W,l]at h';simp at h'
    obtain⟨K,hc,aj,ak⟩:=ap;rw[hc,w,<-eg];have ad:∀x:aG (bU×Bool),D3 x (λn=>((∃k e,k<g/\nH h c near k e=aA/\n=gk c k e)\/∃i,i<e/\nH h c near g i=aA/\n=gk c g i)\/(nH h c near g e=aA/\n=gk c g e))->
      D3 x (λn=>(∃k e,k<g/\nH h c near k e=aA/\n=gk c k e)\/∃i,i<e+1/\nH h c near g i=aA/\n=gk c g i):=λx hm=>hm.congr λn=>by
     constructor
     ·rintro((l|⟨i,s,j⟩)|⟨s,j⟩)
      ·exact .inl l
      ·exact .inr ⟨i,C,j⟩
      ·exact .inr ⟨e,C,s,j⟩
     ·rintro(l|⟨i,s,j,t⟩)
      ·exact .inl<|.inl l
      ·by_cases m:i=e
       ·subst m;exact .inr ⟨j,t⟩
       ·exact .inl<|.inr ⟨i,C,j,t⟩
    cases K with
    |true=>
     rw[aN,w];refine fx ⟨bM C,C,ad _<|(z.put<|gk c g e).congr λn=>?_,?_⟩
     ·simp[aj rfl]
     ·dsimp only;have:=congrArg List.length<|EI (gk c g e) aA L
      rw[dR]at this;split at this
      ·rw[dR]at this;omega
      ·simp at this;omega
    |false=>
     rw[aR,w];refine fx ⟨bM C,C,ad _<|z.congr λn=>?_,by dsimp only;omega⟩;constructor
     ·exact .inl
     ·rintro(l|⟨s,j⟩)
      ·exact l
      ·subst j;exact(z.get _).1<|ak rfl s
  ·rintro⟨L,y⟩m⟨_,z,Q⟩;dsimp only at m z Q ⊢;subst m;rw[nG,aR];refine dy (x:=aK) rfl ?_;rw[aR];refine ga ⟨z.congr λn=>?_,by rw[Nat.succ_mul];exact Q⟩;constructor
   ·rintro(⟨k,i,s,j⟩|⟨i,s,j,t⟩)
    ·exact⟨k,i,C,j⟩
    ·exact⟨g,i,C,j,t⟩
   ·rintro⟨k,i,s,j,t⟩
    by_cases m:k=g
    ·subst m;exact .inr ⟨i,(xQ j).2.1,j,t⟩
    ·exact .inl ⟨k,i,C,j,t⟩
  ·constructor
   ·exact .inl
   ·rintro(l|⟨i,s,j,t⟩)
    ·exact l
    ·have:=(xQ j).1;omega
  ·intro aZ ho;exact gf ho (λd ao=>o ao)<|λr hr=>hr.elim
 ·constructor
  ·rintro⟨g,e,_,l⟩;exact⟨g,e,l⟩
  ·rintro⟨g,e,s,j⟩;exact⟨g,e,by have:=xQ s;omega,s,j⟩
 ·exact nS ae<|Nat.mul_le_mul hf hf
end
def UA(p q:aG bX):k:=if iQ (iW q 0) (iW p 0)<0 then⟨iW q 0,iW p 0,aK⟩else⟨iW p 0,iW q 0,aK⟩
def RS(x:bV)(gs:aG bL)(key:bU):aP k:=match gs[key.e0.toNat]?,gs[key.e1.toNat]? with
 |some p,O q=>if p.aZ= []\/q.aZ= []\/Oy x (p.aZ++q.aZ)=aA then aQ else O (UA p.aZ q.aZ)
 |_,_=>aQ
section
variable {N:Nat}{t:aG bD}{x:bV}{a:ir}{i:aG (aG aB)}{d:aG (aG (aG aB))}{r:Nat->Nat}{gs:aG bL}{c f nF:aG Int}{ny:aG gL}
def Qw{l:aG bX}(h:l≠[]):A l 0=O (iW l 0)/\iW l 0∈l:=by
 grind [bS,A,iW]
structure Qx (gs:aG bL) (key:bU) (g h:Nat) (p q:bL):Prop where
 e0:key.e0=(g:Int)
 e1:key.e1=(h:Int)
 lt:g<h
 p:gs[g]? =O p
 q:gs[h]? =O q
def Qy(b:mE a i d r gs c f nF ny){near:Int}{key:bU}(h:I6 (cG 0 d) c near key):∃g k p q,Qx gs key g k p q:=by
 obtain⟨l,k,e,rfl⟩:=h;obtain⟨j,j,j⟩:=xQ e;have e:=b.JJ.of.lp;obtain⟨gi,e,e⟩:=Lv b (k:=l) C;obtain⟨e,l,l⟩:=Lv b (k:=k) C;have l:gi≠e:=λl=>j H;refine⟨min gi e,max gi e,gs[min gi e]' C,gs[max gi e]' C,?_,?_,C,aM _,aM _⟩
 ·unfold gk;grind
 ·unfold gk;grind
def JQ{key:bU}{g k:Nat}{p q:bL}(h:Qx gs key g k p q):RS x gs key=if p.aZ= []\/q.aZ= []\/Oy x (p.aZ++q.aZ)=aA then aQ else O (UA p.aZ q.aZ):=by
 unfold RS;rw[h.e0,h.e1,cN,cN,h.p,h.q]
def WA(p q:aG bX):UA p q= ⟨iW p 0,iW q 0,aK⟩\/UA p q= ⟨iW q 0,iW p 0,aK⟩:=by
 grind [UA]
def S5(b:mE a i d r gs c f nF ny){q s:bU}{G h1 l h2:Nat}{p1 o p2 p:bL}(j:Qx gs q G h1 p1 o)(e:Qx gs s l h2 p2 p){u v:k}(g:RS x gs q=O u)(h:RS x gs s=O v)(m:u.A=v.A)(n:u.B=v.B):q=s:=by
 rw[JQ j]at g;rw[JQ e]at h;split at g
 ·cases g
 rename_i A;split at h
 ·cases h
 rename_i B;injection g with g
 injection h with h
 simp only[not_or]at A B;have K:=(Qw A.1).2;have L:=(Qw A.2.1).2;have t:=(Qw B.1).2;have w:=(Qw B.2.1).2;have y:=(JP b j.p).2.2 _ K;have z:=(JP b j.q).2.2 _ L;have M:=j.lt;have N:=e.lt;have H:l=G/\h2=h1:=by
  rcases WA p1.aZ o.aZ with E|E <;> rcases WA p2.aZ p.aZ with F|F <;> rw[E]at g <;> rw[F]at h <;> subst g <;> subst h <;> dsimp only at m n
  ·exact⟨y l _ e.p<|m▸t,z h2 _ e.q<|n▸w⟩
  ·have I:=y h2 _ e.q<|m▸w
   have J:=z l _ e.p<|n▸t
   omega
  ·have I:=z l _ e.p<|m▸t
   have J:=y h2 _ e.q<|n▸w
   omega
  ·exact⟨y l _ e.p<|n▸t,z h2 _ e.q<|m▸w⟩
 have o:=j.e0;have p:=j.e1;have C:=e.e0;have D:=e.e1;rw[H.1]at C;rw[H.2]at D
 cases q;cases s
 dsimp only at o p C D;rw[o,p,C,D]
def EJ{l:aG k}(h1:l.Pairwise λu v=>¬vl v u)(h2:l.Pairwise λu v=>¬(u.A=v.A/\u.B=v.B)):l.Pairwise vl:=(h1.and h2).imp λ{u v}⟨b,c⟩=>by
 rcases vl.tot u v with a|a|a
 ·exact a
 ·exact absurd a c
 ·exact absurd a b
theorem Iu{l m:aG k}(hl:l.Pairwise vl)(hm:m.Pairwise vl)(c:l.Perm m):l=m:=
 List.Perm.eq_of_pairwise (le:=vl) (λa a _ _ a b=>absurd (a.trans b)<|vl.irr _) hl hm c
def Hu{l m:aG k}(a:l.Perm m)(h:m.Pairwise λu v=>¬(u.A=v.A/\u.B=v.B)):l.Pairwise λu v=>¬(u.A=v.A/\u.B=v.B):=
 a.symm.pairwise h (λ{u v}h a=>h ⟨a.1.symm,a.2.symm⟩)
def Ul(h:bk x<=1048576)(S:vh t x)(b:mE a i d r gs c f nF ny)(near:Int)(g:nq N):
  ∃m K,og N x (cG 0 d) gs c near=O m/\D3 K (I6 (cG 0 d) c near)/\m.Perm (K.filterMap λe=>RS x gs e.1)/\m.Pairwise vl/\Z m<=4000000:=by
 have R:Ok (og N x (cG 0 d) gs c near) (λm=>∃K,D3 K (I6 (cG 0 d) c near)/\m.Perm (K.filterMap λe=>RS x gs e.1)/\m.Pairwise vl/\Z m<=4000000):=by
  unfold og;rw[XJ h,w];refine v (Uk b g)<|λK⟨l,g⟩=>?_
  have B:∀e∈K,∃H M g h,Qx gs e.1 H M g h:=λe p=>Qy b<|(l.mem e.1).1<|dH.2 ⟨e,p,rfl⟩
  have I:(K.filterMap λe=>RS x gs e.1).Pairwise λn o=>¬(n.A=o.A/\n.B=o.B):=by
   rw[List.pairwise_filterMap];have j:=l.nd;unfold List.Nodup at j;rw[List.pairwise_map]at j;refine List.Pairwise.imp_of_mem (λ{e s}p z E n F o J⟨u,y⟩=>?_) j;obtain⟨j,n,j,j,j⟩:=B e p;obtain⟨o,o,q,q,q⟩:=B s z;exact E<|S5 b j q F J u y
  have z:∀j:aG (bU×Bool),Z (j.filterMap λe=>RS x gs e.1)<=Z j:=λj=>List.length_filterMap_le _ _;have q:=z K;obtain⟨q,s,y,s⟩:=Ht (N:=N) (l:=K.filterMap λe=>RS x gs e.1) C;have L:q.Pairwise vl:=EJ s<|Hu y I
  refine Z_ (x:=q) (W6 λj E=>?_) ⟨K,l,y,L,by rw[y.length_eq];omega⟩;have l:=E.length_eq;have P:∀(j:aG (bU×Bool))(l:aG k),(∀e∈j,e∈K)->Z l+Z j<=4000000->
    C4 (λ(s:bU×Bool)(u:aG (bX×Int)×aG k)=>(D (A gs s.1.e0) λq=>D (A gs s.1.e1) λs=>D (bif(Z q.aZ:Int)==0 then O (u.1,aA)else(bif(Z s.aZ:Int)==0 then O (u.1,aA)else(D (kI N ([q.aZ,s.aZ]:aG (aG bX))) λF=>D (pM N u.1 F) λF=>O (F.2,F.1)))) λF=>bif F.2 then O (.nx (F.1,u.2))else(D (A q.aZ 0) λq=>D (A s.aZ 0) λs=>D (dY N ((⟨q,s,aK⟩:k).B)<|(⟨q,s,aK⟩:k).A) λJ=>D (bif J<0 then O {{(⟨q,s,aK⟩:k)with A:=(⟨q,s,aK⟩:k).B}with B:=(⟨q,s,aK⟩:k).A}else O (⟨q,s,aK⟩:k)) λq=>D (gx 72 u.2 ([q]:aG k)) λq=>O<|.nx (F.1,q)):aP (Fl (aG (bX×Int)×aG k) Empty))) j (qf x (Z x.cD),l)=O (.go (qf x (Z x.cD),l++j.filterMap λe=>RS x gs e.1)):=by
   intro j
   induction j with
   |nil=>intro l _ _;simp[C4]
   |cons e j Q=>
    intro l J F;simp only[eK]at F;obtain⟨H,M,g,h,q⟩:=B e<|J e G
    have s:=JQ (x:=x) q;have u:=EE b.JJ q.p;have u:=EE b.JJ q.q;have z:=b.DR.CX;have u:=λl F=>Q l (λe p=>J e (by simp[p])) F;unfold C4;rw[q.e0,q.e1,bS q.p,w,bS q.q,w]
    by_cases n:g.aZ= []
    ·rw[n,show((Z ([]:aG bX):Int)==0)=aA from rfl,aN,w,aN,w];dsimp only;rw[u l C,List.filterMap_cons,s,aL<|.inl n]
    have q:0<Z g.aZ:=List.length_pos_iff.2 n;rw[show((Z g.aZ:Int)==0)=aK by rw[beq_eq_false_iff_ne];omega,aR]
    by_cases o:h.aZ= []
    ·rw[o,show((Z ([]:aG bX):Int)==0)=aA from rfl,aN,w,aN,w];dsimp only;rw[u l C,List.filterMap_cons,s,aL<|.inr<|.inl o]
    have q:0<Z h.aZ:=List.length_pos_iff.2 o
    rw[show((Z h.aZ:Int)==0)=aK by rw[beq_eq_false_iff_ne];omega,aR,RR G (by simp;omega),w,show([g.aZ,h.aZ]:aG (aG bX)).flatten=g.aZ++h.aZ by simp,
     Uj S (by simp[n]) (by rw[cK];omega),w,w]
    dsimp only
    cases q:Oy x (g.aZ++h.aZ)with
    |true=>
     rw[aN,w];dsimp only;rw[u l C,List.filterMap_cons,s,aL<|.inr<|.inr q]
    |false=>
     have B:¬(g.aZ= []\/h.aZ= []\/Oy x (g.aZ++h.aZ)=aA):=by simp[n,o,q]
     rw[aR,(Qw n).1,w,(Qw o).1,w];rw[show dY N (iW h.aZ 0) (iW g.aZ 0)=O (iQ (iW h.aZ 0)<|iW g.aZ 0)from tJ _ _,w];have q:(bif iQ (iW h.aZ 0) (iW g.aZ 0)<0 then O (⟨iW h.aZ 0,iW g.aZ 0,aK⟩:k)else O (⟨iW g.aZ 0,iW h.aZ 0,aK⟩:k))=O (UA g.aZ h.aZ):=by
      unfold UA
      by_cases l:iQ (iW h.aZ 0) (iW g.aZ 0)<0
      ·rw[bN l,aN,aL l]
      ·rw[bW l,aR,aJ l]
     rw[q,w,jA (by simp only[eK,List.length_nil];omega),w,w];dsimp only;rw[u _ (by simp only[cK,eK,List.length_nil];omega),List.filterMap_cons,s,aJ B];simp
  rw[P j [] (λe p=>E.mem_iff.1 p) (by simp;omega),w];unfold Fo.cs;dsimp only;rw[List.nil_append];have g:(j.filterMap λe=>RS x gs e.1).Perm (K.filterMap λe=>RS x gs e.1):=E.filterMap _;have:=z j;obtain⟨m,l,h,p⟩:=Ht (N:=N) (l:=j.filterMap λe=>RS x gs e.1) C;rw[l,w];congr 1;exact Iu (EJ p<|Hu (h.trans g) I) L<|(h.trans g).trans y.symm
 obtain⟨m,n,K,o⟩:=R;exact⟨m,K,n,o⟩
def WB{n:Nat}(h:n<=1000000000):km N (n:Int)=O []:=by
 unfold km;have a:wrap .i64 (((0:Nat):Int) -((0:Nat):Int))=0:=I
 have b:wrap .i64 ((n:Int) - 0)=(n:Int):=by grind [IntKind.wrap_i64]
 rw[bW C,aR,a,b]
 by_cases a:n=0
 ·subst a;rfl
 ·rw[bN C,aN];unfold QW;rw[aL ⟨C,C⟩,w];rfl
def RT{l m:aG k}(h:Z l+Z m<=1000000000):mY N [l,m]=O (l++m):=by
 unfold mY;have d:A [l,m] ((0:Nat):Int)=O l:=bS rfl;have e:A [l,m] ((1:Nat):Int)=O m:=bS rfl
 rw[Bu (s:=(0:Int)) (m:=Z [l,m]) (λa=>if a=0 then 0 else if a=1 then(Z l:Int)else((Z l+Z m:Nat):Int)) G rfl (λa c=>by
  have b:a=0\/a=1:=by grind
  rcases b with rfl|rfl
  ·rw[d,w,aL rfl,Int.zero_add,wz C,bW C,aR];rfl
  ·rw[e,w];show(bif decide (wrap .i64 ((Z l:Int)+(Z m:Int))<0)then aQ else O (wrap .i64<|(Z l:Int)+(Z m:Int)))=_
   rw[ed C,bW C,aR];rfl),w]
 show D (km N ((Z l+Z m:Nat):Int)) _=_;rw[WB h,w]
 rw[Bu (s:=([]:aG k)) (m:=Z [l,m]) (λa=>if a=0 then []else if a=1 then l else l++m) G rfl (λa c=>by
  have b:a=0\/a=1:=by simp only[eK,List.length_nil]at c;omega
  rcases b with rfl|rfl
  ·rw[d,w,aL rfl,jA (by simp only[List.length_nil];omega),w];simp
  ·rw[e,w];show D (gx 72 l m) _=_
   rw[jA C,w];rfl),w]
 rfl
end
section
variable {N:Nat}{t:aG bD}{x:bV}{a:ir}
inductive aeJ (N:Nat) (t:aG bD) (x:bV) (a:ir):Prop
 |err (e:Int) (he:e≠0) (h:fH N t x a=O (aQ,e)) (h1:pC t x=e\/pC t x=0/\jE N a=O (aQ,e))
 |ok {kT:aG (aG aB)} {dW:aG (aG (aG aB))} {r:Nat->Nat} {gs:aG bL} {ofP ofB nF:aG Int} {ny:aG gL} (h0:pC t x=0) (b:mE a kT dW r gs ofP ofB nF ny)
  (h1:jE N a=O (O (a.aS,a.cZ,a.aX,a.cA,kT,cG 0 dW,jH a.aX<|cG 0 dW,gs,ofP,ofB,nF,ny),0))
  (h:fH N t x a=O (O (a.aS,a.cZ,a.aX,a.cA,kT,cG 0 dW,jH a.aX<|cG 0 dW,gs,ofP,ofB,nF,ny),0))
def aeK(b:bk t<=1048576)(c:bk x<=1048576)(g:bk a<=1048576)(f:nq N):aeJ N t x a:=by
 have d:=D1 (N:=N) b c C
 by_cases c:pC t x=0
 ·have e:fH N t x a=D (jE N a) λd=>LP d.1 (O (aQ,d.2)) (λb=>O (O (b.1,b.2.1,b.2.2.1,b.2.2.2.1,b.2.2.2.2.1,b.2.2.2.2.2.1,b.2.2.2.2.2.2.1,b.2.2.2.2.2.2.2.1,b.2.2.2.2.2.2.2.2.1,b.2.2.2.2.2.2.2.2.2.1,b.2.2.2.2.2.2.2.2.2.2.1,b.2.2.2.2.2.2.2.2.2.2.2),d.2)):=by
   grind [fH,w]
  rcases E3 (N:=N) (DT g) f with⟨f,g,b⟩|⟨d,b⟩
  ·refine .err f g ?_<|.inr ⟨c,b⟩
   rw[e,b,w];rfl
  ·refine .ok c d b ?_;rw[e,b,w];rfl
 ·refine .err _ c ?_<|.inl rfl
  unfold fH
  grind
theorem Na(near:Int):pK N near 0 100000=O (decide (near>=0)&&decide (near<=100000)):=rfl
def D4(l:aG k):aG k×Int:=if 2000<Z l then([],2)else(l,0)
theorem Qz(l:aG k):tM N l=O (D4 l):=by
 unfold tM D4
 grind
def Um{e:Int}(he:e≠0)(h:fH N t x a=O (aQ,e)):pG N t x a=O ([],e):=by
 grind [pG,w,LP]
def QA{e near:Int}(he:e≠0)(h:fH N t x a=O (aQ,e)):gu N t x a near=O (aQ,e):=by
 grind [gu,w,LP]
def LH{e near:Int}(he:e≠0)(h:gu N t x a near=O (aQ,e)):oh N t x a near=O ([],e):=by
 grind [oh,w,LP]
def LI{e near:Int}(he:e≠0)(h:gu N t x a near=O (aQ,e)):oj N t x a near=O ([],e):=by
 grind [oj,w,LP]
section
variable {e:aG (aG aB)}{c:aG (aG (aG aB))}{r:Nat->Nat}{gs:aG bL}{b d nF:aG Int}{ny:aG gL}
def QB(h:fH N t x a=O (O (a.aS,a.cZ,a.aX,a.cA,e,cG 0 c,jH a.aX<|cG 0 c,gs,b,d,nF,ny),0)){l:aG k}(hl:mH N x a=O l):pG N t x a=O (D4 l):=by
 grind [pG,w,LP,Qz]
def WC{near:Int}(h:fH N t x a=O (O (a.aS,a.cZ,a.aX,a.cA,e,cG 0 c,jH a.aX<|cG 0 c,gs,b,d,nF,ny),0))(f:¬(0<=near/\near<=100000)):gu N t x a near=O (aQ,1):=by
 unfold gu;rw[h,w];simp only[LP,bne_self_eq_false,aR]
 grind [Na,w,decide,Bool.and_eq_false_iff,decide_eq_false_iff_not,lU]
def XK{near:Int}(h:fH N t x a=O (O (a.aS,a.cZ,a.aX,a.cA,e,cG 0 c,jH a.aX<|cG 0 c,gs,b,d,nF,ny),0))(f:0<=near/\near<=100000):gu N t x a near=O (O (a.aS,a.cZ,a.aX,a.cA,e,cG 0 c,jH a.aX<|cG 0 c,gs,b,d,nF,ny),0):=by
 unfold gu
 grind [w,LP,Na,decide,iL]
def Un{near:Int}(h:gu N t x a near=O (O (a.aS,a.cZ,a.aX,a.cA,e,cG 0 c,jH a.aX<|cG 0 c,gs,b,d,nF,ny),0)){l:aG k}(hl:og N x (cG 0 c) gs b near=O l):oh N t x a near=O (D4 l):=by
 unfold oh
 grind [w,LP,Qz]
noncomputable def tT(l:aG k):Bool:=decide (∃i,∃u v,l[i]? =O u/\l[i+1]? =O v/\u.A=v.A/\u.B=v.B)
theorem RU{l:aG k}(hl:Z l<=2000)(a:nq N):
  D (gh (λ(a:Int)=>(bif decide (a<(Z l:Int))then(D (A l a) λb=>D (A l<|wrap .i64<|a - 1) λc=>D (eZ N b c) λb=>bif b==0 then O (.rt (([]:aG k),12))else O (.nx<|wrap .i64<|a+1))else(O<|.br a):aP (Fl Int<|aG k×Int))) N 1) (λ(b:Fo Int (aG k×Int))=>b.cs (λ(a:Int)=>O (l,0))<|λr=>O r)=O (if tT l=aA then([],12)else(l,0)):=by
 have i:∀b c:k,qA b c=0↔b.A=c.A/\b.B=c.B:=λb c=>by
  grind [qA,iQ,qe]
 refine l_ ?_
 by_cases a:Z l=0
 ·have:l= []:=List.length_eq_zero_iff.1 a;subst this
  refine v (P:=QN (λ_=>True) (λ_=>False)) (od (λd=>d=1) (λ_=>0) (λd a=>by
   grind [decide,ga]) rfl C) (λh g=>gf g (λ_ _=>o ?_) (λr e=>e.elim))
  simp[aJ,tT]
 ·refine v (P:=QN (λ_=>tT l=aK)<|λr=>tT l=aA/\r=([],12)) (kg (n:=Z l) (λd=>d) (λa _=>1<=a/\∀f b c,f+1<a->l[f]? =O b->l[f+1]? =O c->¬(b.A=c.A/\b.B=c.B)) ?_ ?_ (k0:=1) C rfl ⟨du _,λf b c e=>C⟩ C)<|λh g=>gf g (λ_ e=>o (by rw[e];rfl))<|λr e=>o H
  ·rintro a d c b⟨f,g⟩;subst b;have h:l[a]? =O l[a]:=aM c;have e:l[a - 1]? =O l[a - 1]:=aM C;rw[iB c,aN,bS h,w,wC C C,bS e,w,Cu,w]
   by_cases c:qA l[a] l[a - 1]=0
   ·rw[c,show((0:Int)==0)=aA from rfl,aN];have:=(i _ _).1 c;refine p5 ⟨bN ⟨a - 1,_,_,e,H,this.1.symm,this.2.symm⟩,rfl⟩
   grind [qA,fx,bM,yY]
  ·rintro d b⟨f,g⟩;subst b;rw[nG,aR];refine ga<|bW ?_
   grind
def Uo{near:Int}(h:gu N t x a near=O (O (a.aS,a.cZ,a.aX,a.cA,e,cG 0 c,jH a.aX<|cG 0 c,gs,b,d,nF,ny),0)){l m:aG k}(hl:mH N x a=O l)(hm:og N x (cG 0 c) gs b near=O m)(g:Z l+Z m<=1000000000)(f:nq N):
  ∃o,o.Perm (l++m)/\o.Pairwise (λf i=>¬vl i f)/\oj N t x a near=O (if 2000<Z l+Z m then([],2)else if tT o=aA then([],12)else(o,0)):=by
 obtain⟨o,f,f,j⟩:=Ht (N:=N) (l:=l++m) H;have i:=f.length_eq;rw[cK]at i;refine⟨o,f,j,?_⟩;unfold oj;rw[h,w];simp only[LP,bne_self_eq_false,aR];have f:pN N x (cG 0 c) gs b near=O m:=hm;rw[hl,w,f,w,RT g,w];unfold vO;rw[cK]
 grind [bN,w,bW,RU]
end
def Up{p q:bX}(h:Cv p q=aA):yJ p q:=by
 unfold Cv at h;rw[jk,dE,tG]at h;exact h
def LJ{u:k}(j:vh t x)(h:u∈zR x a):acP a u/\u.Joined=true:=by
 unfold zR at h;obtain⟨b,f,d⟩:=List.mem_flatMap.1 h;unfold Hr at d;obtain⟨c,e,rfl⟩:=dH.1 d;obtain⟨d,d⟩:=Ug e;have d:=Cd.1<|M8 (L:=gU a b.aZ) (i:=c.1) C
 have e:=Cd.1<|M8 (L:=gU a b.aZ) (i:=c.2) C
 refine⟨⟨d.2,e.2,?_⟩,rfl⟩;have c:(gU a b.aZ).Pairwise yJ:=by
  unfold gU;refine List.Pairwise.filter _ ?_;rw[jW];intro g i c e d;exact Up<|j.ZU b f g i _ _ d (aM c)<|aM e
 grind [jW,Jv,iW,aM,gU]
end
def Sb(t:Nat)(L:Nat->Nat->Prop)(op:Nat->Prop)(done:Nat->Nat->Prop)(u:aG Int):Prop:=
 ∃r E,ZQ t u r/\wU r E/\Jq t r E/\(∀p∈E,(L p.1 p.2\/L p.2 p.1)/\¬op p.1/\¬op p.2)/\∀i j,done i j->¬op i->¬op j->(i,j)∈E\/(j,i)∈E
def Sb.skip{t:Nat}{L:Nat->Nat->Prop}{op:Nat->Prop}{d:Nat->Nat->Prop}{u:aG Int}(h:Sb t L op d u){i k:Nat}(a:op i\/op k):Sb t L op (λa b=>d a b\/(a=i/\b=k)) u:=by
 obtain⟨l,c,e,f,g,j,m⟩:=h;refine⟨l,c,e,f,g,j,λa b a a a=>?_⟩
 grind
structure afB (bs:aG cM) (pcs:aG aH) (fl:aG rm) (ls:aG dD) (r2:Nat->Nat) (j:Nat) (W:aG Int):Prop where
 len:Z W=j
 no:∀i l,i<j->ls[i]? =O l->Lt bs pcs fl l=aQ->W[i]? =O (-1)
 yes:∀i l v,i<j->ls[i]? =O l->Lt bs pcs fl l=O v->W[i]? =O ((r2 v:Nat):Int)
def LK{x:z}:∀(b:aG z),(∀y∈b,0<=wW x y)->∀{s:Int},0<=s->0<=yX s x b
 | [],_,s,a=>a
 |y::b,c,s,a=>by
  have a:=c y<|List.mem_cons_self ..
  unfold yX;rw[List.foldl_cons];refine LK (x:=x) b (λd a=>c d<|ku _ a) ?_;split <;> omega
def RW{a b:aG z}{x y:z}(hx:a[0]? =O x)(hy:b[0]? =O y)(c:0<=wW x y):vn a b=a.foldl (λc x=>yX c x b) (wW x y):=by
 obtain⟨c,rfl⟩:∃c,a=x::c:=by
  cases a with
  |nil=>cases hx
  |cons d c=>grind
 obtain⟨c,rfl⟩:∃c,b=y::c:=by
  cases b with
  |nil=>cases hy
  |cons d c=>grind
 simp[vn,List.foldl_cons,congr,yX,aL,aJ]
section
variable {N:Nat}
theorem WD{a0 a1 b0 b1:Int}(a: -1000000<=a0/\a0<=1000000)(h1: -1000000<=a1/\a1<=1000000)(h2: -1000000<=b0/\b0<=1000000)(a: -1000000<=b1/\b1<=1000000):l6 N a0 a1 b0 b1=O (Mh a0 a1 b0 b1):=by
 unfold l6 Mh
 grind [Ev,vf]
def Fx{a b:z}(c:dJ a=aA)(d:dJ b=aA):jr N a b=O (wW a b):=by
 obtain⟨e,e,e,e⟩:=ks c;obtain⟨c,c,c,c⟩:=ks d;unfold jr wW
 grind [WD,w,vf]
theorem Jw{a b:aG z}(tL:Z a<=1000000)(c:Z b<=1000000)(i:∀y∈a,dJ y=aA)(j:∀y∈b,dJ y=aA)(c:a≠[])(g:b≠[])(e:nq N):jT N a b=O (vn a b):=by
 have f:a[0]? =O (a[0]'(List.length_pos_iff.2 c)):=aM _;have l:b[0]? =O (b[0]'(List.length_pos_iff.2 g)):=aM _;have e:a[0]'(List.length_pos_iff.2 c)∈a:=cH _;have k:b[0]'(List.length_pos_iff.2 g)∈b:=cH _;generalize a[0]'(List.length_pos_iff.2 c)=c at f e;generalize b[0]'(List.length_pos_iff.2 g)=y at l k;have g:=(Lu (i c e)<|j y k).1;rw[RW f l g];have p:∀c∈a,∀y∈b,0<=wW c y:=λc m y h=>(Lu (i c m)<|j y h).1;refine l_ ?_;unfold jT;refine fy (i:=0) f<|fy (i:=0) l<|dy (Fx (i c e)<|j y k) ?_
 refine v (kg (n:=Z a) (λd=>d.2) (λf d=>0<=d.1/\d.1=(a.take f).foldl (λe c=>yX e c b) (wW c y)) (Go:=λd=>d.1=a.foldl (λe c=>yX e c b) (wW c y)) (Rt:=λ_=>False) ?_ ?_ (cT _) rfl ⟨g,rfl⟩ C) ?_
 ·rintro f⟨e,g⟩k g⟨l,n⟩;dsimp only at g l n ⊢;subst g;rw[iB k,aN];have m:a[f]? =O a[f]:=aM k;have n:a[f]∈a:=cH k;have k:(a.take<|f+1).foldl (λe c=>yX e c b) (wW c y)=yX e a[f] b:=by grind [dQ]
  rw[k];generalize a[f]=f at *;refine v (kg (n:=Z b) (λd=>d.2) (λc d=>d.1=yX e f (b.take c)) (Go:=λd=>d.1=yX e f b) (Rt:=λ_=>False) ?_ ?_ (cT _) rfl rfl C) ?_
  ·rintro c⟨q,e⟩e g k;dsimp only at g k ⊢;subst g;rw[iB e,aN];have h:b[c]? =O b[c]:=aM e;have g:b[c]∈b:=cH e;have c:0<=q:=by rw[k];exact LK _ (λy h=>p f n y<|List.mem_of_mem_take h) l
   refine fy m<|fy h<|dy (Fx (i f n)<|j _ g)<|fx ⟨bM C,?_⟩
   grind [yX,dQ]
  ·simp[nG,aR,fz,ga]
  intro g c;refine gf c (λd f=>fx ⟨bM C,?_,f⟩)<|λh e=>e.elim
  simp_all[LK]
 ·grind [fz,ga]
 intro g c;exact gf c (λd f=>o f)<|λh e=>e.elim
theorem Oz{a b:aG z}(tL:Z a<=1000000)(c:Z b<=1000000)(n:Int)(c:nq N):Ok (jL N a b n) (λ_=>True):=by
 unfold jL;refine v (kg (n:=Z a) (λd=>d.2.2) (λf d=>True) (Go:=λd=>True) (Rt:=λ_=>False) ?_ ?_ (cT _) rfl trivial C) ?_
 ·rintro f⟨h,i,c⟩g c _;dsimp only at c ⊢;subst c;rw[iB g,aN];have e:a[f]? =O a[f]:=aM g;refine v (kg (n:=Z b) (λd=>d.2.2) (λf d=>True) (Go:=λd=>True) (Rt:=λ_=>False) ?_ ?_ (cT _) rfl trivial C) ?_
  ·rintro f⟨h,i,g⟩g c _;dsimp only at c ⊢;subst c;rw[iB g,aN];have c:b[f]? =O b[f]:=aM g;refine fy e<|fy c<|fy e<|fy c ?_
   refine v (P:=λ_=>True) (fy e<|fy c<|jn (λ_=>o trivial)<|λ_=>fy e<|fy c<|o trivial)<|λc _=>jn (λ_=>fx ⟨bM C,trivial⟩)<|λ_=>?_
   grind [v,o,fx,bM]
  ·simp[nG,aR,ga,trivial]
  intro g c;exact gf c (λd f=>fx ⟨bM C,trivial⟩)<|λh e=>e.elim
 ·simp[nG,aR,ga,trivial]
 intro g c;exact gf c (λd f=>o trivial)<|λh e=>e.elim
def RX{a b:aG z}(tL:Z a<=1000000)(c:Z b<=1000000)(c:∀y∈a,dJ y=aA)(d:∀y∈b,dJ y=aA)(e:a≠[])(e:b≠[])(e:nq N):∃g,kP N a b=O g/\g.iY=vn a b - 1:=by
 have e:=SY c d
 suffices c:Ok (kP N a b) (λg=>g.iY=vn a b - 1)from c
 grind [kP,dy,Jw,v,Oz,o,Ev]
end
def Hj.nr{a:ir}{c:aG (aG aB)}{b:aG (aG<|aG aB)}{p:aH}{i:Nat}{r:aG z}{s:aG aB}{d:aG (aG aB)}{u:Nat->Nat}{j k:Nat}(h:Hj a c b p i r s d u j k):p.eG≠[]:=by
 intro e;rw[h.YR]at e;have b:=kQ.1<|eR h.head
 have c:(bF s)[k]? =O (bF s)[k]:=aM b.1;have g:(bF s)[k]∈uE (bF s) (Z (bF s)) u k:=rZ.2 ⟨k,b.1,b.2,c⟩;obtain⟨b,f,d,l,n⟩:=xP<|eR c
 have c:cS b∈s.map cS:=dH.2 ⟨b,f,rfl⟩;have m:=Rl (h.dr.can.each _ c).2.2.1 d l;have f:=(h.dr.can.each _ c).1;have c:=h.set.cover d.1 b.Y0;rw[<-ux h.set.can,e]at c;have:zK (uE (bF s) (Z (bF s)) u k) d.1 b.Y0=true:=mD.2 ⟨_,g,by rw[n];exact⟨⟨Int.le_refl _,m⟩,Int.le_refl _,f⟩⟩;rw[this]at c
 cases c
section
variable {N:Nat}{a:ir}{kT:aG (aG aB)}{dW:aG (aG (aG aB))}{r:Nat->Nat}{gs:aG bL}{ofP ofB nF:aG Int}{ny:aG gL}
def WE(b:mE a kT dW r gs ofP ofB nF ny){p:aH}(d:p∈cG 0 dW):p.eG≠[]:=by
 obtain⟨c,c,c,c,c,c,c,c⟩:=P4 b.Hk b.dr d;exact c.nr
end
def S6{α:Type}(l:aG α)(c:Nat)(t:α):(l.take c++[t]++l.drop c).Perm (l++[t]):=by
 grind [List.take_append_drop,List.Perm.append_left,List.perm_append_comm,eM]
def Y4{α:Type}{R:α->α->Prop}{l:aG α}{c:Nat}{t:α}(h:l.Pairwise R)(h1:∀y∈l.take c,R y t)(h2:∀y∈l.drop c,R t y):(l.take c++[t]++l.drop c).Pairwise R:=by
 grind [List.take_append_drop,ng]
def I7{α:Type}{l:aG α}{c:Nat}{y:α}(h:y∈l.take c):∃j,j<c/\l[j]? =O y:=by
 grind [dM]
def I8{α:Type}{l:aG α}{c:Nat}{y:α}(h:y∈l.drop c):∃j,c<=j/\l[j]? =O y:=by
 grind [dM]
def vl.as{a b:k}(h:vl a b):¬vl b a:=λc=>vl.irr _<|h.trans c
def vl.ZW{a b c:k}(h:vl a b)(h2:¬vl c b):vl a c:=by
 rcases vl.tot b c with d|⟨e,e⟩|d
 ·exact h.trans d
 ·grind [vl]
 grind
def Jx(l:aG k):Prop:=l.Pairwise λu v=>¬vl v u
def Jx.nil:Jx []:=kW
section
variable {N:Nat}
def QC{α:Type}{l:aG α}{f:α->Bool}{body:Int->aP (Fl Int Empty)}(hl:Z l<N)(a:body 0=O (.br 0))(h:∀(c:Nat)y,l[c]? =O y->body (((c+1:Nat)):Int)=O (if f y=aA then .nx (c:Int)else .br ((c+1:Nat):Int))):
  Ok (gh body N (Z l:Int)) (QN (λa=>∃c:Nat,a=(c:Int)/\c<=Z l/\(∀(j:Nat)y,c<=j->l[j]? =O y->f y=aA)/\(∀y,0<c->l[c - 1]? =O y->f y=aK))<|λ_=>False):=by
 refine od (λa=>∃c:Nat,a=(c:Int)/\c<=Z l/\∀(j:Nat)y,c<=j->l[j]? =O y->f y=aA) (λa=>a.toNat) (λa d=>?_) ⟨Z l,rfl,du _,λj y a e=>H⟩ C
 obtain⟨c,rfl,a,b⟩:=d
 match c,a,b with
 | 0,a,b=>
  grind [ga]
 |c+1,a,b=>
  have e:l[c]? =O l[c]:=aM a
  grind [fx,cN,ga,yY]
def OA{l:aG k}(t:k)(hl:Z l<=1000000000)(h:Jx l)(a:nq N):∃m,gA N l t=O m/\m.Perm (l++[t])/\Jx m:=by
 refine show Ok (gA N l t) (λm=>m.Perm (l++[t])/\Jx m)from ?_;unfold gA;refine v (QC (l:=l) (f:=λc=>decide<|vl t c) C rfl<|λa c b=>?_)<|λd d=>gf d ?_<|λd d=>d.elim
 ·have d:=(bR.1 b).1;rw[bN (show((a+1:Nat):Int)>0 by omega),aN,wC C C,yY,bS b,w,Lw,w,w]
  grind
 ·rintro e⟨a,rfl,d,j,f⟩;refine dy (pd l a d)<|li H<|li H<|dy (ti l a d)<|li H<|o ?_
  rw[List.nil_append];refine⟨S6 l a t,Y4 h (λc b=>?_)<|λc b=>?_⟩
  ·obtain⟨d,g,e⟩:=I7 b;have i:l[a - 1]? =O (l[a - 1]' C):=aM _;have n:=of_decide_eq_false<|f _ C i
   intro p
   by_cases f:d=a - 1
   ·grind
   ·obtain⟨q,i⟩:=bR.1 e;have f:=jW.1 h d (a - 1) q C C;rw[i]at f;exact n<|p.ZW f
  ·obtain⟨d,g,e⟩:=I8 b;exact(of_decide_eq_true<|j d c g e).as
def QD{l:aG k}(b:aG k){Q:aG k->Prop}{f:aG k->aP (aG k)}(hl:Z l+Z b<=1000000000)(d:Jx l)(h:nq N):
  Ok (gh (λ(a:aG k×Int)=>(bif decide (a.2<(Z b:Int))then(D (A b a.2) λc=>D (gA N a.1 c) λc=>O<|.nx (c,wrap .i64<|a.2+1))else(O<|.br (a.1,a.2)):aP (Fl (aG k×Int) Empty))) N (l,0))
   (QN (λa=>a.1.Perm (l++b)/\Jx a.1)<|λ_=>False):=by
 refine kg (n:=Z b) (λa=>a.2) (λc a=>a.1.Perm (l++b.take c)/\Jx a.1) ?_ ?_ (cT _) rfl ⟨G,d⟩ C
 ·rintro c⟨a,d⟩i d⟨e,g⟩;dsimp only at d e g ⊢;subst d;have d:b[c]? =O b[c]:=aM i;have d:=e.length_eq;rw[cK,cQ]at d;obtain⟨d,d,d,d⟩:=OA (N:=N) b[c] (l:=a) C g h
  grind [iB,bS,w,fx,bM,dQ,eM]
 grind [fz,ga]
def CT(e:Int×Nat×Nat):bA:=⟨e.1,((e.2.1:Nat):Int),((e.2.2:Nat):Int)⟩
def Uq{p q:dP}(a:T5 p)(hq:T5 q):mX N p q=O (Uz p.X q.X+Uz p.Y q.Y):=by
 obtain⟨b,b⟩:=a;obtain⟨a,a⟩:=hq
 grind [mX,fG,Uz,RN]
def WG{a:ir}{L:aG bX}{E:aG (Int×Nat×Nat)}{i k:Nat}{P:aG (Int×Nat×Nat)}(d:Nat->Nat->Int)(o:E.Perm P)(p:∀y∈P,SZ y (d i k,i,k))(h:E.Pairwise CQ)(hl:E.length<=1000000)(b:nq N){Q:aG bA->Prop}:
  Ok (gh (λ(b:Int)=>(D (bif b>0 then(D (A (E.map CT)<|wrap .i64<|b - 1) λf=>O<|decide<|f.length>(⟨d i k,(i:Int),(k:Int)⟩:bA).length)else O aK) λf=>bif f then O (.nx<|wrap .i64<|b - 1)else(O<|.br b):aP (Fl Int Empty))) N ((E.map CT).length:Int))
   (QN (λe=>∃c:Nat,e=((c:Nat):Int)/\c<=E.length/\(E.take c++[(d i k,i,k)]++E.drop c).Pairwise CQ)<|λ_=>False):=by
 refine Ok.mono (QC (l:=E.map CT) (f:=λy=>decide<|y.length>d i k) H rfl<|λc y b=>?_) ?_
 ·have f:=(bR.1 b).1;rw[dR]at f;rw[bN (show((c+1:Nat):Int)>0 by omega),aN,wC C C,yY,bS b,w,w]
  grind
 ·rintro(e|g)g
  ·obtain⟨c,rfl,f,n,j⟩:=g;rw[dR]at f;have l:∀(e:Nat)y,E[e]? =O y->(E.map CT)[e]? =O (CT y):=λe y g=>H
   refine⟨c,rfl,f,Y4 h (λy b=>?_)<|λy b=>?_⟩
   ·obtain⟨e,m,h⟩:=I7 b;have q:E[c - 1]? =O (E[c - 1]' C):=aM _;have f:=of_decide_eq_false<|j _ C<|l _ _ q
    have j:=p y<|o.mem_iff.1<|eR h
    have o:y.1<=(E[c - 1]' C).1:=by
     grind [bR,jW,CQ]
    unfold CT at f;dsimp only at f;unfold SZ at j;unfold CQ;dsimp only at j ⊢;omega
   ·obtain⟨e,m,h⟩:=I8 b;have f:=of_decide_eq_true<|n e _ m<|l _ _ h
    unfold CT at f;dsimp only at f;unfold CQ;dsimp only;omega
  ·exact g.elim
def WH{n:Nat}{r:Nat->Nat}(c:∀i,i<n->r (r i)=r i){a b:Nat}(c:a<n)(c:b<n):∀i,i<n->px r (r a) (r b) (px r (r a) (r b) i)=px r (r a) (r b) i:=by
 grind [px]
def XL{a:ir}(g:pA a){L:aG bX}(T:∀p∈L,0<=jZ a p)(hl:L.length<=500)(U:nq N):∃m,kO N a L=O m/\m.Perm ((Hq a L).map<|Jv L)/\Jx m:=by
 have gT:=Qr g;have tL:=g.CX;refine show Ok (kO N a L) (λm=>m.Perm ((Hq a L).map<|Jv L)/\Jx m)from ?_;unfold kO;have aa:∀b c,b<=L.length->(ry (vL a L) b L.length++uz (vL a L) b c).length<=250000+c:=λb c t=>by
  rw[cK];have i:=yK (vL a L) L.length b;have n:=EF (vL a L) b c;have u:b*L.length<=500*500:=Nat.mul_le_mul C hl;omega
 refine v (kg (n:=L.length) (λe=>e.2) (λb e=>∃d:aG (Int×Nat×Nat),e.1=d.map CT/\d.Perm (ry (vL a L) b L.length)/\d.Pairwise CQ) (Go:=λe=>e.1=(Wo<|ry (vL a L) L.length L.length).map CT) (Rt:=λ_=>False) ?_ ?_ (cT _) rfl ⟨[],rfl,by simp[ry],kW⟩ C) ?_
 ·rintro b⟨e,ii⟩t f⟨E0,e1,M,e3⟩;dsimp only at f e1 ⊢;subst f;subst e1;rw[iB t,aN,bM C];refine v (kg (n:=L.length) (λe=>e.2) (λc e=>b+1<=c/\∃d:aG (Int×Nat×Nat),e.1=d.map CT/\d.Perm (ry (vL a L) b L.length++uz (vL a L) b c)/\d.Pairwise CQ) (Go:=λe=>∃d:aG (Int×Nat×Nat),e.1=d.map CT/\d.Perm (ry (vL a L) (b+1) L.length)/\d.Pairwise CQ) (Rt:=λ_=>False) ?_ ?_ (k0:=b+1) C rfl ⟨du _,E0,rfl,by grind [Iq],e3⟩ C) ?_
  ·rintro c⟨e,Q⟩q f⟨ap,d,z,E,P⟩;dsimp only at f z ⊢;subst f;subst z;have j:L[b]? =O L[b]:=aM t;have F:L[c]? =O L[c]:=aM q;obtain⟨p1,_,p3⟩:=yM<|T _<|cH t
   obtain⟨q1,_,q3⟩:=yM<|T _<|cH q
   have n1:((jZ a L[b]).toNat:Int)=jZ a L[b]:=Int.toNat_of_nonneg<|T _<|cH t
   have n2:((jZ a L[c]).toNat:Int)=jZ a L[c]:=Int.toNat_of_nonneg<|T _<|cH q
   have aq:=aa b c C;have ah:=E.length_eq;have ai:Uz (T6 a L[b]).X (T6 a L[c]).X+Uz (T6 a L[b]).Y (T6 a L[c]).Y=vL a L b c:=by
    grind [vL,ZV,iW]
   rw[iB q,aN,bS j,w,Ga (nS tL I) _ U,w,<-n1,bS p1,w,bS F,w,Ga (nS tL I) _ U,w,<-n2,bS q1,w,p3,q3,Uq (Om gT _)<|Om gT _,w,ai];refine v (WG (a:=a) (L:=L) (vL a L) E (λaw F=>?_) P C U (Q:=λ_=>True))<|λR r=>gf r ?_<|λh l=>l.elim
   ·unfold SZ
    rcases dS.1 F with F|F
    ·exact .inl (wE.1 F).1
    ·have:=EG.1 F;exact .inr ⟨this.1,this.2.2.1⟩
   ·rintro e⟨K,rfl,hc,ao⟩;have ad:K<=(d.map CT).length:=by rw[dR];exact hc
    refine dy (pd _ K ad)<|li (by simp only[List.length_nil,cQ,dR];omega)<|li (by simp only[List.nil_append,cQ,dR,eK,List.length_nil];omega)<|dy (ti _ K ad)<|li (by simp only[List.nil_append,cK,cQ,iz,dR,eK,List.length_nil];omega)<|fx ⟨bM C,C,d.take K++[(vL a L b c,b,c)]++d.drop K,?_,?_,ao⟩
    ·dsimp only;rw[fY,fY,List.map_take,List.map_drop];rfl
    ·rw[B5,aL C,<-eM];exact(S6 _ _ _).trans<|E.append_right _
  ·rintro⟨e,Q⟩f⟨_,d,z,E,P⟩;dsimp only at f z ⊢;subst f;subst z;rw[nG,aR];exact ga ⟨d,rfl,by rw[AY];exact E,P⟩
  ·intro R r;exact gf r (λe x=>fx ⟨rfl,x⟩)<|λh l=>l.elim
 ·rintro⟨e,ii⟩f⟨d,z,E,P⟩;dsimp only at f z ⊢;subst f;subst z;rw[nG,aR];exact ga (by rw[Wp (RM _ _ _) E P])
 intro R r;refine gf r ?_<|λh l=>l.elim
 rintro⟨e,ii⟩x;dsimp only at x ⊢;subst x;generalize hE:Wo (ry (vL a L) L.length L.length)=d;have aj:∀f∈d,f.2.1<f.2.2/\f.2.2<L.length:=λf he=>by
  rw[<-hE]at he;have:=wE.1<|(wF _).mem_iff.1 he
  exact⟨this.2.1,this.2.2.1⟩
 have ah:d.length<=250000:=by
  rw[<-hE,(wF _).length_eq];have i:=yK (vL a L) L.length L.length;have u:L.length*L.length<=500*500:=Nat.mul_le_mul hl hl;omega
 rw[vW 0 C,w];refine v (kg (n:=L.length) (λe=>e.2) (λc e=>e.1.length=L.length/\∀b,b<c->e.1[b]? =O ((b:Nat):Int)) (Go:=λe=>B7 L.length e.1<|λb=>b) (Rt:=λ_=>False) ?_ ?_ (cT _) rfl ⟨A2,λb l=>C⟩ C) ?_
 ·rintro c⟨e,Q⟩q f⟨i,n⟩;dsimp only at f i n ⊢;subst f;have ab:c<e.length:=C
  rw[i,iB q,aN,bS<|aM ab,w];refine fx ⟨bM C,by rw[jD];exact i,λb t=>?_⟩;dsimp only;rw[cN,kX]
  by_cases f:c=b
  ·subst f;rw[aL rfl,aL ab]
  ·rw[aJ f];exact n b C
 ·rintro⟨e,Q⟩f⟨i,n⟩;dsimp only at f i n ⊢;subst f;rw[i,nG,aR];exact ga<|B7.init _ _ i n
 intro R r;refine gf r ?_<|λh l=>l.elim
 rintro⟨av,_⟩ae;dsimp only at ae ⊢;refine v (kg (n:=d.length) (λe=>e.2.2) (λc e=>∃h y,B7 L.length e.1 h/\(∀b,b<L.length->h (h b)=h b)/\Jx e.2.1/\e.2.1.Perm (y.map<|Jv L)/\y.length<=c/\y++B6 h (d.drop c)=B6 (λb=>b) d) (Go:=λe=>Jx e.2.1/\e.2.1.Perm ((Hq a L).map<|Jv L)) (Rt:=λ_=>False) ?_ ?_ (cT _) rfl ⟨λb=>b,[],ae,λ_ _=>rfl,Jx.nil,G,G,G⟩ C) ?_
 ·rintro c⟨pt,ts,Q⟩q f⟨h,y,i,X,n,u,h4,A⟩;dsimp only at f i n u ⊢;subst f;have j:(d.map CT)[c]? =O (CT d[c]):=by rw[nQ,aM q];rfl
  obtain⟨m1,Y⟩:=aj _<|cH q
  have hd:d.drop c=d[c]::d.drop (c+1):=r6 q;rw[hd,M9]at A;have aa:=i.1;have Z:pt[d[c].2.1]? =O (pt[d[c].2.1]' C):=aM _;have gb:pt[d[c].2.2]? =O (pt[d[c].2.2]' C):=aM _;have ag:=i.2 _ _ _ _ C Y Z gb;generalize ar:pt[d[c].2.1]' C=pv at *;generalize au:pt[d[c].2.2]' C=S at *;rw[dR,iB q,aN,bS j,w,show(CT d[c]).a=((d[c].2.1:Nat):Int)from rfl,bS Z,w,w,show(CT d[c]).b=((d[c].2.2:Nat):Int)from rfl,bS gb,w]
  by_cases W:h d[c].2.1=h d[c].2.2
  ·rw[aL W]at A;rw[ag.2 W,BEq.rfl,aN];exact fx ⟨bM C,h,y,i,X,n,u,C,A⟩
  ·rw[aJ W]at A;have ak:pv≠S:=λf=>W<|ag.1 f
   have al:=LG (L:=L) (i:=d[c].2.1) C;have am:=LG (L:=L) (i:=d[c].2.2) Y;have an:=u.length_eq;rw[dR]at an;obtain⟨m,u1,u2,u3⟩:=OA (N:=N) (l:=ts) (⟨iW L d[c].2.1,iW L d[c].2.2,aA⟩:k) C n U;rw[show(pv==S)=aK by simpa using ak,aR,w,show(CT d[c]).a=((d[c].2.1:Nat):Int)from rfl,bS al,w,w,show(CT d[c]).b=((d[c].2.2:Nat):Int)from rfl,bS am,w,u1,w];refine v (kg (n:=L.length) (λe=>e.2) (λs e=>e.1.length=L.length/\(∀b D,b<s->pt[b]? =O D->e.1[b]? =O (if D=S then pv else D))/\∀b,s<=b->e.1[b]? =pt[b]?) (Go:=λe=>B7 L.length e.1<|px h (h d[c].2.1)<|h d[c].2.2) (Rt:=λ_=>False) ?_ ?_ (cT _) rfl ⟨aa,λb D l=>C,λ_ _=>rfl⟩ C) ?_
   ·rintro s⟨e,jj⟩hj f⟨B,H,J⟩;dsimp only at f B H J ⊢;subst f;have V:s<e.length:=C
    have af:pt[s]? =O e[s]:=by rw[<-J s (du _)];exact aM V
    rw[B,iB hj,aN,bS<|aM V,w]
    by_cases f:e[s]=S
    ·rw[f,BEq.rfl,aN,w,w];refine fx ⟨bM C,by rw[jD];exact B,λb D t j=>?_,λb t=>?_⟩
     ·dsimp only;rw[cN,kX]
      by_cases M:s=b
      ·subst M;rw[aL rfl,aL V];rw[af]at j;injection j with j
       rw[aL (by rw[<-j];exact f)]
      ·rw[aJ M];exact H b D C j
     ·dsimp only;rw[cN,kX,aJ C];exact J b C
    ·rw[show(e[s]==S)=aK by simpa using f,aR,w];refine fx ⟨bM C,B,λb D t j=>?_,λb t=>J b C⟩
     by_cases M:s=b
     ·subst M;rw[af]at j;injection j with j
      rw[aJ (by rw[<-j];exact f),<-j];exact aM V
     ·exact H b D C j
   ·rintro⟨e,jj⟩f⟨B,H,J⟩;dsimp only at f B H J ⊢;subst f;rw[B,nG,aR];exact ga<|i.join X C Y Z gb B H
   ·intro R r;refine gf r (λe x=>fx ⟨bM C,px h (h d[c].2.1)<|h d[c].2.2,y++[(d[c].2.1,d[c].2.2)],x,WH X C Y,u3,?_,by simp;omega,?_⟩)<|λh l=>l.elim
    ·dsimp only;rw[fY];exact u2.trans<|u.append_right _
    ·rw[<-A,eM];rfl
 ·rintro⟨pt,ts,Q⟩f⟨h,y,i,X,n,u,h4,A⟩;dsimp only at f i n u ⊢;subst f;rw[dR,nG,aR];refine ga ⟨n,?_⟩;rw[List.drop_length]at A;have:y=Hq a L:=by
   unfold Hq;rw[hE,<-A];simp[B6]
  rw[<-this];exact u
 ·intro R r;exact gf r (λe x=>o ⟨x.2,x.1⟩)<|λh l=>l.elim
def Ur{t:aG bD}{x:bV}{a:ir}(b:vh t x)(g:pA a)(n:nq N):∃m,ja N x a=O m/\m.Perm (zR x a)/\Jx m:=by
 have c:=b.JN;have r:∀i∈x.cD,Z i.aZ<=500:=λi p=>(b.JO i p).2;have tL:=g.CX;refine show Ok (ja N x a) (λm=>m.Perm (zR x a)/\Jx m)from ?_;unfold ja;refine v (kg (n:=Z x.cD) (λc=>c.2) (λb c=>c.1.Perm ((x.cD.take b).flatMap λi=>Hr a i.aZ)/\Jx c.1) (Go:=λc=>c.1.Perm (zR x a)/\Jx c.1) (Rt:=λ_=>False) ?_ ?_ (cT _) rfl ⟨G,Jx.nil⟩ C) ?_
 ·rintro b⟨B,A⟩k e⟨h,j⟩;dsimp only at e h j ⊢;subst e;have u:x.cD[b]? =O x.cD[b]:=aM k;have q:=r _<|cH k
  rw[iB k,aN];refine v (kg (n:=Z x.cD[b].aZ) (λc=>c.2) (λd c=>c.1=gU a (x.cD[b].aZ.take d)) (Go:=λc=>c.1=gU a x.cD[b].aZ) (Rt:=λ_=>False) ?_ ?_ (cT _) rfl (by simp[gU]) C) ?_
  ·rintro d⟨c,z⟩l e f;dsimp only at e f ⊢;subst e;subst f;have s:x.cD[b].aZ[d]? =O x.cD[b].aZ[d]:=aM l;have lm:Z (gU a<|x.cD[b].aZ.take d)<=d:=by
    unfold gU
    grind
   have e:gU a (x.cD[b].aZ.take<|d+1)=gU a (x.cD[b].aZ.take d)++if 0<=jZ a x.cD[b].aZ[d]then [x.cD[b].aZ[d]]else []:=by
    grind [gU,dQ,jZ]
   rw[bS u,w,iB l,aN,w,bS s,w,Ga (nS tL I) _ n,w]
   by_cases f:0<=jZ a x.cD[b].aZ[d]
   ·rw[bN (show jZ a x.cD[b].aZ[d]>=0 from f),aN,w,bS s,w,jA H,w,w]
    grind [fx,bM]
   grind [bW,jZ,w,fx,bM]
  ·grind [bS,w,ga,fz]
  ·intro u l;refine gf l ?_<|λy f=>f.elim
   rintro⟨c,z⟩d;dsimp only at d ⊢;subst d;obtain⟨m,z,s,D⟩:=XL (N:=N) g (L:=gU a x.cD[b].aZ) (λD q=>(Cd.1 q).2) (nS (qW _ _) q) n;rw[z,w];have q:=Hs (ns:=x.cD.take<|b+1) (λi p=>r i<|List.mem_of_mem_take p) a;rw[cQ,Ow k,cK]at q;have i:min (b+1) (Z x.cD)*250000<=1000*250000:=Nat.mul_le_mul_right _ C;have i:=h.length_eq;have i:=s.length_eq;have i:Z (Hr a x.cD[b].aZ)=Z ((Hq a<|gU a x.cD[b].aZ).map<|Jv<|gU a x.cD[b].aZ):=rfl;refine v (QD (N:=N) m (Q:=λ_=>True) (f:=λ_=>aQ) C j n)<|λu l=>gf l (λc d=>fx ⟨bM C,?_,d.2⟩)<|λy f=>f.elim
   rw[Ow k];exact d.1.trans<|List.Perm.append h s
 ·rintro⟨B,A⟩e⟨h,j⟩;dsimp only at e h j ⊢;subst e;rw[nG,aR];rw[fz]at h;exact ga ⟨h,j⟩
 ·intro u l;exact gf l (λc d=>o d)<|λy f=>f.elim
end
def LL(ns:aG Int)(g:Int):aP Nat:=if g<0 then aQ else ns.findIdx? (λz=>decide<|z=g)
def Us{ns:aG Int}{g:Int}{i:Nat}(h:LL ns g=O i):0<=g/\ns[i]? =O g:=by
 grind [LL,List.findIdx?_eq_some_iff_getElem,aM]
def Ut{ns:aG Int}{g z:Int}(b:g<0\/z<0\/z≠g\/LL ns g≠aQ):LL (ns++[z]) g=LL ns g:=by
 unfold LL at *;split
 ·rfl
 ·rename_i a;rw[List.findIdx?_append];rw[aJ a]at b
  cases c:ns.findIdx? (λz=>decide<|z=g)with
  |some d=>rfl
  |none=>
   grind
def Uu{ns:aG Int}{g:Int}(hg:0<=g)(h:LL ns g=aQ):LL (ns++[g]) g=O (Z ns):=by
 grind [LL]
structure XM (k:Nat) (gs:aG (aG bX)) (ns:aG Int) (m:aG (Int×Int)):Prop where
 len:Z gs=Z ns
 le:Z gs<=k
 each:∀l∈gs,Z l<=k
 has:∀g,0<=g->oN m g=decide (g∈ns)
 get:∀g(i:Nat),LL ns g=O i->eU m g 0=(i:Int)
def XM.up{k:Nat}{gs:aG (aG bX)}{ns:aG Int}{m:aG (Int×Int)}(h:XM k gs ns m):XM (k+1) gs ns m:=
 ⟨h.len,Nat.le_succ_of_le h.le,λb a=>Nat.le_succ_of_le<|h.each b a,h.has,h.get⟩
def XM.new{k:Nat}{gs:aG (aG bX)}{ns:aG Int}{m:aG (Int×Int)}{g:Int}{p:bX}(h:XM k gs ns m)(i:LL ns g=aQ):XM (k+1) (gs++[[p]]) (ns++[g]) (oO m g (Z gs:Int))where
 len:=by simp[h.len]
 le:=by have:=h.le;simp;omega
 each:=λl b=>by
  rcases dS.1 b with b|b
  ·exact Nat.le_succ_of_le<|h.each l b
  ·simp at b;subst b;simp
 has:=λc f=>by
  rw[vH,h.has c f,iK];simp[or_comm]
 get:=λc j a=>by
  rw[sG]
  by_cases d:c=g
  ·subst d;have e:=(Us a).1;rw[Uu e i]at a;injection a with a
   rw[aL rfl,<-a,h.len]
  ·rw[aJ d];rw[Ut<|.inr<|.inr<|.inl λh=>d h.symm]at a;exact h.get c j a
def XM.put{k i:Nat}{gs:aG (aG bX)}{ns:aG Int}{m:aG (Int×Int)}{g:Int}{l:aG bX}{p:bX}(h:XM k gs ns m)(hl:gs[i]? =O l):XM (k+1) (gs.set i<|l++[p]) ns m where
 len:=by rw[jD];exact h.len
 le:=by rw[jD];have:=h.le;omega
 each:=λb a=>by
  rcases List.mem_or_eq_of_mem_set a with a|a
  ·exact Nat.le_succ_of_le<|h.each b a
  ·subst a;have:=h.each l<|eR hl
   simp;omega
 has:=h.has
 get:=h.get
def s0(x:bV)(p:bX):cU:=((x.cD[(kA x p).toNat]?).map p4.Name).getD ⟨[]⟩
def S7(x:bV)(p:bX):Bool:=decide<|kA x p>=0
theorem xR{x:bV}{p:bX}(h:S7 x p=aA):∃(k:Nat)(n:p4),kA x p=(k:Int)/\x.cD[k]? =O n/\p∈n.aZ/\s0 x p=n.Name:=by
 grind [S7,kA,qI,decide,s0,cN]
theorem S8{x:bV}{p:bX}:S7 x p=aA↔∃n∈x.cD,p∈n.aZ:=by
 simp[S7,kA,HM,ky]
def ngP(lg:bX->aP Int)(p:bX):Bool:=match lg p with|some g=>decide (g<0)|none=>aK
structure OpJ (lg:bX->aP Int) (ps:aG bX) (d:aG (aG bX)×aG Int):Prop where
 len:Z d.1=Z d.2
 full:∀l∈d.1,l≠[]
 has:∀p∈ps,∀g,lg p=O g->g∈d.2
 neg:Z (ps.filter<|ngP lg)=Z (d.2.filter<|λg=>decide<|g<0)
end Go.Gk
namespace Go.Gk
open Go IntKind
end Go.Gk
namespace Go.Gk
open Go IntKind Classical
def J2{α R:Type}{l:aG α}{N:Nat}{c:Bool}{g:α->Bool}{body:Int->aP (Fl Int R)}{Rt:R->Prop}(a:Z l<N)
  (h1:∀(k:Nat)x,l[k]? =O x->c=aA->Ok (body ((k:Nat):Int)) (Uy (λa=>g x=aK/\a=((k+1:Nat):Int)) (λ_=>False)<|λb=>Rt b/\g x=aA))
  (h2:∀k:Nat,k<=Z l->(k=Z l\/c=aK)->Ok (body ((k:Nat):Int)) (Uy (λ_=>False) (λ_=>True)<|λ_=>False)):
  Ok (Gk.gh body N 0) (QN (λ_=>(c&&l.any g)=aK)<|λb=>Rt b/\(c&&l.any g)=aA):=by
 refine od (λa=>∃k:Nat,a=((k:Nat):Int)/\k<=Z l/\∀x∈l.take k,g x=aK) (λa=>Z l - a.toNat) (λa d=>?_) ⟨0,rfl,cT _,λx h=>by simp at h⟩ C;obtain⟨k,rfl,a,f⟩:=d
 by_cases d:k=Z l\/c=aK
 ·refine(h2 k a d).mono ?_;rintro(e|e|b)a
  ·exact a.elim
  ·rcases d with d|d
   ·grind
   ·show(c&&l.any g)=aK;rw[d,Bool.false_and]
  ·exact a.elim
 ·have d:k<Z l:=C
  have f:c=true:=H
  refine(h1 k l[k] (aM d) f).mono ?_;rintro(e|e|b)a
  ·obtain⟨b,b⟩:=a;subst b;refine⟨⟨k+1,rfl,d,λx h=>?_⟩,C⟩
   grind [dQ,ng]
  ·exact a.elim
  ·refine⟨a.1,?_⟩;show(c&&l.any g)=aA;rw[f,Bool.true_and];exact ky.2 ⟨_,cH d,a.2⟩
def LM(l:aG Int)(s:Int):Int:=l.foldl (λs v=>if s<0\/v<s then v else s) s
def OB:∀(l:aG Int)(s:Int),(∀v∈l,0<=v)->(∀v∈l,LM l s<=v)/\(0<=s->LM l s<=s)/\(LM l s=s\/LM l s∈l)/\(s<0->l≠[]->LM l s∈l)
 | [],s,_=>⟨G,λ_=>Int.le_refl _, .inl rfl,λ_ c=>absurd rfl c⟩
 |v::l,s,c=>by
  have a:=c v G;have g:LM (v::l) s=LM l (if s<0\/v<s then v else s):=rfl;obtain⟨f,d,a,h⟩:=OB l (if s<0\/v<s then v else s)<|λe b=>c e (by simp[b])
  rw[<-g]at f d a h;refine⟨λe b=>?_,λc=>?_,?_,λc _=>?_⟩
  ·rcases eO.1 b with rfl|b
   ·have:=d C;split at this <;> omega
   ·exact f e b
  ·have:=d C;split at this <;> omega
  ·rcases a with a|a
   ·split at a
    ·exact .inr (by rw[a];simp)
    ·exact .inl a
   ·exact .inr<|ku _ a
  ·rcases a with a|a
   ·rw[aL<|.inl c]at a;rw[a];simp
   ·exact ku _ a
def WJ(x:z)(b:aG z)(s:Int):yX s x b=LM (b.map<|wW x) s:=by simp[yX,LM,List.foldl_map]
def QE(a b:aG z):vn a b=LM (a.flatMap λc=>b.map<|wW c) (-1):=by
 unfold vn;generalize (-1:Int)=e
 induction a generalizing e with
 |nil=>rfl
 |cons c a d=>
  rw[List.foldl_cons,d,List.flatMap_cons,WJ];unfold LM;rw[List.foldl_append]
theorem WK(x y:z):wW x y=wW y x:=by unfold wW Mh;omega
def Nb{a b:aG z}(c:∀y∈a,dJ y=aA)(e:∀y∈b,dJ y=aA)(d:a≠[])(f:b≠[]):vn a b=vn b a:=by
 have g:∀{a b:aG z},(∀y∈a,dJ y=aA)->(∀y∈b,dJ y=aA)->a≠[]->b≠[]->vn a b<=vn b a:=by
  intro a b c e d f;rw[QE,QE];have i:∀e∈a.flatMap (λc=>b.map<|wW c),0<=e:=λe d=>by
   obtain⟨c,g,d⟩:=List.mem_flatMap.1 d;obtain⟨y,h,rfl⟩:=dH.1 d
   simp_all[Lu]
  have j:∀e∈b.flatMap (λc=>a.map<|wW c),0<=e:=λe d=>by
   obtain⟨c,g,d⟩:=List.mem_flatMap.1 d;obtain⟨y,h,rfl⟩:=dH.1 d
   simp_all[Lu]
  have d:b.flatMap (λc=>a.map<|wW c)≠[]:=by
   obtain⟨c,b,rfl⟩:=List.exists_cons_of_ne_nil f
   simp_all
  have c:=(OB _ (-1) j).2.2.2 C d;refine(OB _ (-1) i).1 _ ?_
  grind [WK]
 grind
section
variable {N:Nat}{t:aG bD}{x:bV}{a:ir}{i:aG (aG aB)}{e:aG (aG (aG aB))}{r:Nat->Nat}{gs:aG bL}{d f nF:aG Int}{ny:aG gL}
noncomputable def WQ(x:bV)(p:bX):cU:=if S7 x p=aA then s0 x p else⟨[]⟩
def I9(f:vh t x)(p:bX)(a:nq N):gY N x p=O (WQ x p):=by
 have a:=f.JN;unfold WQ;refine l_ ?_;unfold gY;refine v (J2 (l:=x.cD) (c:=aA) (g:=λa=>a.aZ.any λc=>decide<|c=p) (Rt:=λr=>∃a∈x.cD,p∈a.aZ/\r=a.Name) C (λe a b _=>?_)<|λe g h=>?_) ?_
 ·have g:=(bR.1 b).1;have i:=eR b;have d:=(f.JO a i).2;rw[iB g,aN];refine v (J2 (l:=a.aZ) (c:=aA) (g:=λc=>decide<|c=p) (Rt:=λr=>∃a∈x.cD,p∈a.aZ/\r=a.Name) C (λi c g _=>?_)<|λi c h=>?_) ?_
  ·have c:=(bR.1 g).1;rw[bS b,w,iB c,aN,w,bS g,w]
   grind [fx,bM,w,p5,eR]
  ·grind [bS,w,ga]
  ·intro i c;refine gf c (λj h=>fx ⟨?_,bM C⟩)<|λr g=>p5 ⟨g.1,?_⟩
   ·grind
   grind
 ·grind [ga]
 ·intro i c;refine gf c (λj h=>o ?_)<|λc c=>o ?_
  ·grind [S8,List.any_eq_false,ky,bN]
  ·obtain⟨⟨a,b,d,rfl⟩,_⟩:=c;have c:S7 x p=true:=S8.2 ⟨a,b,d⟩;rw[aL c];obtain⟨e,j,g,g,h,i⟩:=xR c;obtain⟨i,c⟩:=dM b;have:=f.once i e a j p c g d h
   grind
def ZX(f:vh t x)(p q:bX):WQ x q=WQ x p↔kA x q=kA x p:=by
 have a:∀p,¬S7 x p=aA->kA x p = -1:=λp a=>by
  grind [S7,kA,qI,decide]
 have b:∀{p},S7 x p=aA->s0 x p≠⟨[]⟩:=λ{p}a=>by
  obtain⟨g,e,_,b,_,c⟩:=xR a;rw[c];exact λa=>by have:=f.path e<|eR b;rw[a]at this;revert this;decide
 unfold WQ
 by_cases d:S7 x p=aA
 ·rw[aL d];obtain⟨g,e,i,b,e,c⟩:=xR d
  by_cases d:S7 x q=aA
  ·rw[aL d];obtain⟨e,e,e,g,h,h⟩:=xR d;rw[c,h,i,e];constructor
   ·intro a;have:=f.aeI.inj g b a;omega
   grind
  grind
 grind [S7,xR]
theorem ZY(d:vh t x)(p:bX):(!(WQ x p).sU ⟨[]⟩)=decide (0<=kA x p):=by
 unfold WQ
 by_cases a:S7 x p=aA
 ·rw[aL a];obtain⟨b,b,c,c,e,e⟩:=xR a;have:b.Name≠⟨[]⟩:=λa=>by have:=d.path b<|eR c;rw[a]at this;revert this;decide
  grind [NO,bW,bN]
 grind [S7,VA,bW,kA]
def OC(d:vh t x){c a:aG bX}(h:c≠[])(hl:Z c<=1048576)(m:Z a<=1048576)(e:nq N):jN N x c a=O (Oy x<|c++a):=by
 obtain⟨f,_⟩:=Qw h;have j:Oy x (c++a)=(decide (0<=kA x (iW c 0))&&(c++a).all λa=>decide<|kA x a=kA x (iW c 0)):=by
  obtain⟨b,l,rfl⟩:=List.exists_cons_of_ne_nil h;rfl
 refine l_ ?_;unfold jN;rw[f,w,I9 d _ e,w];generalize iW c 0=b at *;have f:∀{l:aG bX},Z l<=1048576->Ok (gh (λ(c:Int)=>(bif decide (c<(Z l:Int))then(D (A l c) λg=>D (gY N x g) λg=>bif(!g.sU (WQ x b))then O (.rt aK)else O (.nx<|wrap .i64<|c+1))else(O<|.br c):aP (Fl Int Bool))) N 0)
   (QN (λ_=>(l.all λa=>decide<|kA x a=kA x b)=aA)<|λr=>r=aK/\(l.all λa=>decide<|kA x a=kA x b)=aK):=by
  intro l hl;refine Ok.mono (J2 (l:=l) (c:=aA) (g:=λa=> !decide (kA x a=kA x b)) (Rt:=λr=>r=aK) C (λi a g _=>?_)<|λi c k=>?_) ?_
  ·have c:=(bR.1 g).1;rw[iB c,aN,bS g,w,I9 d _ e,w,NO,show decide (WQ x a=WQ x b)=decide (kA x a=kA x b)from decide_eq_decide.2 (ZX d b a)];exact jn (λh=>p5 ⟨rfl,h⟩)<|λh=>fx ⟨h,bM C⟩
  ·have:i=Z l:=by
    rcases k with c|c
    ·exact c
    ·cases c
   subst this;rw[nG,aR];exact ga trivial
  ·rintro(n|r)h
   ·have c:(aA&&l.any λa=> !decide (kA x a=kA x b))=false:=h;show(l.all λa=>decide<|kA x a=kA x b)=aA;rw[Bool.true_and]at c;rw[List.all_eq_not_any_not,c];rfl
   ·obtain⟨c,a⟩:=h;refine⟨c,?_⟩;rw[Bool.true_and]at a;rw[List.all_eq_not_any_not,a];rfl
 rw[j,List.all_append];refine v (f hl)<|λd b=>gf b (λ_ c=>?_)<|λr c=>o ?_
 ·refine v (f m)<|λd b=>gf b (λ_ a=>o ?_)<|λr c=>o ?_
  ·grind [ZY]
  grind
 grind
def Ja{l:aG bX}(h:l≠[])(a:l.Pairwise yJ)(hl:Z l<=1048576)(a:nq N):iU N l=O (iW l 0):=by
 obtain⟨a,_⟩:=Qw h;refine l_ ?_;unfold iU;rw[a,w];refine v (kg (n:=Z l) (λa=>a.2) (λb a=>a.1=iW l 0) (Go:=λa=>a.1=iW l 0) (Rt:=λ_=>False) ?_ ?_ (cT _) rfl rfl C)<|λc c=>gf c (λa c=>o c)<|λr h=>h.elim
 ·rintro b⟨a,a⟩d a c;dsimp only at a c ⊢;subst a;subst c;have a:l[b]? =O l[b]:=aM d;have a:¬yJ l[b] (iW l 0):=by
   grind [iW,aM,yJ,yJ.irrefl,jW,yJ.trans]
  grind [iB,bS,w,F9,bW,fx,bM]
 simp[nG,aR,ga]
def Hv(pcs:aG aH)(near:Int)(u v:Int):Bool:=(pcs[u.toNat]?).elim aK λp=>(pcs[v.toNat]?).elim aK λq=>p.cR==q.cR&&decide (vn p.eG q.eG - 1<near)
def S9(pcs:aG aH)(near:Int)(a b:aG Int):Bool:=a.any λu=>b.any λv=>Hv pcs near u v
def Hx(b:mE a i e r gs d f nF ny){g:Nat}{y:bL}(hg:gs[g]? =O y){c:Int}(hc:c∈y.fK):∃u:Nat,c=(u:Int)/\u<Z (cG 0 e)/\d[u]? =O (g:Int):=by
 obtain⟨h,h,j,_⟩:=Ls b.JJ hg;have h:=hc;rw[j,tz]at h;obtain⟨u,_,rfl⟩:=h;obtain⟨h,h⟩:=(RH b.JJ hg u).1 hc
 grind
def Uv(b:mE a i e r gs d f nF ny){near:Int}{g h:Nat}{p q:bL}(c:gs[g]? =O p)(hq:gs[h]? =O q)(z:nq N):
  jM N ((cG 0 e).map aH.cR) ((cG 0 e).map aH.eG) p q near=O (S9 (cG 0 e) near p.fK q.fK):=by
 have j:=b.CX.2;have j:=b.Hk.gb.len;have j:=(EE b.JJ c).1;have j:=(EE b.JJ hq).1;have n:=λ(p:aH)(c:p∈cG 0 e)=>(⟨(AW b c).1,λq hq=>((AW b c).2.1 q hq).1,WE b c⟩:Z p.eG<=2000/\(∀q∈p.eG,dJ q=aA)/\p.eG≠[]);have u:=λm(l:m∈p.fK)=>Hx b c l;have y:=λm(l:m∈q.fK)=>Hx b hq l;generalize cG 0 e=c at *;refine l_ ?_;unfold jM;refine v (J2 (l:=p.fK) (c:=aA) (g:=λk=>q.fK.any λj=>Hv c near k j) (Rt:=λr=>r=aA) C (λs m l _=>?_)<|λs s l=>?_) ?_
 ·have s:=(bR.1 l).1;obtain⟨k,rfl,t,_⟩:=u m<|eR l
  rw[iB s,aN];refine v (J2 (l:=q.fK) (c:=aA) (g:=λj=>Hv c near ((k:Nat):Int) j) (Rt:=λr=>r=aA) C (λs x m _=>?_)<|λs s l=>?_) ?_
  ·have s:=(bR.1 m).1;obtain⟨j,rfl,u,_⟩:=y x<|eR m
   have x:c[k]? =O c[k]:=aM t;have x:c[j]? =O c[j]:=aM u;have x:(c.map aH.cR)[k]? =O c[k].cR:=H
   have y:(c.map aH.cR)[j]? =O c[j].cR:=H
   have A:(c.map aH.eG)[k]? =O c[k].eG:=H
   have A:(c.map aH.eG)[j]? =O c[j].eG:=H
   obtain⟨A,A,B⟩:=n c[k]<|cH t
   obtain⟨t,t,D⟩:=n c[j]<|cH u
   have n:Hv c near ((k:Nat):Int) ((j:Nat):Int)=(c[k].cR==c[j].cR&&decide (vn c[k].eG c[j].eG - 1<near)):=by
    grind [Hv,cN]
   rw[iB s,aN,bS l,w,bS m,w];refine dy (x:=Hv c near ((k:Nat):Int) ((j:Nat):Int)) ?_<|jn (λh=>p5 ⟨rfl,h⟩)<|λh=>fx ⟨h,bM C⟩
   rw[n,bS x,w,bS y,w]
   cases l:(c[k].cR==c[j].cR)with
   |false=>rfl
   |true=>
    obtain⟨l,l,l⟩:=RX (N:=N) (a:=c[k].eG) (b:=c[j].eG) C C A t B D z
    simp_all[aN,bS,w,Bool.true_and]
  ·grind [ga]
  ·intro l c;refine gf c (λm j=>fx ⟨?_,bM C⟩)<|λr k=>p5 ⟨k.1,?_⟩
   ·grind
   grind
 ·grind [ga]
 ·intro l c;refine gf c (λm j=>o ?_)<|λc c=>o ?_
  ·rw[Bool.true_and]at j;exact j.symm
  ·rw[c.1];have:=c.2;rw[Bool.true_and]at this;exact this.symm
def Uw(b:mE a i e r gs d f nF ny){near:Int}{g h:Nat}{p q:bL}(z:gs[g]? =O p)(hq:gs[h]? =O q)(ae:g<h):
  S9 (cG 0 e) near p.fK q.fK=aA↔I6 (cG 0 e) d near ⟨(g:Int),(h:Int)⟩:=by
 have af:=b.JJ.of.lp;have B:=λ(p:aH)(z:p∈cG 0 e)=>(⟨λq hq=>((AW b z).2.1 q hq).1,WE b z⟩:(∀q∈p.eG,dJ q=aA)/\p.eG≠[]);have ab:=λu(y:u∈p.fK)=>Hx b z y;have ad:=λu(y:u∈q.fK)=>Hx b hq y;have T:=λk=>RH b.JJ z k;have U:=λk=>RH b.JJ hq k;have S:=λ{k}hk=>Lv b (k:=k) hk;generalize cG 0 e=c at *;unfold S9;rw[ky];constructor
 ·rintro⟨u,y,o⟩;obtain⟨X,Y,j⟩:=ky.1 o;obtain⟨m,rfl,V,J⟩:=ab u y;obtain⟨n,rfl,W,K⟩:=ad X Y;have s:c[m]? =O c[m]:=aM V;have t:c[n]? =O c[n]:=aM W;obtain⟨L,M⟩:=B c[m]<|cH V
  obtain⟨N,P⟩:=B c[n]<|cH W
  unfold Hv at j;rw[cN,cN,s,t,Option.elim_some,Option.elim_some,dE,dZ,beq_iff_eq]at j;have I:d[m]? ≠d[n]? :=by rw[J,K];intro A;injection A with A;omega
  have ag:m≠n:=λA=>I (by rw[A])
  rcases Nat.lt_or_ge m n with R|aa
  ·refine⟨m,n,?_,?_⟩
   ·unfold nH;rw[s,t,Option.elim_some,Option.elim_some,bN R,bN I,bN j.2,j.1,BEq.rfl];rfl
   ·unfold gk;rw[J,K];show _=(⟨min (g:Int) (h:Int),max (g:Int) (h:Int)⟩:bU);congr 1 <;> omega
  ·refine⟨n,m,?_,?_⟩
   ·unfold nH;rw[Nb L N M P]at j;rw[s,t,Option.elim_some,Option.elim_some,bN (show n<m by omega),bN I.symm,bN j.2,j.1,BEq.rfl];rfl
   ·unfold gk;rw[J,K];show _=(⟨min (h:Int) (g:Int),max (h:Int) (g:Int)⟩:bU);congr 1 <;> omega
 ·rintro⟨l,k,o,j⟩;obtain⟨l1,E,l3⟩:=xQ o;have D:l<Z c:=C
  have s:c[l]? =O c[l]:=aM D;have t:c[k]? =O c[k]:=aM E;obtain⟨L,M⟩:=B c[l]<|cH D
  obtain⟨N,P⟩:=B c[k]<|cH E
  obtain⟨gi,F,a2⟩:=S (k:=l) C;obtain⟨x,G,b2⟩:=S (k:=k) C;unfold gk at j;rw[F,G]at j;have h3:(g:Int)=min (gi:Int) (x:Int)/\(h:Int)=max (gi:Int) (x:Int):=by injection j with v w;exact⟨v,w⟩
  unfold nH at o;rw[s,t,Option.elim_some,Option.elim_some]at o;simp only[dE,dZ,beq_iff_eq]at o;obtain⟨_,Q,_,H⟩:=o
  rcases Nat.lt_or_ge gi x with R|aa
  ·have v:gi=g:=C
   have w:x=h:=C
   subst v;subst w;refine⟨(l:Int),(T l).2 ⟨D,F⟩,ky.2 ⟨((k:Nat):Int),(U k).2 ⟨E,G⟩,?_⟩⟩;unfold Hv;rw[cN,cN,s,t,Option.elim_some,Option.elim_some,Q,BEq.rfl,bN H];rfl
  ·have v:x=g:=C
   have w:gi=h:=C
   subst v;subst w;refine⟨((k:Nat):Int),(T k).2 ⟨E,G⟩,ky.2 ⟨(l:Int),(U l).2 ⟨D,F⟩,?_⟩⟩;unfold Hv;rw[Nb L N M P]at H;rw[cN,cN,s,t,Option.elim_some,Option.elim_some,Q,BEq.rfl,bN H];rfl
end
noncomputable def QF(x:bV)(pcs:aG aH)(a:aG Int)(gs:aG bL)(near:Int)(e:Int×Nat×Nat):aP k:=
 if I6 pcs a near ⟨((e.2.1:Nat):Int),((e.2.2:Nat):Int)⟩then RS x gs ⟨((e.2.1:Nat):Int),((e.2.2:Nat):Int)⟩else aQ
theorem Mj{α β:Type}(f:α->aP β)(l:aG α)(y:α):(l++[y]).filterMap f=l.filterMap f++(f y).toList:=H
section
variable {N:Nat}{t:aG bD}{x:bV}{a:ir}{i:aG (aG aB)}{d:aG (aG (aG aB))}{r:Nat->Nat}{gs:aG bL}{c f nF:aG Int}{ny:aG gL}
def OD(J:vh t x)(b:mE a i d r gs c f nF ny)(near:Int)(z:nq N):
  ∃m,gJ N x ((cG 0 d).map aH.cR) ((cG 0 d).map aH.eG) gs near=O m/\m.Perm ((ry (λ_ _=>0) (Z gs) (Z gs)).filterMap<|QF x (cG 0 d) c gs near)/\Jx m:=by
 have e:=b.CX.2;have e:=b.Hk.gb.len;have e:=(Wf b.JJ).2;have e:=b.DR.CX;have j:Z gs<=2500:=C
 refine show Ok (gJ N x ((cG 0 d).map aH.cR) ((cG 0 d).map aH.eG) gs near) (λm=>m.Perm ((ry (λ_ _=>0) (Z gs) (Z gs)).filterMap<|QF x (cG 0 d) c gs near)/\Jx m)from ?_;unfold gJ;have q:∀e g,e<=Z gs->Z ((ry (λ_ _=>0) e (Z gs)++uz (λ_ _=>0) e g).filterMap<|QF x (cG 0 d) c gs near)<=6250000+g:=λe g h=>by
  refine nS (List.length_filterMap_le _ _) ?_;rw[cK];have k:=yK (λ_ _=>0) (Z gs) e;have l:=EF (λ_ _=>0) e g;have n:e*Z gs<=2500*2500:=Nat.mul_le_mul C j;omega
 refine v (kg (n:=Z gs) (λj=>j.2) (λe j=>j.1.Perm ((ry (λ_ _=>0) e (Z gs)).filterMap<|QF x (cG 0 d) c gs near)/\Jx j.1) (Go:=λj=>j.1.Perm ((ry (λ_ _=>0) (Z gs) (Z gs)).filterMap<|QF x (cG 0 d) c gs near)/\Jx j.1) (Rt:=λ_=>False) ?_ ?_ (cT _) rfl ⟨by simp[ry],Jx.nil⟩ C) ?_
 ·rintro e⟨j,G⟩h n⟨k,l⟩;dsimp only at n k l ⊢;subst n;rw[iB h,aN,bM C];refine v (kg (n:=Z gs) (λj=>j.2) (λg j=>e+1<=g/\j.1.Perm ((ry (λ_ _=>0) e (Z gs)++uz (λ_ _=>0) e g).filterMap<|QF x (cG 0 d) c gs near)/\Jx j.1) (Go:=λj=>j.1.Perm ((ry (λ_ _=>0) (e+1) (Z gs)).filterMap<|QF x (cG 0 d) c gs near)/\Jx j.1) (Rt:=λ_=>False) ?_ ?_ (k0:=e+1) C rfl ⟨du _,by grind [Iq],l⟩ C) ?_
  ·rintro g⟨j,I⟩p n⟨s,k,l⟩;dsimp only at n k l ⊢;subst n;have s:gs[e]? =O gs[e]:=aM h;have u:gs[g]? =O gs[g]:=aM p;have h:=EE b.JJ s;have h:=EE b.JJ u;have h:=q e g C;have h:=k.length_eq;have h:Qx gs ⟨((e:Nat):Int),((g:Nat):Int)⟩ e g gs[e] gs[g]:=⟨rfl,rfl,C,s,u⟩;have F:(ry (λ_ _=>0) e (Z gs)++uz (λ_ _=>0) e (g+1)).filterMap (QF x (cG 0 d) c gs near)=(ry (λ_ _=>0) e (Z gs)++uz (λ_ _=>0) e g).filterMap (QF x (cG 0 d) c gs near)++(QF x (cG 0 d) c gs near (0,e,g)).toList:=by
    grind [B5,eM,Mj]
   have q:QF x (cG 0 d) c gs near (0,e,g)=if I6 (cG 0 d) c near ⟨((e:Nat):Int),((g:Nat):Int)⟩then(if gs[e].aZ= []\/gs[g].aZ= []\/Oy x (gs[e].aZ++gs[g].aZ)=aA then aQ else O (UA gs[e].aZ gs[g].aZ))else none:=by
    rw[<-JQ (x:=x) h];rfl
   have B:=Uw b (near:=near) s u C;rw[iB p,aN,bS s,w,bS u,w];have E:∃y:Bool,(bif(Z gs[e].aZ:Int)==0 then O aA else(bif(Z gs[g].aZ:Int)==0 then O aA else(D (jM N ((cG 0 d).map aH.cR) ((cG 0 d).map aH.eG) gs[e] gs[g] near) λh=>bif(!h)then O aA else(D (jN N x gs[e].aZ gs[g].aZ) λh=>O h))))=O y/\
     (y=aA->QF x (cG 0 d) c gs near (0,e,g)=aQ)/\(y=aK->gs[e].aZ≠[]/\gs[g].aZ≠[]/\QF x (cG 0 d) c gs near (0,e,g)=O (UA gs[e].aZ gs[g].aZ)):=by
    rw[q]
    by_cases p:gs[e].aZ= []
    ·exact⟨aA,by rw[p];rfl,λ_=>H,λh=>by cases h⟩
    have q:Z gs[e].aZ≠0:=λh=>p<|List.length_eq_zero_iff.1 h
    rw[show((Z gs[e].aZ:Int)==0)=aK by grind,aR]
    by_cases q:gs[g].aZ= []
    ·exact⟨aA,by rw[q];rfl,λ_=>H,λh=>by cases h⟩
    have A:Z gs[g].aZ≠0:=λh=>q<|List.length_eq_zero_iff.1 h
    rw[show((Z gs[g].aZ:Int)==0)=aK by grind,aR,Uv b s u z,w]
    cases A:S9 (cG 0 d) near gs[e].fK gs[g].fK with
    |false=>
     refine⟨aA,rfl,λ_=>?_,λh=>by cases h⟩;rw[aJ];intro h;rw[B.2 h]at A;cases A
    |true=>
     rw[iL,aR,OC J p C C z,w,aL<|B.1 A];refine⟨_,rfl,λh=>H,λh=>⟨p,q,?_⟩⟩;rw[aJ];simp only[not_or];exact⟨p,q,H⟩
   obtain⟨y,A,B,B⟩:=E;rw[A,w]
   cases y with
   |true=>
    grind [fx,bM]
   |false=>
    obtain⟨p,q,y⟩:=B rfl;have A:=(JP b s).1;have s:=(JP b u).1;obtain⟨m,u,B,E⟩:=OA (N:=N) (UA gs[e].aZ gs[g].aZ) (l:=j) C l z;rw[aR,Ja p A C z,w,Ja q s C z,w];rw[F9,w];refine dy (x:=UA gs[e].aZ gs[g].aZ) ?_ ?_
    ·unfold UA
     by_cases h:yJ (iW gs[g].aZ 0) (iW gs[e].aZ 0)
     ·rw[bN h,aL<|vK.2 h];rfl
     ·rw[bW h,aJ<|λe=>h<|vK.1 e];rfl
    ·rw[u,w];refine fx ⟨bM C,C,?_,E⟩;rw[F,y];exact B.trans<|k.append_right _
  ·rintro⟨j,I⟩n⟨_,k,l⟩;dsimp only at n k l ⊢;subst n;rw[nG,aR];exact ga ⟨by rw[AY];exact k,l⟩
  ·intro p e;exact gf e (λj g=>fx ⟨rfl,g⟩)<|λr h=>h.elim
 ·rintro⟨j,G⟩n⟨k,l⟩;dsimp only at n k l ⊢;subst n;rw[nG,aR];exact ga ⟨k,l⟩
 ·intro p e;exact gf e (λj g=>o g)<|λr h=>h.elim
def RY(aa:bk x<=1048576)(ok:vh t x)(b:mE a i d r gs c f nF ny)(near:Int)(R:nq N){m:aG k}{K:aG (bU×Bool)}(B:D3 K (I6 (cG 0 d) c near))(hm:m.Perm (K.filterMap λe=>RS x gs e.1))(h:m.Pairwise vl):
  gJ N x ((cG 0 d).map aH.cR) ((cG 0 d).map aH.eG) gs near=O m:=by
 obtain⟨Y,m1,G,m3⟩:=OD (N:=N) ok b near R;rw[m1];congr 1;have T:((ry (λ_ _=>0) (Z gs) (Z gs)).filterMap<|QF x (cG 0 d) c gs near).Pairwise λu v=>¬(u.A=v.A/\u.B=v.B):=by
  rw[List.pairwise_filterMap];refine List.Pairwise.imp_of_mem (λ{e j}D S V u h v y⟨P,Q⟩=>?_)<|JM (λ_ _=>0) (Z gs) (Z gs)
  obtain⟨_,W,l2,z1⟩:=wE.1 D;obtain⟨_,X,l4,z2⟩:=wE.1 S;unfold QF at h y;split at h
  ·split at y
   ·have I:Qx gs ⟨((e.2.1:Nat):Int),((e.2.2:Nat):Int)⟩ e.2.1 e.2.2 (gs[e.2.1]' C) gs[e.2.2]:=⟨rfl,rfl,W,aM _,aM _⟩;have J:Qx gs ⟨((j.2.1:Nat):Int),((j.2.2:Nat):Int)⟩ j.2.1 j.2.2 (gs[j.2.1]' C) gs[j.2.2]:=⟨rfl,rfl,X,aM _,aM _⟩;have:=S5 b I J h y P Q;injection this with s e2
    unfold SZ at V;omega
   ·cases y
  ·cases h
 have E:Y.Pairwise vl:=EJ m3<|Hu G T
 have H:∀{l:aG k},l.Pairwise vl->l.Nodup:=λg=>g.imp λ{u v}g e=>by subst e;exact vl.irr _ g
 refine Iu E h<|(List.perm_ext_iff_of_nodup (H E)<|H h).2 λu=>?_
 rw[G.mem_iff,hm.mem_iff,List.mem_filterMap,List.mem_filterMap];constructor
 ·rintro⟨e,D,g⟩;unfold QF at g;split at g
  ·rename_i w;obtain⟨n,z,s⟩:=dH.1<|(B.mem _).2 w
   exact⟨n,z,by rw[s];exact g⟩
  ·cases g
 ·rintro⟨n,z,g⟩;have w:=(B.mem n.1).1<|dH.2 ⟨n,z,rfl⟩
  obtain⟨A,F,ab,ad,o⟩:=Qy b w;have s:n.1= ⟨(A:Int),(F:Int)⟩:=by
   have p:=o.e0;have q:=o.e1;revert p q
   cases n.1
   intro p q;dsimp only at p q;rw[p,q]
  have U:=o.lt;have L:=(bR.1 o.q).1;have M:=(bR.1 o.p).1;refine⟨(0,A,F),wE.2 ⟨M,U,L,rfl⟩,?_⟩;unfold QF;dsimp only;rw[<-s,aL w];exact g
theorem LN(l:aG k):jq N l=O (D4 l):=by
 unfold jq D4
 grind
def RZ{l m:aG k}(hl:l.Perm (zR x a))(hm:m.Perm (zR x a))(d:vh t x)(g:l.Pairwise λb c=>¬vl c b)(h:m.Pairwise λb c=>¬vl c b):l=m:=by
 refine List.Perm.eq_of_pairwise (le:=λb c=>¬vl c b) (λb c e f i i=>?_) g h<|hl.trans hm.symm
 have g:=(LJ d<|hl.mem_iff.1 e).2;have e:=(LJ d<|hm.mem_iff.1 f).2
 rcases vl.tot b c with d|⟨d,e⟩|d
 ·grind
 ·obtain⟨d,d,d⟩:=b;obtain⟨b,b,b⟩:=c
  grind
 grind
def Ux{o:aG k}(h:tT o=aK)(l:o.Pairwise λb c=>¬vl c b):o.Pairwise vl:=by
 refine AX (R:=vl) (λ_ _ _=>vl.trans) λe b c f d=>?_;have j:=(bR.1 d).1;obtain⟨_,a⟩:=bR.1 f;obtain⟨_,g⟩:=bR.1 d;have i:=jW.1 l e (e+1) C j C;rw[a,g]at i
 rcases vl.tot b c with a|a|a
 ·exact a
 ·exact absurd ⟨e,b,c,f,d,a⟩<|of_decide_eq_false h
 grind
def LO{o a:aG k}(c:o.Perm a)(b:o.Pairwise λu v=>¬vl v u)(d:a.Pairwise λu v=>¬vl v u)(h:tT o=aK):tT a=aK/\o=a:=by
 have a:=Ux h b;have b:o.Pairwise λu v=>¬(u.A=v.A/\u.B=v.B):=a.imp λ{u v}h a=>by
  rcases h with h|⟨_,h⟩
  all_goals grind [yJ.irrefl]
 have a:=EJ d<|Hu c.symm b
 grind [Iu]
def QG{l:aG k}(hl:Z l<=2000)(a:nq N):
  D (gh (λ(a:Int)=>(bif decide (a<(Z l:Int))then(D (D (A l a) λb=>D (A l<|wrap .i64<|a - 1) λc=>bif b.A=c.A then(D (A l a) λb=>D (A l<|wrap .i64<|a - 1) λc=>O<|decide<|b.B=c.B)else O aK) λb=>bif b then O (.rt (([]:aG k),12))else O (.nx<|wrap .i64<|a+1))else(O<|.br a):aP (Fl Int<|aG k×Int))) N 1) (λ(b:Fo Int (aG k×Int))=>b.cs (λ(a:Int)=>O (l,(0:Int)))<|λr=>O r)=O (if tT l=aA then([],12)else(l,0)):=by
 refine l_ ?_
 by_cases a:Z l=0
 ·have:l= []:=List.length_eq_zero_iff.1 a;subst this
  refine v (P:=QN (λ_=>True) (λ_=>False)) (od (λb=>b=1) (λ_=>0) (λb h=>by
   grind [decide,ga]) rfl C) (λi g=>gf g (λ_ _=>o ?_) (λr c=>c.elim))
  simp[aJ,tT]
 ·refine v (P:=QN (λ_=>tT l=aK)<|λr=>tT l=aA/\r=([],12)) (kg (n:=Z l) (λb=>b) (λa _=>1<=a/\∀d e f,d+1<a->l[d]? =O e->l[d+1]? =O f->¬(e.A=f.A/\e.B=f.B)) ?_ ?_ (k0:=1) C rfl ⟨du _,λd e f c=>C⟩ C)<|λi g=>gf g (λb h=>o H)<|λr g=>o H
  ·rintro a b h g⟨i,j⟩;subst g;have m:l[a]? =O l[a]:=aM h;have m:l[a - 1]? =O l[a - 1]:=aM C;rw[iB h,aN];refine dy (x:=decide<|l[a].A=l[a - 1].A/\l[a].B=l[a - 1].B) ?_<|jn (λc=>p5 ?_)<|λc=>fx ⟨bM C,C,λd e f d d d d=>?_⟩
   ·grind [bS,w,wC,bN,bW]
   ·have:=of_decide_eq_true c;exact⟨bN ⟨a - 1,_,_,m,H,this.1.symm,this.2.symm⟩,rfl⟩
   grind
  ·rintro b g⟨i,j⟩;subst g;rw[nG,aR];refine ga<|bW ?_
   grind
theorem zS(near:Int):ld N near 0 100000=O (decide (near>=0)&&decide (near<=100000)):=rfl
def R0{e:Int}(he:e≠0)(h:eN N t x a=O e):gX N t x a=O ([],e):=by
 grind [gX,w]
def QH{e near:Int}(he:e≠0)(h:eN N t x a=O e):fQ N t x a near=O ([],e):=by
 grind [fQ,w]
def QI{e near:Int}(he:e≠0)(h:eN N t x a=O e):fR N t x a near=O ([],e):=by
 grind [fR,w]
def R1{near:Int}{A B C:aG k×Int}(f:Z A.1<=4611686018427387904)(g:Z B.1<=4611686018427387904)(h:Z C.1<=4611686018427387904)(i:nq N)(a1:pG N t x a=O A)(b:gX N t x a=O A)(b1:oh N t x a near=O B)(c:fQ N t x a near=O B)
  (d:oj N t x a near=O C) (e:fR N t x a near=O C):fM N t x a near=O true:=by
 unfold fM
 rw[a1,w,b,w,F8 f,w,bN rfl,bne_self_eq_false,iL,Bool.or_self,aR,b1,w,c,w,F8 g,w,bN rfl,bne_self_eq_false,iL,Bool.or_self,aR,
  d,w,e,w,F8 h,w,bN rfl,BEq.rfl,Bool.true_and,aN,XH i,w,w]
def Iv(l:aG k)(h:Z l<=4611686018427387904):Z (D4 l).1<=4611686018427387904:=by
 grind [D4]
def Ce{near:Int}(L:bk t<=1048576)(s:bk x<=1048576)(u:bk a<=1048576)(_hn:bk near<=1048576)(b:nq N):fM N t x a near=O true:=by
 have M:=It (N:=N) L s C
 rcases aeK (N:=N) L s u b with⟨q,g,e,wG⟩|⟨I,k,h1,e⟩
 ·have l:eN N t x a=O q:=by
   unfold eN;rw[M,w]
   rcases wG with o|⟨o,h3⟩
   ·grind
   ·rw[o,bne_self_eq_false,aR]
    rcases u0 (N:=N) (DT u) b with⟨X,ad,F,G⟩|⟨_,F,_⟩
    ·grind
    grind
  exact R1 (A:=([],q)) (B:=([],q)) (C:=([],q)) (cT _) (cT _) (cT _) b (Um g e) (R0 g l) (LH g<|QA g e) (QH g l) (LI g<|QA g e)<|QI g l
 rename_i i d r gs c f nF ny;have j:=Ov I;have l:eN N t x a=O 0:=by
  unfold eN;rw[M,w,I,bne_self_eq_false,aR]
  rcases u0 (N:=N) (DT u) b with⟨X,ad,F,G⟩|⟨_,_,G⟩
  ·grind
  grind
 obtain⟨ag,A,T,l3⟩:=Wy (N:=N) j k.DR b;obtain⟨h,k1,k2,S⟩:=Ur (N:=N) (x:=x) j k.DR b;have Y:h=ag:=RZ k2 T j S l3;subst Y;have aj:Z h<=250000000:=by
  rw[T.length_eq];unfold zR;have:=Hs (ns:=x.cD) (λah m=>(j.JO ah m).2) a;have o:Z x.cD*250000<=1000*250000:=Nat.mul_le_mul_right _ j.JN;omega
 have J:gX N t x a=O (D4 h):=by
  grind [gX,w,LN]
 by_cases m:¬(0<=near/\near<=100000)
 ·have z:(decide (near>=0)&&decide (near<=100000))=false:=H
  have K:=WC e m;refine R1 (A:=D4 h) (B:=([],1)) (C:=([],1)) (Iv _ C) (cT _) (cT _) b (QB e A) J (LH C K) ?_ (LI C K) ?_
  all_goals grind [fQ,w,zS,lU,fR]
 replace m:=Classical.not_not.1 m
 have z:(decide (near>=0)&&decide (near<=100000))=true:=H
 have P:=XK e m;obtain⟨n,ai,U,m2,m3,m4,m5⟩:=Ul (N:=N) s j k near b;have R:=RY (N:=N) s j k near b m2 m3 m4;have hA:fQ N t x a near=O (D4 n):=by
  unfold fQ;rw[l,w,bne_self_eq_false,aR,zS,w,z,iL,aR,I2 k b,w,R,w,LN,w]
 obtain⟨p,V,W,o3⟩:=Uo (N:=N) P A U C b;have ae:=V.length_eq;rw[cK]at ae;have aa:fR N t x a near=O (if 2000<Z h+Z n then([],2)else if tT p=aA then([],12)else(p,0)):=by
  unfold fR;rw[l,w,bne_self_eq_false,aR,zS,w,z,iL,aR,k1,w,I2 k b,w,R,w,ed C]
  by_cases o:2000<Z h+Z n
  ·grind
  ·rw[bW (show ¬((Z h+Z n:Nat):Int)>2000 by omega),aR,aJ o];refine l_ ?_;refine v (QD (N:=N) n (Q:=λ_=>True) (f:=λ_=>aQ) C S b)<|λal hq=>gf hq ?_<|λr e=>e.elim
   rintro⟨B,ak⟩⟨D,E⟩;dsimp only at D E ⊢;have af:=D.length_eq;rw[cK]at af;refine Z_ (QG (l:=B) C b) ?_;have Q:p.Perm B:=V.trans D.symm
   cases y:tT p with
   |false=>
    obtain⟨q1,q2⟩:=LO Q W E y;subst q2;rw[y]
   |true=>
    cases ab:tT B with
    |true=>rfl
    |false=>
     have:=(LO Q.symm E W ab).1;rw[y]at this;cases this
 refine R1 (Iv h C) (Iv n C) ?_ b (QB e A) J (Un P U) hA o3 aa;split
 ·exact cT _
 ·split
  ·exact cT _
  ·show Z p<=_;omega
end
end Go.Gk
