/-
  Helping texts: plain functions and plain laws. No statement of the seed is proved here.
-/
import Derived.Test.YtibjlncmnefhcaaGreatDoorE1
import Derived.Test.YtibjlncmnefhcaaGreatDoorA2
set_option linter.defProp false
set_option linter.unusedVariables false
set_option linter.unusedSimpArgs false
set_option linter.unusedSectionVars false
open Bool renaming true→aA,false→aK
open List renaming length→Z
open Option renaming bind→D,some→O,none→aQ
namespace Go.Gk
open Go IntKind
section
variable {N:Nat}
def N2{n:Nat}{b:aG Int}{r:Nat->Nat}(h:UF n b r){i:Nat}(hi:i<n)(a:n<N):∃g,ij N (i:Int) b=O (((r i:Nat):Int),g)/\UF n g r:=by
 unfold ij
 have:=v (β:=Int×aG Int) (Q:=λj=>j.1=((r i:Nat):Int)/\UF n j.2 r) (od (body:=λ(a:Int×(aG Int))=>(D (A a.2 a.1) λc=>bif(c != a.1)then(D (A a.2 a.1) λc=>D (A a.2 c) λc=>D (A a.2 a.1) λd=>D (A (a.2.set (Int.toNat a.1) c) a.1) λd=>O (.nx (d,(a.2.set (Int.toNat a.1) c))))else(O (.br (a.1,a.2))):aP (Fl (Int×(aG Int)) Empty)))
  (N:=N) (s:=((i:Int),b)) (Go:=λc=>c.1=((r i:Nat):Int)/\UF n c.2 r) (Rt:=λ_=>True) (λc=>UF n c.2 r/\∃b:Nat,c.1=(b:Int)/\b<n/\r b=r i) (λc=>c.1.toNat) (by
   rintro⟨d,d⟩⟨d,b,e,k,f⟩;dsimp only at d e ⊢;subst e;obtain⟨f,e,l,l,l⟩:=d.rt b k;refine fy e ?_
   by_cases k:f=b
   ·grind [ga]
   ·obtain⟨k,l,m,m,m⟩:=d.rt f C;have m:=d.len;rw[show((f:Int) != (b:Int))=aA by simp;omega,aN];refine fy e<|fy l<|fy e<|fy (x:=(k:Int)) H<|fx ⟨⟨⟨by simp[m],λe l=>?_⟩,k,rfl,C,?_⟩,?_⟩
    ·rw[cN,va C]
     by_cases f:e=b
     ·grind
     ·rw[aJ f];exact d.rt e l
    ·omega
    omega)
  ⟨h,i,rfl,hi,rfl⟩ C)
  (λb b=>gf (f:=λ(a:Int×aG Int)=>O (a.1,a.2)) (g:=λr:Empty=>r.elim) b (λc h=>o h)<|λr=>r.elim)
 obtain⟨⟨j,g⟩,a,a,a⟩:=this
 grind
def VM{n:Nat}{a:aG Int}{r:Nat->Nat}(h:UF n a r){i k:Nat}(hi:i<n)(c:k<n){f:aG Int->aP (aG Int)}(d:n<N):
  ∃e,(D (ij N (i:Int) a) λb=>D (ij N (k:Int) b.2) λa=>D (A a.2 (if b.1<a.1 then a.1 else b.1)) λg=>O<|a.2.set (Int.toNat (if b.1<a.1 then a.1 else b.1)) (if a.1<b.1 then a.1 else b.1))=O e/\UF n e (px r (r i)<|r k):=by
 obtain⟨a,b,e⟩:=N2 h hi d;obtain⟨a,g,a⟩:=N2 e c d;have d:=h.le i hi;have d:=h.le k c;have d:=h.rr i hi;have d:=h.rr k c;rw[b,w,g,w];dsimp only;rw[Rp,Rq];have b:max (r i) (r k)<n:=C
 have b:=a.len;rw[ma _ _ C,w,cN];refine⟨_,rfl,by simp[b],λb d=>?_⟩;have c:r (max (r i)<|r k)=max (r i) (r k):=H
 have c:r (min (r i)<|r k)=min (r i) (r k):=H
 rw[va C]
 by_cases c:b=max (r i) (r k)
 ·grind [Min.min,px]
 ·rw[aJ c];obtain⟨c,c,c,c,c⟩:=a.rt b d
  grind [px,Max.max]
def lQ(s:aG aB)(k:Nat):Nat:=Z (bF<|s.take k)
def H2{s:aG aB}{k:Nat}(h:k<Z s):lQ s (k+1)=lQ s k+Z s[k].Xs / 2:=by
 grind [lQ,dQ,tx,cK,bF,rW,vJ]
def H3{s:aG aB}{k m:Nat}(h:k<=m):lQ s k<=lQ s m:=by
 unfold lQ;have:=HZ (s.take m) k
 grind
theorem PN(s:aG aB):lQ s (Z s)=Z (bF s):=by simp[lQ,fz]
def Xu{s:aG aB}{k t:Nat}(h:k<Z s)(a:2*t+1<Z s[k].Xs):(bF s)[lQ s k+t]? =O ⟨s[k].Xs[2*t],s[k].Y0,s[k].Xs[2*t+1],s[k].Y1⟩:=by
 have a:bF s=bF (s.take k)++(rW s[k]++bF (s.drop<|k+1)):=by
  grind [List.take_append_drop,r6,tx,rX]
 grind [lQ,ly,Nat.add_sub_cancel_left,my,vJ,rW,Ha]
def SL{s:aG aB}{i:Nat}(h:i<Z (bF s)):∃k,k<Z s/\lQ s k<=i/\i<lQ s (k+1):=by
 have a:∀a,a<=Z s->i<lQ s a->∃k,k<a/\lQ s k<=i/\i<lQ s (k+1):=by
  intro a
  induction a with
  |zero=>simp[lQ,bF]
  |succ a b=>
   grind
 grind [PN]
def N3(a c:z):Prop:=a.Y1=c.Y0/\a.X0<c.X1/\c.X0<a.X1
def Hz(b:aG z)(i j:Nat):Prop:=∃a c,b[i]? =O a/\b[j]? =O c/\N3 a c
def Et{s:aG aB}(he:∀b∈s,Z b.Xs % 2=0){k i:Nat}(a:k<Z s)(h1:lQ s k<=i)(h2:i<lQ s (k+1)):∃t,i=lQ s k+t/\∃h:2*t+1<Z s[k].Xs,(bF s)[i]? =O ⟨s[k].Xs[2*t],s[k].Y0,s[k].Xs[2*t+1],s[k].Y1⟩:=by
 rw[H2 a]at h2;have:=he _<|cH a
 refine⟨i - lQ s k,C,C,?_⟩;have c:=Xu (t:=i - lQ s k) a C
 grind
def KQ{s:aG aB}(hc:gC (s.map cS)){p q:Nat}(a:p<Z s)(hq:q<Z s)(h:p<q):s[p].Y1<=s[q].Y0:=by
 have:=jW.1 hc.ord p q (by simp;omega) (by simp;omega) h;simp only[List.getElem_map]at this;exact this.1
def KR{s:aG aB}(hc:gC (s.map cS)){p:Nat}(a:p<Z s):s[p].Y0<s[p].Y1:=(hc.each (cS s[p])<|dH.2 ⟨_,cH a,rfl⟩).1
def AL{s:aG aB}(hc:gC (s.map cS)):∀b∈s,Z b.Xs % 2=0:=λb a=>(hc.each (cS b)<|dH.2 ⟨b,a,rfl⟩).2.2.2
def SM{s:aG aB}(hc:gC (s.map cS)):∀b∈s,lF b.Xs:=λb a=>(hc.each (cS b)<|dH.2 ⟨b,a,rfl⟩).2.2.1
def PO{s:aG aB}(hc:gC (s.map cS)){i j q:Nat}(hq:q<Z s)(h1:lQ s q<=j)(h2:j<lQ s (q+1))(g:Hz (bF s) i j):∃D:0<q,s[q - 1].Y1=s[q].Y0/\lQ s (q - 1)<=i/\i<lQ s q:=by
 obtain⟨p,r,b,c,f,t,u⟩:=g;obtain⟨G,v,g,m⟩:=Et (AL hc) hq h1 h2;rw[m]at c;injection c with c;subst c
 have l:=(bR.1 b).1;obtain⟨a,d,n,o⟩:=SL l;obtain⟨H,w,F,k⟩:=Et (AL hc) d n o;rw[k]at b;injection b with b;subst b
 have f:s[a].Y1=s[q].Y0:=f;have A:=KR hc d;have E:=KR hc hq;have B:a+1=q:=by
  rcases Nat.lt_trichotomy a q with e|e|e
  ·by_cases h:a+1=q
   ·exact h
   ·have x:=KQ hc d (show a+1<Z s by omega) C;have y:=KQ hc (show a+1<Z s by omega) hq C;have z:=KR hc (show a+1<Z s by omega);omega
  ·grind
  ·have:=KQ hc hq d e;omega
 grind
structure PJ (all:aG z) (n:Nat) (up:aG Int) (r:Nat->Nat) (E:aG (Nat×Nat)):Prop where
 uf:UF n up r
 co:wU r E
 fi:Jq n r E
 so:∀p∈E,Hz all p.1 p.2
def PJ.join{a:aG z}{n:Nat}{c b:aG Int}{r:Nat->Nat}{E:aG (Nat×Nat)}(h:PJ a n c r E){i j:Nat}(hi:i<n)(hj:j<n)(c:UF n b (px r (r i)<|r j))(d:Hz a i j):PJ a n b (px r (r i)<|r j) (E++[(i,j)]):=
 ⟨c,h.co.join i j (h.uf.rr i hi),h.fi.join hi hj,λb a=>by
  rcases dS.1 a with a|a
  ·exact h.so b a
  grind⟩
structure Joined (all:aG z) (r:Nat->Nat):Prop where
 le:∀i,i<Z all->r i<=i
 rr:∀i,i<Z all->r (r i)=r i
 co:∀i j,Hz all i j->r i=r j
 fi:∀S:Nat->Prop,(∀i j,Hz all i j->(S i↔S j))->∀i j,i<Z all->j<Z all->r i=r j->S i->S j
def uE(a:aG z)(n:Nat)(r:Nat->Nat)(h:Nat):aG z:=(h_ n r h).filterMap<|λi=>a[i]?
def KS(a:aG z)(n:Nat)(r:Nat->Nat)(h:Nat):Z (uE a n r h)<=n:=by
 grind [List.length_filterMap_le,h_,Hc,uE]
def Eu{a:aG z}{n:Nat}{r:Nat->Nat}(h:Nat){x:z}(hx:a[n]? =O x):uE a (n+1) r h=if r n=h then uE a n r h++[x]else uE a n r h:=by
 grind [uE,Hb]
theorem rZ{a:aG z}{n:Nat}{r:Nat->Nat}{h:Nat}{x:z}:x∈uE a n r h↔∃i,i<n/\r i=h/\a[i]? =O x:=by
 grind [uE,h_]
structure zf (s:aG aB) (r:Nat->Nat) (ps:aG (aG aB)):Prop where
 join:Joined (bF s) r
 len:Z ps=Z (cE (Z (bF s)) r)
 each:∀(j h:Nat)(p:aG aB),(cE (Z (bF s)) r)[j]? =O h->ps[j]? =O p->yD (uE (bF s) (Z (bF s)) r h) p
def aez(n:Nat)(r:Nat->Nat)(m:aG (Int×Int)):Prop:=(∀(j k:Nat),(cE n r)[j]? =O k->eU m (k:Int) 0=(j:Int))/\∀k:Nat,oN m (k:Int)=decide (k∈cE n r)
def Rr{s:aG aB}{X Y:aG Int}(hc:gC (s.map cS))(hl:Gf X Y (s.map cS))(hX:∀c∈X,i_ c)(hY:∀c∈Y,i_ c)(h1:Z s<=1073741824)(h2:∀b∈s,Z b.Xs<=1073741824)(h3:Z (bF s)<=134217728)(hN:nq N):
  Ok (qh N s) (λps=>∃r,zf s r ps):=by
 unfold qh;have aa:=AL hc;have aw:=SM hc;refine dy (KM aa C (λb hb=>H) C) ?_;have be:=KN hc hl hX hY;have aX:lQ s (Z s)=Z (bF s):=PN s;generalize hn:Z (bF s)=m at *;refine dy (vW 0 C) ?_;rw[show(Z (List.replicate m (0:Int)))=m by simp];refine v (p9 (λa up=>Z up=m/\∀f,f<a->up[f]? =O ((f:Nat):Int)) C ⟨G,λf D=>C⟩<|λa up x Q=>?_) ?_
 ·grind [oi,o,cN,va]
 rintro bm⟨bh,bi⟩
 refine v (p9 (λa d=>d.2.1=((lQ s a:Nat):Int)/\(0<a->d.2.2=((lQ s (a - 1):Nat):Int))/\∃r n,PJ (bF s) m d.1 r n/\∀h,h<a->∀f e,lQ s h<=e->e<lQ s (h+1)->Hz (bF s) f e->(f,e)∈n) C
  ⟨rfl,λg=>C,_,_,⟨UF.init m bm bh bi,wU.id,Jq.id m,λy E=>(by cases E)⟩,λh A=>C⟩ (λa d x Q=>?_)) ?_
 ·obtain⟨up,q,b⟩:=d;obtain⟨e1,e2,r,n,p,P⟩:=Q;dsimp only at e1 e2 p ⊢;subst e1;refine oi x ?_;have ba:=H2 x;have bp:lQ s (a+1)<=m:=by rw[<-aX];exact H3 x
  have a6:=cH x;have a7:wrap .i64 (Int.tdiv ((Z s[a].Xs:Nat):Int) 2)=((Z s[a].Xs / 2:Nat):Int):=by
   grind [Int.ofNat_tdiv,wz]
  rw[a7,ed C,<-ba];refine v (P:=λc=>c=aA↔∃h0:0<a,s[a - 1].Y1=s[a].Y0) ?_<|λc ar=>?_
  ·grind [o,kn,oi,of_decide_eq_false]
  refine v (P:=λV=>∃r n,PJ (bF s) m V r n/\∀h,h<a+1->∀f e,lQ s h<=e->e<lQ s (h+1)->Hz (bF s) f e->(f,e)∈n) ?_<|λV Q=>o ⟨rfl,λ_=>rfl,Q⟩
  refine jn (λg=>?_)<|λg=>o ⟨r,n,p,λh A f e F I j=>?_⟩
  ·obtain⟨bf,bj⟩:=ar.1 g;rw[e2 bf];have bb:=H2 (show a - 1<Z s by omega);rw[show a - 1+1=a by omega]at bb
   refine v (od (Go:=λd=>∃r n,PJ (bF s) m d.1 r n/\∀h,h<a+1->∀f e,lQ s h<=e->e<lQ s (h+1)->Hz (bF s) f e->(f,e)∈n) (Rt:=λ_=>True)
    (λd=>∃f e:Nat,d.2.1=((f:Nat):Int)/\d.2.2=((e:Nat):Int)/\lQ s (a - 1)<=f/\f<=lQ s a/\lQ s a<=e/\e<=lQ s (a+1)/\∃r n,PJ (bF s) m d.1 r n/\(∀h,h<a->∀f e,lQ s h<=e->e<lQ s (h+1)->Hz (bF s) f e->(f,e)∈n)/\
     ∀k i,lQ s (a - 1)<=k->k<lQ s a->lQ s a<=i->i<lQ s (a+1)->(k<f\/i<e)->Hz (bF s) k i->(k,i)∈n)
    (λd=>(m - d.2.1.toNat)+(m - d.2.2.toNat)) ?_ ?_ (by simp only[cN];omega)) (λbu ho=>gf ho (λd g=>o g) (λr=>r.elim))
   ·rintro⟨up,q,b⟩⟨f,e,e3,e4,i1,i2,j1,j2,r,n,p,P,ah⟩;dsimp only at e3 e4 p ⊢;subst e3;subst e4;refine jn (λg=>?_)<|λg=>ga ?_
    ·rw[dE,dZ,dZ]at g;have D:f<lQ s a:=C
     have l:e<lQ s (a+1):=C
     obtain⟨an,et,_,T⟩:=Et aa (show a - 1<Z s by omega) i1 (by rw[show a - 1+1=a by omega];exact D);obtain⟨ao,eu,_,U⟩:=Et aa x j1 l;have xi:=aw _<|cH (show a - 1<Z s by omega)
     have xj:=aw _ a6;have aE:∀k q,f<k->k<lQ s a->(bF s)[k]? =O q->s[a - 1].Xs[2*an+1]<q.X0:=λk q h4 S B=>by
      obtain⟨t',bn,br,al⟩:=Et aa (show a - 1<Z s by omega) (show lQ s (a - 1)<=k by omega) (by rw[show a - 1+1=a by omega];exact S);rw[al]at B;injection B with B;subst B
      exact xi.lt (show 2*an+1<2*t' by omega) (aM _)<|aM _
     have aS:∀i q,e<i->i<lQ s (a+1)->(bF s)[i]? =O q->s[a].Xs[2*ao+1]<q.X0:=λi q h4 S B=>by
      obtain⟨u',bo,bt,al⟩:=Et aa x (show lQ s a<=i by omega) S;rw[al]at B;injection B with B;subst B
      exact xj.lt (show 2*ao+1<2*u' by omega) (aM _)<|aM _
     refine v (P:=λc=>c=aA↔Hz (bF s) f e) ?_<|λc au=>?_
     ·refine fy T<|fy U<|jn (λg=>fy U<|fy T<|o ?_)<|λg=>o ?_
      ·rw[dZ]at g ⊢;constructor
       ·intro L;exact⟨_,_,T,U,bj,g,L⟩
       ·rintro⟨q,c,t,u,_,_,L⟩;rw[T]at t;injection t with t;subst t
        rw[U]at u;injection u with u;subst u
        exact L
      ·constructor
       ·intro g;cases g
       ·rintro⟨q,c,t,u,_,L,_⟩;rw[T]at t;injection t with t;subst t
        rw[U]at u;injection u with u;subst u
        rw[decide_eq_false_iff_not]at g;exact absurd L g
     refine v (P:=λV=>∃r W,PJ (bF s) m V r W/\(∀y∈n,y∈W)/\(Hz (bF s) f e->(f,e)∈W)) ?_ ?_
     ·refine jn (λg=>?_)<|λg=>o ⟨r,n,p,λy E=>E,λj=>by rw[au.2 j]at g;cases g⟩
      obtain⟨V,u1,u2⟩:=VM (N:=N) (f:=λap=>O ap) p.uf (i:=f) (k:=e) C C C;refine⟨V,u1,_,_,p.join C C u2<|au.1 g,λy E=>List.mem_append_left _ E,λ_=>G⟩
     ·rintro V⟨r',W,aq,ag,av⟩;refine fy T<|fy U ?_
      dsimp only
      by_cases hx:s[a - 1].Xs[2*an+1]<s[a].Xs[2*ao+1]
      ·rw[bN hx,aN];refine dy (x:=(((f+1:Nat):Int),((e:Nat):Int))) (by rw[bM C])<|fx ⟨⟨f+1,e,rfl,rfl,C,C,j1,j2,r',W,aq,λh A f e F I j=>ag _<|P h A f e F I j,λk i M R g3 g4 g5 j=>?_⟩,by simp only[cN];omega⟩
       by_cases S:k<f\/i<e
       ·exact ag _<|ah k i M R g3 g4 S j
       ·have:k=f:=C
        subst this
        by_cases B:i=e
        ·subst B;exact av j
        ·exfalso;obtain⟨q,c,t,u,_,_,L⟩:=j;rw[T]at t;injection t with t;subst t
         have:=aS i c C g4 u;dsimp only at L;omega
      ·rw[bW hx,aR];refine dy (x:=(((f:Nat):Int),((e+1:Nat):Int))) (by rw[bM C])<|fx ⟨⟨f,e+1,rfl,rfl,i1,i2,C,C,r',W,aq,λh A f e F I j=>ag _<|P h A f e F I j,λk i M R g3 g4 g5 j=>?_⟩,by simp only[cN];omega⟩
       by_cases S:k<f\/i<e
       ·exact ag _<|ah k i M R g3 g4 S j
       ·have:i=e:=C
        subst this
        by_cases B:k=f
        ·subst B;exact av j
        ·exfalso;obtain⟨q,c,t,u,_,L,_⟩:=j;rw[U]at u;injection u with u;subst u
         have:=aE k q C R t;dsimp only at L;omega
    ·refine⟨r,n,p,λh A k i F I j=>?_⟩
     by_cases ak:h<a
     ·exact P h ak k i F I j
     ·have:h=a:=C
      subst this;obtain⟨_,_,M,R⟩:=PO hc x F I j;refine ah k i M R F I ?_ j;rw[Bool.and_eq_false_iff,decide_eq_false_iff_not,decide_eq_false_iff_not]at g;omega
   ·exact⟨lQ s<|a - 1,lQ s a,rfl,rfl,du _,H3 C,du _,H3 C,r,n,p,P,λk i M R g3 g4 g5=>C⟩
  ·by_cases ak:h<a
   ·exact P h ak f e F I j
   ·have:h=a:=C
    subst this;obtain⟨g0,M,_⟩:=PO hc x F I j;rw[ar.2 ⟨g0,M⟩]at g;cases g
 ·rintro⟨up,q,b⟩⟨_,_,r,n,p,P⟩;dsimp only at p ⊢;have aV:∀f e,Hz (bF s) f e->(f,e)∈n:=λf e j=>by
   have a5:e<Z (bF s):=by obtain⟨q,c,_,hb,_⟩:=j;exact(bR.1 hb).1
   obtain⟨h,A,F,I⟩:=SL a5;exact P h A f e F I j
  have hJ:Joined (bF s) r:=⟨by rw[hn];exact p.uf.le,by rw[hn];exact p.uf.rr,λf e j=>p.co (f,e) (aV f e j),λaD hS f e D l=>by
   rw[hn]at D l
   exact p.fi aD (λy E=>hS y.1 y.2 (p.so y E)) f e D l⟩
  refine v (p9 (λa d=>UF m d.1 r/\aez a r d.2.1/\d.2.2=(cE a r).map (uE (bF s) a r)) C ⟨p.uf,⟨λe a l=>by simp[cE]at l,λa=>rfl⟩,rfl⟩<|λa d x Q=>?_) ?_
  ·obtain⟨bl,am,ls⟩:=d;obtain⟨hu,⟨ae,af⟩,hs⟩:=Q;dsimp only at hu ae af hs ⊢;subst hs;have ab:(bF s)[a]? =O ((bF s)[a]' C):=aM C;refine fy ab ?_;obtain⟨u',a1,a2⟩:=N2 (N:=N) hu x C;refine dy a1 ?_;dsimp only;have a0:=nO a r;have bq:=p.uf.le a x;have bg:=p.uf.rr a x;have aZ:=KS (bF s) a r<|r a
   have ai:Z ((cE a r).map<|uE (bF s) a r)=Z (cE a r):=G
   rw[af]
   by_cases K:r a=a
   ·have a9:r a∉cE a r:=λg=>by have:=(kQ.1 g).1;omega
    refine dy (x:=(oO am ((r a:Nat):Int) ((Z (cE a r):Nat):Int),(cE a r).map (uE (bF s) a r)++[([]:aG z)],((Z (cE a r):Nat):Int))) ?_ ?_
    ·rw[bW a9,lU,aN,jA (by simp;omega),w,ai]
    ·dsimp only;have D:((cE a r).map (uE (bF s) a r)++[([]:aG z)])[Z (cE a r)]? =O []:=by rw[<-ai,ly<|du _,Nat.sub_self];rfl
     refine fy D<|li G<|fy D<|o ⟨a2,⟨λe h l=>?_,λh=>?_⟩,?_⟩
     ·dsimp only;rw[jf,aL K]at l;rw[sG]
      by_cases e2:e<Z (cE a r)
      ·rw[my e2]at l;have:=(kQ.1<|eR l).1;rw[aJ C];exact ae e h l
      ·rw[ly C]at l;have a3:e -Z (cE a r)=0:=by
        have:=(bR.1 l).1;simp at this;omega
       rw[a3]at l;simp at l;subst l;rw[aL (by rw[K])];congr 1;omega
     ·dsimp only;rw[vH,af,jf,aL K,iK];rw[jk,dZ,dZ,dZ,dS,ng,K];constructor
      ·rintro(g|g)
       ·exact .inr C
       ·exact .inl g
      ·rintro(g|g)
       ·exact .inr g
       ·exact .inl C
     ·dsimp only;rw[cN,<-ai,List.set_append_right _ _<|du _,Nat.sub_self,jf,aL K,fY];congr 1
      ·apply List.map_congr_left;intro q t;have:=(kQ.1 t).1;rw[Eu q ab,aJ C]
      ·simp only[List.set_cons_zero,gQ,List.map_nil,List.nil_append];rw[Eu a ab,aL K];have:uE (bF s) a r a= []:=by unfold uE;rw[SK (λf D=>p.uf.le f C)<|du _];rfl
       rw[this];rfl
   ·have J:r a∈cE a r:=kQ.2 ⟨C,bg⟩;obtain⟨e,l⟩:=dM J;refine dy (x:=(am,(cE a r).map<|uE (bF s) a r,((e:Nat):Int))) ?_ ?_
    ·rw[bN J,iL,aR,ae e (r a) l]
    ·dsimp only;have D:((cE a r).map<|uE (bF s) a r)[e]? =O (uE (bF s) a r<|r a):=by rw[nQ,l];rfl
     refine fy D<|li (by simp;omega)<|fy D<|o ⟨a2,⟨λi h ax=>?_,λh=>?_⟩,?_⟩
     ·rw[jf,aJ K]at ax;exact ae i h ax
     ·rw[jf,aJ K];exact af h
     ·dsimp only;rw[cN,jf,aJ K]
      have:=DK (uE (bF s) a r) (uE (bF s) (a+1) r) (cE a r) e (r a) (rY a r) l (λb hb a8=>by
       rw[Eu b ab,aJ (λg=>a8 g.symm)])
      rw[Eu (r a) ab,aL rfl]at this;exact this
  ·rintro⟨bl,am,ls⟩⟨_,_,hs⟩;dsimp only at hs ⊢;subst hs;have a0:=nO m r;refine v (p9 (λa ps=>Z ps=a/\∀(e g:Nat)(y:aG aB),e<a->(cE m r)[e]? =O g->ps[e]? =O y->yD (uE (bF s) m r g) y) (by simp;omega) ⟨rfl,λe g y l=>C⟩<|λa ps x Q=>?_) ?_
   ·obtain⟨ad,aj⟩:=Q;have ay:a<Z (cE m r):=by simpa using x
    refine fy (x:=uE (bF s) m r (cE m r)[a]) (by rw[nQ,aM ay];rfl) ?_;have aZ:=KS (bF s) m r (cE m r)[a];refine v (vI (N:=N) C (λap hx=>?_) C) ?_
    ·obtain⟨f,_,_,g⟩:=rZ.1 hx;exact(be ap<|eR g).1
    ·intro y E;refine li (by rw[ad];simp;omega)<|o ⟨by simp[ad],λe g h l J A=>?_⟩
     by_cases a4:e<a
     ·rw[my C]at A;exact aj e g h a4 J A
     ·have:e=a:=C
      subst this;rw[ly C,ad,Nat.sub_self]at A;simp at A;subst A;rw[aM ay]at J;injection J with J;subst J
      exact E
   ·rintro ps⟨ad,aj⟩;refine o ⟨r,hJ,?_,λe g y J E=>?_⟩
    ·rw[ad,hn];simp
    ·rw[hn]at J ⊢;exact aj e g y (by have:=(bR.1 E).1;omega) J E
end
section
variable {N:Nat}
theorem Ev{n:Int}(h: -9223372036854775808<=n/\n<=9223372036854775807):wrap .i64 n=n:=by grind [IntKind.wrap_i64]
def iP(n lo hi:Int):Bool:=decide (n>=lo)&&decide (n<=hi)
def vc(n:Int):Bool:=iP n (-1000000) 1000000
def w6(p:dP):Bool:=vc p.X&&vc p.Y
def dJ(r:z):Bool:=vc r.X0&&(vc r.Y0&&(vc r.X1&&vc r.Y1))
theorem PQ(n:Int):pH N n=O (vc n):=rfl
theorem IK(p:dP):mF N p=O (w6 p):=by
 unfold mF w6
 grind [PQ,w]
theorem IL(p:dP):iG N p=O (w6 p):=by
 have a:∀a,dI N a=O (vc a):=λ_=>rfl;unfold iG w6
 grind
theorem KT(r:z):sd N r=O (dJ r):=by
 unfold sd dJ
 grind [PQ,w]
def PR{a b:Int}(h:a≠b):j5 (N+4) [a,b]=O [a,b]:=by
 have c:(b==a)=false:=H
 have g:wrap .i64 ((1:Int) - 1)=0:=I
 have i:wrap .i64 ((1:Int)+1)=2:=I
 unfold j5;have d:A [a,b] 1=O b:=rfl;have e:A [a,b] 0=O a:=rfl;have f:(Z ([a,b]:aG Int):Int)=2:=rfl;rw[f,show decide ((2:Int)<2)=aK by decide,aR];rw[gh.eq_def];dsimp only;rw[show decide ((1:Int)<2)=aA by decide,aN,d,w,g,e,w,c,aR,w,i];dsimp only;rw[gh.eq_def];dsimp only;rw[show decide ((2:Int)<2)=aK by decide,aR,w];rfl
def YO(x:Int):wrap .i64 (x - x)=0:=by rw[Int.sub_self];decide
def TH{r:z}(hx:r.X0<r.X1)(hy:r.Y0<r.Y1):j8 (N+16) [r]=O [⟨r.Y0,r.Y1,[r.X0,r.X1]⟩]:=by
 have f:y4 (mR<|N+16) [r]=O [r]:=MK (by unfold mR;rw[YO]);have e:y4 (j6<|N+16) [r]=O [r]:=MK (by unfold j6;rw[YO]);have g:C5 [r.Y0,r.Y1]=O [r.Y0,r.Y1]:=L8 (by simp;omega) G;have b:lW (N+16) [r]=O [r]:=rfl;have c:∀a,kH (N+16) [] a=O []:=λa=>rfl;have d:mg (N+16) [r]=O ([r.X0,r.X1],[r]):=by
  unfold mg;rw[e,w];rfl
 have j:∀a:aB,a.Xs= [r.X0,r.X1]->a.Y0<a.Y1->lI (N+16) [] a=O [a]:=λa e h=>by
  unfold lI;rw[e,bW (show ¬a.Y1<=a.Y0 by omega)];rfl
 unfold j8;rw[b,w,f,w];have e:lT (Z ([r]:aG z)) (λ(a:Nat)(b:aG Int)=>(D (A [r] (a:Int)) λa=>D (gx 8 b ([a.Y0,a.Y1]:aG Int)) λa=>O a:aP (aG Int))) ([]:aG Int)=O [r.Y0,r.Y1]:=rfl;rw[e,w,g,w,PR (N:=N+12) C,w];have i:(Z ([r.Y0,r.Y1]:aG Int):Int)=2:=rfl;have h:(Z ([r]:aG z):Int)=1:=rfl;have a:wrap .i64 ((0:Int)+1)=1:=I
 have k:wrap .i64 ((1:Int)+1)=2:=I
 have e:A [r.Y0,r.Y1] 0=O r.Y0:=rfl;have f:A [r.Y0,r.Y1] 1=O r.Y1:=rfl;have g:A [r] 0=O r:=rfl;have b:gx 32 ([]:aG z) [r]=O [r]:=rfl;rw[i,h];rw[gh.eq_def];dsimp only;rw[a,show decide ((1:Int)<2)=aA by decide,aN,c,w];rw[gh.eq_def];dsimp only;rw[show decide ((0:Int)<1)=aA by decide,aN,g,w,e,w,w,show decide (r.Y0<=r.Y0)=aA by simp,aN,w,b,w,a,w];dsimp only;rw[gh.eq_def];dsimp only;rw[show decide ((1:Int)<1)=aK by decide,aR,w,aR,w,w];unfold Fo.cs;dsimp only;rw[w,f,w,d,w,j _ rfl hy,w,w];dsimp only;rw[gh.eq_def];dsimp only;rw[k,show decide ((2:Int)<2)=aK by decide,aR,w];rfl
def VN{r:z}(hx:r.X0<r.X1):rC N [⟨r.Y0,r.Y1,[r.X0,r.X1]⟩]=O (dJ r):=by
 have a:sj N [⟨r.Y0,r.Y1,[r.X0,r.X1]⟩]=O r:=by
  have a:(if r.X0<r.X0 then r.X0 else r.X0)=r.X0:=by split <;> rfl
  have b:(if r.X1<r.X1 then r.X1 else r.X1)=r.X1:=by split <;> rfl
  show O ({X0:=(if r.X0<r.X0 then r.X0 else r.X0),Y0:=r.Y0,X1:=(if r.X1<r.X1 then r.X1 else r.X1),Y1:=r.Y1}:z)=O r;rw[a,b]
 grind [rC,w,KT]
def DL(b:cM):z:=⟨b.At.X - b.gK / 2,b.At.Y - b.gK / 2,b.At.X - b.gK / 2+b.gK,b.At.Y - b.gK / 2+b.gK⟩
def w7(b:cM):Bool:=iP b.gK 1 10000&&w6 b.At
def rk(b:cM):z×Int:=if w7 b&&dJ (DL b)then(DL b,0)else(⟨0,0,0,0⟩,1)
def zg{b:cM}(h:w7 b=aA):(1<=b.gK/\b.gK<=10000)/\(-1000000<=b.At.X/\b.At.X<=1000000)/\(-1000000<=b.At.Y/\b.At.Y<=1000000):=by
 simp only[w7,iP,w6,vc,dE,decide_eq_true_iff]at h;omega
theorem r5{b:cM}(h:w7 b=aA):jh N b=O (DL b):=by
 obtain⟨a,a,a⟩:=zg h;have a:Int.tdiv b.gK 2=b.gK / 2:=Int.tdiv_eq_ediv_of_nonneg C;unfold jh DL
 grind [Ev]
def H4{b:cM}:qD (N+16) b=O (rk b):=by
 have a:kB (N+16) b.gK 1 10000=O (iP b.gK 1 10000):=rfl;have c:(bif(!(iP b.gK 1 10000))then O aA else O (!(w6 b.At)))=O (!w7 b):=by unfold w7;cases iP b.gK 1 10000 <;> rfl
 unfold qD rk;rw[a,w,IK,w,c,w]
 cases a:w7 b with
 |false=>rfl
 |true=>
  obtain⟨c,c,c⟩:=zg a;have c:(DL b).X0<(DL b).X1:=by simp only[DL];omega
  have d:(DL b).Y0<(DL b).Y1:=by simp only[DL];omega
  rw[iL,aR,r5 a,w,TH c d,w,VN c,w]
  cases dJ (DL b) <;> rfl
end
section
variable {N:Nat}
def KU(c:UInt8):Bool:=
 (((decide ((c.toNat:Int)<65)||decide ((c.toNat:Int)>90))&&(decide ((c.toNat:Int)<97)||decide ((c.toNat:Int)>122)))&&(decide ((c.toNat:Int)<48)||decide ((c.toNat:Int)>57)))&&decide (Lib.indexByte [95,43,45,35] c<0)
def fd(s:cU):Bool:= !s.eI.any KU&&(decide (1<=Z s.eI)&&decide (Z s.eI<=40))
theorem BU(s:cU)(c:UInt8):iM N s (c.toNat:Int)=O (Lib.indexByte s.eI c):=by
 show O (Lib.indexByte s.eI (Int.toNat (c.toNat:Int)).toUInt8)=_;simp
def KW{R:Type}(b1:Bool)(c:UInt8)(r:R):
  (D (bif b1 then(D (iM N (⟨[95,43,45,35]⟩) (c.toNat:Int)) λa=>O<|decide<|a<0)else O aK) λa=>bif a then O (.rt r)else(O<|.nx ()):aP (Fl Unit R))=O (if(b1&&decide (Lib.indexByte [95,43,45,35] c<0))=aA then .rt r else .nx ()):=by
 rw[BU,w]
 grind
theorem rl{s:cU}(h:Z s.eI<=2097152):jO N s=O (fd s):=by
 unfold jO
 rw[GR KU aK C (λc a b=>by
  have d:=(bR.1 b).1;have b:Ni s ((c:Nat):Int)=O a:=by grind [Kl,aM]
  rw[b,w]
  exact KW (R:=Bool) _ a aK),w]
 grind [fd,KU,Fo.cs,lU,Bool.false_eq_true,Option.some.injEq]
def zL{s:cU}(h:Z s.eI<=2097152):i6 N s=O (fd s):=by
 unfold i6
 rw[GR KU aK C (λb c a=>by
  have d:=(bR.1 a).1;have a:Ni s ((b:Nat):Int)=O c:=by grind [Kl,aM]
  rw[a,w]
  simp[KW,KU,Bool.and_comm]),w]
 unfold fd gW
 cases s.eI.any KU
 all_goals grind [Fo.cs,w,lU,Bool.false_eq_true,Option.some.injEq]
def kr(c:UInt8):aG UInt8->aG (aG UInt8)
 | []=>[[]]
 |b::l=>if b==c then []::kr c l else match kr c l with|h::t=>(b::h)::t| []=>[[b]]
def KX{c:UInt8}:∀{l:aG UInt8},c∉l->kr c l= [l]
 | [],_=>rfl
 |b::l,a=>by
  unfold kr;have d:(b==c)=false:=by rw[beq_eq_false_iff_ne];rintro rfl;exact a G
  rw[d,KX<|λb=>a (by simp[b])];rfl
def PT{c:UInt8}:∀{a b:aG UInt8},c∉a->kr c (a++c::b)=a::kr c b
 | [],b,_=>by rw[List.nil_append];show(if(c==c)=aA then _ else _)=_;simp
 |e::a,b,d=>by
  have g:(e==c)=false:=by rw[beq_eq_false_iff_ne];rintro rfl;exact d G
  have h:=PT (c:=c) (a:=a) (b:=b)<|λf=>d (by simp[f])
  show(if(e==c)=aA then []::kr c (a++c::b)else match kr c (a++c::b)with|d::f=>(e::d)::f| []=>[[e]])=_;rw[g,h];rfl
def DM:∀(l:aG UInt8)(c:UInt8),(Lib.indexByte l c = -1/\c∉l)\/∃a b,l=a++c::b/\c∉a/\Lib.indexByte l c=((Z a:Nat):Int)
 | [],c=> .inl ⟨rfl,G⟩
 |f::l,c=>by
  unfold Lib.indexByte
  by_cases e:f=c
  ·subst e;exact .inr ⟨[],l,rfl,G,G⟩
  ·have h:(f==c)=false:=by rw[beq_eq_false_iff_ne];exact e
   rcases DM l c with⟨d,g⟩|⟨a,b,d,g,i⟩
   ·left;rw[h,d];refine⟨G,?_⟩;simp[g];exact λg=>e g.symm
   ·right;refine⟨f::a,b,by rw[d];rfl,H,?_⟩;rw[h,i];have:(((Z a:Nat):Int)== -1)=false:=by rw[beq_eq_false_iff_ne];omega
    rw[this];simp
def VO(s:cU)(c:UInt8):qC N s ⟨[c]⟩=O (Lib.indexByte s.eI c):=by
 show D (nW N s ⟨[c]⟩) _=_;unfold nW
 by_cases a:cU.sU ⟨[c]⟩ s=aA
 ·grind [tG,Lib.indexByte]
 ·rw[mz]at a;rw[a];show D (D (k9 N s (c.toNat:Int)) _) _=_;have:=BU (N:=N) s c
  grind [iM]
def VP(s:cU)(c:UInt8):sW N s ⟨[c]⟩=O ((s.eI.count c:Nat):Int):=by
 unfold sW;show(O _:aP Int)=_;simp[Lib.countByte]
def TI{s:cU}{k:Nat}(h:k<=Z s.eI):FC s 0 (k:Int)=O ⟨s.eI.take k⟩:=by
 unfold FC;grind
def TJ{s:cU}{k:Nat}(h:k<=Z s.eI):FC s (k:Int) (Z s.eI:Int)=O ⟨s.eI.drop k⟩:=by
 grind [FC,cN,nR,iz]
def qU(s:cU)(c:UInt8):aG cU:=(kr c s.eI).map cU.mk
def KY{s:cU}(c:UInt8)(h:Z s.eI<=2097152)(a:4194304<=N):oA N s ⟨[c]⟩=O (qU s c):=by
 have a:s.eI.count c<=Z s.eI:=List.count_le_length;unfold oA r9;rw[show((-1:Int)==0)=aK by decide,aR,show cU.sU ⟨[c]⟩ ⟨[]⟩=aK by simp[cU.sU],aR,VP,w];rw[fG (x:=((s.eI.count c:Nat):Int)+1) C C,show decide ((-1:Int)<0)=aA by decide,aN,w];rw[fG (x:=(Z s.eI:Int)+1) C C];have a:(if(Z s.eI:Int)+1<((s.eI.count c:Nat):Int)+1 then(Z s.eI:Int)+1 else((s.eI.count c:Nat):Int)+1)=((s.eI.count c+1:Nat):Int):=C
 rw[a,vW _ C,w];rw[fG (x:=((s.eI.count c+1:Nat):Int) - 1) C C];have r:=Ej (S:=cU×aG cU×Int) (R:=Empty) (body:=(λ(a:cU×aG cU×Int)=>(bif decide (a.2.2<((s.eI.count c+1:Nat):Int) - 1)then(D (qC N a.1 ⟨[c]⟩) λb=>bif b<0 then O (.br (a.1,a.2.1,a.2.2))else(D (FC a.1 0<|wrap .i64<|b+0) λe=>D (A a.2.1 a.2.2) λf=>D (FC a.1 (wrap .i64<|b+((Z (⟨[c]⟩:cU).eI:Nat):Int)) ((Z a.1.eI:Nat):Int)) λb=>O<|.nx (b,a.2.1.set (Int.toNat a.2.2) e,wrap .i64<|a.2.2+1)))else(O<|.br (a.1,a.2.1,a.2.2)):aP (Fl (cU×aG cU×Int) Empty))))
  (λd=>∃a:aG (aG UInt8),d.2.2=(Z a:Int)/\kr c s.eI=a++kr c d.1.eI/\Z a+d.1.eI.count c=s.eI.count c/\Z d.1.eI<=Z s.eI/\d.2.1=a.map cU.mk++List.replicate (s.eI.count c+1 - Z a) ⟨[]⟩)
  (λd=>s.eI.count c+1 - d.2.2.toNat)
  (λd=>∃a:aG (aG UInt8),d.2.2=(Z a:Int)/\kr c s.eI=a++[d.1.eI]/\Z a=s.eI.count c/\d.2.1=a.map cU.mk++[⟨[]⟩])
  (λ_=>True) (by
   rintro⟨e,n,q⟩⟨a,f,g,i,j,b⟩;simp only at f g i j b;subst f b
   by_cases b:Z a<s.eI.count c
   ·have l:decide ((Z a:Int)<((s.eI.count c+1:Nat):Int) - 1)=true:=by grind
    simp only[l,aN,VO,w]
    rcases DM e.eI c with⟨_,b⟩|⟨b,k,m,o,p⟩
    ·grind
    ·have t:Z e.eI=Z b+(Z k+1):=by rw[m];simp
     rw[p,bW C,aR];rw[show(Z b:Int)+0=(Z b:Int)by omega,fG (x:=(Z b:Int)) C C,TI C,w];rw[ma _ _ (by simp;omega),w];rw[show(Z b:Int)+((Z (⟨[c]⟩:cU).eI:Nat):Int)=((Z b+1:Nat):Int)by simp,fG (x:=((Z b+1:Nat):Int)) C C,TJ C,w];refine⟨_,rfl,⟨a++[b],?_,?_,?_,?_,?_⟩,?_⟩
     ·grind [fG]
     ·simp_all[PT]
     ·simp only;rw[m]at i ⊢;simp[List.count_eq_zero_of_not_mem o]at i ⊢;omega
     ·simp;omega
     ·simp only[cN];rw[List.set_append_right _ _ G];simp only[dR,Nat.sub_self];obtain⟨k,o⟩:∃k,s.eI.count c+1 - Z a=k+1:=⟨s.eI.count c - Z a,C⟩;rw[o,List.replicate_succ,List.set_cons_zero,show s.eI.count c+1 -Z (a++[b])=k by simp;omega];simp[m]
     ·simp only;rw[fG C C];omega
   ·have l:decide ((Z a:Int)<((s.eI.count c+1:Nat):Int) - 1)=false:=by rw[decide_eq_false_iff_not];omega
    simp only[l,aR];refine⟨_,rfl,a,rfl,?_,C,?_⟩
    ·have b:e.eI.count c=0:=by omega
     rw[g,KX<|List.count_eq_zero.1 b]
    ·rw[show s.eI.count c+1 - Z a=1 by omega];rfl)
  N (s,List.replicate (s.eI.count c+1) ⟨[]⟩,0) ⟨[],rfl,rfl,G,du _,G⟩ (by simp only;omega)
 obtain⟨l,k,b⟩:=r;rw[k,w]
 cases l with
 |rt e=>exact e.elim
 |go d=>
  obtain⟨e,n,q⟩:=d;obtain⟨a,f,g,i,j⟩:=b;simp only at f g i j;subst f j;simp only[Fo.cs];rw[ma _ _ G,w,fG C C];rw[show(Z a:Int)+1=((Z a+1:Nat):Int)by omega,pd _ _ G,w,w];unfold qU;rw[g];rw[cN,List.set_append_right _ _ G,nR G];simp
def lR(s:cU):Bool:=decide (Z s.eI<=200)&&(qU s 47).all fd
def Ew{c:UInt8}:∀{l x:aG UInt8},x∈kr c l->Z x<=Z l
 | [],x,a=>by simp[kr]at a;subst a;simp
 |d::l,x,a=>by
  unfold kr at a;split at a
  ·rcases eO.1 a with a|a
   ·subst a;simp
   ·have:=Ew a;simp;omega
  ·split at a
   ·rename_i e b
    rcases eO.1 a with a|a
    ·subst a;have:=Ew (c:=c) (l:=l) (by rw[b];exact List.mem_cons_self);simp;omega
    ·have:=Ew (c:=c) (l:=l) (by rw[b];exact ku _ a);simp;omega
   ·simp at a;subst a;simp
def MR(c:UInt8):∀(l:aG UInt8),Z (kr c l)<=Z l+1
 | []=>by simp[kr]
 |b::l=>by
  have:=MR c l;unfold kr;split
  ·simp;omega
  ·split
   ·rename_i a;rw[a]at this;simp at this ⊢;omega
   ·simp
def H5{s x:cU}{c:UInt8}(h:x∈qU s c):Z x.eI<=Z s.eI:=by
 obtain⟨a,a,rfl⟩:=dH.1 h;exact Ew a
def H6(s:cU)(c:UInt8):Z (qU s c)<=Z s.eI+1:=by simp[qU,dR,MR]
def vd{s:cU}(h:Z s.eI<=2097152)(b:4194304<=N):lG N s=O (lR s):=by
 unfold lG lR
 by_cases a:Z s.eI<=200
 ·rw[bN C,aN,KY 47 h b,w]
  have c:=sD (l:=qU s 47) (φ:=kG N) (λb=> !fd b) (by have:=H6 s 47;omega) (λb b=>by
   unfold kG
   rw[rl (by have:=H5 b;omega)];rfl)
  have b:kF N (qU s 47) (kG N)=tj (qU s 47) (kG N):=rfl;rw[b,c,w,w,bN a,Bool.true_and];congr 1;rw[iK];simp
 ·rw[bW C,aR,w,bW a,Bool.false_and]
def Fm{s:cU}(h:Z s.eI<=2097152)(a:4194304<=N):kb N s=O (lR s):=by
 unfold kb
 rw[KY 47 h a,w,GR (λa=> !fd a) aK (by have:=H6 s 47;omega) (λb a b=>by
  rw[bS b,w,zL (by have:=H5<|eR b;omega),w]
  cases fd a <;> rfl),w]
 unfold lR;have b:(qU s 47).any (λa=> !fd a) = !(qU s 47).all fd:=by rw[iK];simp
 rw[b]
 cases(qU s 47).all fd
 ·simp[Fo.cs]
 ·simp only[iL,Bool.false_eq_true,if_false,Fo.cs,Bool.and_true];congr 1;rw[iK];simp only[dZ];omega
end
end Go.Gk
namespace Go.Gk
open Go IntKind Classical
section
variable {N:Nat}
def VQ{a b:aB}(h:cS a=cS b):a=b:=by cases a;simp_all[cS]
def Hd:∀{s t:aG aB},s.map cS=t.map cS->s=t
 | [],[],_=>rfl
 | [],_::_,a=>by cases a
 |_::_,[],a=>by cases a
 |d::s,e::t,a=>by
  rw[gQ,gQ]at a;injection a with b c
  rw[VQ b,Hd c]
def PU{s t:aG aB}(a:gC (s.map cS))(b:gC (t.map cS))(h:∀x y,CW (s.map cS) x y=CW (t.map cS) x y):s=t:=Hd<|BR a b h
def yD.unique{l:aG z}{s t:aG aB}(a:yD l s)(b:yD l t):s=t:=PU a.can b.can λc c=>by rw[a.cover,b.cover]
def yD.PV{l:aG z}{s:aG aB}(h:yD l s):Z s<=2*Z l/\(∀b∈s,Z b.Xs<=2*Z l)/\Z (bF s)<=2*Z l*(2*Z l):=by
 have a:Z s<=2*Z l:=by have:=h.lim.len h.can;grind [dR,qu]
 have a:∀b∈s,Z b.Xs<=2*Z l:=λb a=>by
  have:=h.lim.row h.can (b:=cS b)<|dH.2 ⟨b,a,rfl⟩
  rwa[yC]at this
 simp_all[KL]
def TK{n:Int}(h:vc n=aA): -1000000<=n/\n<=1000000:=by
 unfold vc iP at h
 grind
def ks{r:z}(h:dJ r=aA):(-1000000<=r.X0/\r.X0<=1000000)/\(-1000000<=r.Y0/\r.Y0<=1000000)/\(-1000000<=r.X1/\r.X1<=1000000)/\(-1000000<=r.Y1/\r.Y1<=1000000):=by
 unfold dJ at h
 simp_all[dE,TK]
def KZ{r:z}(h:(-1000000<=r.X0/\r.X0<=1000000)/\(-1000000<=r.Y0/\r.Y0<=1000000)/\(-1000000<=r.X1/\r.X1<=1000000)/\(-1000000<=r.Y1/\r.Y1<=1000000)):dJ r=true:=by
 unfold dJ vc iP
 grind
theorem N4{r:z}(h:dJ r=aA)(hx:r.X0<r.X1)(hy:r.Y0<r.Y1):LQ r:=by
 have:=ks h;refine⟨hx,hy,?_,?_,?_,?_⟩ <;> unfold i_ <;> omega
def pZ(r:z):aP Int:=if dJ r=aA then(if r.X1<=r.X0\/r.Y1<=r.Y0 then O 13 else aQ)else O 1
def qw(l:aG z):Int:=if 2000<Z l then 2 else(l.findSome? pZ).getD 0
def Ma{l:aG z}(hl:Z l<=4611686018427387904):oT N l=O (qw l):=by
 unfold oT qw
 by_cases a:2000<Z l
 ·grind
 ·rw[bW C,aR,aJ a,GQ pZ hl (λa a b=>by
   rw[bS b,w,KT,w];unfold pZ
   cases b:dJ a with
   |false=>rfl
   |true=>
    rw[iL,aR,aL rfl]
    by_cases b:a.X1<=a.X0\/a.Y1<=a.Y0
    ·rw[aL b,show(decide (a.X1<=a.X0)||decide (a.Y1<=a.Y0))=aA by grind];rfl
    ·rw[aJ b,show(decide (a.X1<=a.X0)||decide (a.Y1<=a.Y0))=aK by grind];rfl),w]
  cases l.findSome? pZ <;> rfl
theorem He{r:z}:pZ r=aQ↔dJ r=aA/\r.X0<r.X1/\r.Y0<r.Y1:=by
 grind [pZ]
theorem PW{r:z}{e:Int}(h:pZ r=O e):e≠0:=by
 grind [pZ]
theorem zM{l:aG z}:qw l=0↔Z l<=2000/\∀r∈l,dJ r=aA/\r.X0<r.X1/\r.Y0<r.Y1:=by
 unfold qw
 by_cases a:2000<Z l
 ·omega
 ·rw[aJ a]
  cases a:l.findSome? pZ with
  |none=>
   grind [List.findSome?_eq_none_iff,He]
  |some b=>
   obtain⟨r,b,b⟩:=List.exists_of_findSome?_eq_some a
   grind [PW,He]
def Z3(l:aG z):Prop:=∀(k:Nat)a b,l[k]? =O a->l[k+1]? =O b->¬(b.Y0<a.Y0\/(b.Y0=a.Y0/\b.X0<=a.X0))
def N5(l:aG z):Prop:=∃s,yD l s/\bF s=l
noncomputable def lu(l:aG z):Int:=if qw l≠0 then qw l else if Z3 l then(if N5 l then 0 else 3)else 8
def K0{l:aG z}(h:qw l=0):Z l<=2000/\∀r∈l,LQ r:=by grind [zM,N4]
def Rs{l m:aG z}(hl:Z l<=4611686018427387904):nZ N l m=O (decide<|l=m):=by
 have:=HO (l:=l) (m:=m) hl
 grind [Rf,nZ,decide,instDecidableEqList]
def DN{l:aG z}(hl:Z l<=1073741824)(a:nq N):lX N l=O (lu l):=by
 refine l_ ?_;unfold lX;refine dy (Ma C) ?_;unfold lu;refine jn (λf=>o ?_)<|λf=>?_
 ·grind
 ·have a:qw l=0:=by simpa using f
  rw[aJ C];obtain⟨b,n⟩:=K0 a;refine v (od (Go:=λ_=>Z3 l) (Rt:=λj=>j=8/\¬Z3 l) (λd=>∃b:Nat,d=(b:Int)/\1<=b/\∀(e:Nat)c a,e+1<b->l[e]? =O c->l[e+1]? =O a->¬(a.Y0<c.Y0\/(a.Y0=c.Y0/\a.X0<=c.X0))) (λd=>Z l - d.toNat) ?_ ⟨1,rfl,du _,λe c a k=>C⟩ (by simp;omega)) ?_
  ·rintro d⟨b,rfl,m,h⟩;refine jn (λf=>?_)<|λf=>ga λe c a i g=>h e c a ?_ i g
   ·have h:b<Z l:=H
    rw[kn m C];refine oi C<|oi h<|jn (λg=>p5 ⟨rfl,λh=>?_⟩)<|λg=>fx ⟨⟨b+1,by grind [bM],C,λe c a k i c=>?_⟩,by grind [bM,cN]⟩
    ·refine h (b - 1) l[b - 1] l[b] (aM _) H ?_
     grind
    grind
   grind
  ·rintro b b;refine gf b (λd h=>?_)<|λj b=>o H
   rw[aL h];refine v (vI (N:=N) C n C) ?_;intro d b;obtain⟨c,c,c⟩:=b.PV;have c:2*Z l*(2*Z l)<=4000*4000:=Nat.mul_le_mul C C;refine dy (KM (AL b.can) C (λa g=>H) C)<|dy (Rs C) ?_
   have a:N5 l↔bF d=l:=⟨λ⟨e,a,c⟩=>by rw[b.unique a];exact c,λf=>⟨d,b,f⟩⟩
   grind [o,bF]
def wA{l:aG z}:lu l=0↔qw l=0/\Z3 l/\N5 l:=by
 unfold lu
 grind
theorem F1(n lo hi:Int):kB N n lo hi=O (iP n lo hi):=rfl
def TL{b:cM}(a:16<=N):qD N b=O (rk b):=by
 have:=H4 (N:=N - 16) (b:=b)
 grind
def qc(n:Nat)(b:cM):aP Int:=if(rk b).2≠0 then O (rk b).2 else if iP b.dC 0 ((n:Int) - 1)=aA/\iP b.To b.dC ((n:Int) - 1)=aA then aQ else O 1
def kL(a:ir):Int:=if 500<Z a.aX then 2 else(a.aX.findSome?<|qc (Z a.aS)).getD 0
def Mb{a:ir}(h1:Z a.aS<=4611686018427387904)(h2:Z a.aX<=4611686018427387904)(c:16<=N):n0 N a=O (kL a):=by
 unfold n0 kL
 by_cases b:500<Z a.aX
 ·grind
 ·have d:wrap .i64 ((Z a.aS:Int) - 1)=(Z a.aS:Int) - 1:=fG C C
  rw[bW C,aR,aJ b,GQ (qc (Z a.aS)) h2 (λb b e=>by
   rw[bS e,w,TL c,w];unfold qc
   by_cases c:(rk b).2=0
   ·rw[aJ C,c,show((0:Int) != 0)=aK by rfl,aR,d,F1,w,F1,w]
    cases d:iP b.dC 0 ((Z a.aS:Int) - 1) <;> cases d:iP b.To b.dC ((Z a.aS:Int) - 1) <;> rfl
   ·rw[aL c,show((rk b).2 != 0)=aA by grind];rfl),w]
  cases a.aX.findSome? (qc (Z a.aS)) <;> rfl
def PX{b:cM}(h:(rk b).2=0):w7 b=aA/\dJ (DL b)=true:=by
 unfold rk at h
 grind
def qK{a:ir}(h:kL a=0):Z a.aX<=500/\∀b∈a.aX,w7 b=aA/\dJ (DL b)=aA/\0<=b.dC/\b.dC<=b.To/\b.To<((Z a.aS:Nat):Int):=by
 unfold kL at h;split at h
 ·omega
 ·refine⟨C,λb j=>?_⟩;have c:qc (Z a.aS) b=none:=by
   cases e:a.aX.findSome? (qc (Z a.aS))with
   |none=>grind
   |some i=>
    rw[e]at h;obtain⟨g,k,l⟩:=List.exists_of_findSome?_eq_some e
    grind [qc]
  unfold qc at c;split at c
  ·cases c
  ·rename_i d;split at c
   ·rename_i f;have d:(rk b).2=0:=C
    have:=PX d;unfold iP at f
    grind
   ·cases c
theorem YP{b:cM}(h1:w7 b=aA)(h2:dJ (DL b)=aA):LQ (DL b):=by
 have a:=zg h1;refine N4 h2 ?_ ?_
 ·show b.At.X - b.gK / 2<b.At.X - b.gK / 2+b.gK;omega
 ·show b.At.Y - b.gK / 2<b.At.Y - b.gK / 2+b.gK;omega
def iQ(p q:bX):Int:=if Lib.compareBytes p.Part.eI q.Part.eI≠0 then Lib.compareBytes p.Part.eI q.Part.eI else Lib.compareBytes p.bX.eI q.bX.eI
def tJ(p q:bX):dY N p q=O (iQ p q):=by
 unfold dY iQ;show(bif Lib.compareBytes p.Part.eI q.Part.eI != 0 then _ else _)=_
 by_cases a:Lib.compareBytes p.Part.eI q.Part.eI=0
 ·rw[a,aJ G];rfl
 ·rw[aL a,show(Lib.compareBytes p.Part.eI q.Part.eI != 0)=aA by simpa using a];rfl
def lx(l:dD):bX:=⟨l.Part,l.bX⟩
def H7(l:dD):pI N l=O (lx l):=rfl
def nu(a:ir)(k:Nat):aP Int:=D (a.cA[k]?) λx=>
 if(lR x.Part&&fd x.bX)=aA then
  if(iP x.cR 0 ((Z a.aS:Int) - 1)&&w6 x.At)=aA then
   if 0<k/\(∃y,a.cA[k - 1]? =O y/\iQ (lx x) (lx y)<=0)then O 8 else aQ
  else O 1
 else O 5
noncomputable def qx(a:ir):Int:=if 1000<Z a.cA then 2 else(pR (Z a.cA)<|nu a).getD 0
end
section
variable {N:Nat}
def K3(a:ir):Prop:=∀x∈a.cA,Z x.Part.eI<=2097152/\Z x.bX.eI<=2097152
def Mc{a:ir}(h1:Z a.aS<=1073741824)(h2:Z a.cA<=1073741824)(f:K3 a)(g:4194304<=N):n7 N a=O (qx a):=by
 unfold n7 qx
 by_cases c:1000<Z a.cA
 ·grind
 ·have b:wrap .i64 ((Z a.aS:Int) - 1)=(Z a.aS:Int) - 1:=fG C C
  rw[bW C,aR,aJ c,lP (nu a) C (λb d _=>by
   have e:a.cA[b]? =O a.cA[b]:=aM d;have h:=f _<|cH d
   rw[bS e,w,vd h.1 g,w]
   have lm:nu a b=(if(lR a.cA[b].Part&&fd a.cA[b].bX)=aA then
     if(iP a.cA[b].cR 0 ((Z a.aS:Int) - 1)&&w6 a.cA[b].At)=aA then
      if 0<b/\(∃d,a.cA[b - 1]? =O d/\iQ (lx a.cA[b]) (lx d)<=0)then O 8 else aQ
     else O 1
    else O 5):=by unfold nu;rw[e];rfl
   rw[lm];have g:((bif(!lR a.cA[b].Part)then O aA else(D (jO N a.cA[b].bX) λd=>O<|!d)):aP Bool)=O (!(lR a.cA[b].Part&&fd a.cA[b].bX)):=by
    grind [rl,w,lR]
   have h:(D (kB N a.cA[b].cR 0<|wrap .i64<|(Z a.aS:Int) - 1) λe=>bif(!e)then O aA else(D (mF N a.cA[b].At) λf=>O<|!f))=O (!(iP a.cA[b].cR 0 ((Z a.aS:Int) - 1)&&w6 a.cA[b].At)):=by
    grind [F1,w,IK]
   show D ((bif(!lR a.cA[b].Part)then O aA else(D (jO N a.cA[b].bX) λd=>O<|!d)):aP Bool) _=_;rw[g,w]
   cases d:(lR a.cA[b].Part&&fd a.cA[b].bX)with
   |false=>rfl
   |true=>
    rw[iL,aR,aL rfl];show D ((D (kB N a.cA[b].cR 0<|wrap .i64<|(Z a.aS:Int) - 1) λe=>bif(!e)then O aA else(D (mF N a.cA[b].At) λf=>O<|!f))) _=_;rw[h,w]
    cases d:(iP a.cA[b].cR 0 ((Z a.aS:Int) - 1)&&w6 a.cA[b].At)with
    |false=>rfl
    |true=>
     rw[iL,aR,aL rfl]
     by_cases d:0<b
     ·rw[bN C,aN,kn d C,ma _ _ C];simp only[H7,w,tJ]
      by_cases e:iQ (lx a.cA[b]) (lx a.cA[b - 1])<=0
      ·rw[bN e,aL ⟨d,_,aM C,e⟩];rfl
      ·rw[bW e,aJ (H)];rfl
     ·rw[bW C,aJ (λc=>d c.1)];rfl),w]
  cases pR (Z a.cA) (nu a) <;> rfl
def qy(b:cM)(k:Int):Bool:=decide (b.dC<=k)&&decide (k<=b.To)
def K4(b:cM)(k:Int):oV N b k=O (qy b k):=rfl
def nv(bs:aG cM)(k:Int):aG z:=(bs.filter<|λb=>qy b k).map DL
structure nP (bs:aG cM):Prop where
 len:bs.length<=500
 ok:∀b∈bs,w7 b=aA/\dJ (DL b)=aA
structure BV (r hs:aG z) (s:aG aB):Prop where
 can:gC (s.map cS)
 cover:∀x y,CW (s.map cS) x y=(zK r x y&& !zK hs x y)
 lim:Gf (AH r++AH hs) (lE r++lE hs) (s.map cS)
def H8{bs:aG cM}(h:nP bs)(k:Int):Z (nv bs k)<=500:=by
 unfold nv;rw[dR];have:=qW (λa=>qy a k) bs;have:=h.len;omega
def yF{bs:aG cM}(h:nP bs)(k:Int):∀r∈nv bs k,LQ r/\dJ r=true:=by
 intro r a;unfold nv at a;obtain⟨b,c,rfl⟩:=dH.1 a;have:=h.ok b (nc.1 c).1
 grind [YP]
def BV.small{r a:aG z}{s:aG aB}(h:BV r a s)(h1:∀x∈r,LQ x)(h2:∀x∈a,LQ x):(∀c∈AH r++AH a,i_ c)/\∀c∈lE r++lE a,i_ c:=by
 constructor
 ·intro c b
  rcases dS.1 b with h|h
  ·obtain⟨x,a,rfl|rfl⟩:=AJ.1 h
   ·exact(h1 x a).s1
   ·exact(h1 x a).s2
  ·obtain⟨x,a,rfl|rfl⟩:=AJ.1 h
   ·exact(h2 x a).s1
   ·exact(h2 x a).s2
 ·intro c b
  rcases dS.1 b with h|h
  ·obtain⟨x,a,rfl|rfl⟩:=rV.1 h
   ·exact(h1 x a).s3
   ·exact(h1 x a).s4
  ·obtain⟨x,a,rfl|rfl⟩:=rV.1 h
   ·exact(h2 x a).s3
   ·exact(h2 x a).s4
def Ex{s:aG aB}{X Y:aG Int}{A:Nat}(hc:gC (s.map cS))(h:Gf X Y (s.map cS))(a:Z X<=A)(a:Z Y<=A):Z s<=A/\(∀b∈s,Z b.Xs<=A)/\Z (bF s)<=A*A:=by
 have a:Z s<=A:=by have:=h.len hc;grind
 have a:∀b∈s,Z b.Xs<=A:=λb a=>by
  have:=h.row hc (b:=cS b)<|dH.2 ⟨b,a,rfl⟩
  grind [cS]
 simp_all[KL]
def Md{r b:aG z}(h1:Z r<=2000)(h2:∀x∈r,LQ x)(a:Z b<=500)(e:∀x∈b,LQ x)(i:nq N){β:Type}{f:aG aB->aP β}{Q:β->Prop}(k:∀s,BV r b s->Ok (f s) Q):
  Ok (D (j8 N r) λa=>D (j8 N b) λc=>D (oW N a c) f) Q:=by
 refine v (vI (N:=N) C h2 C)<|λs g=>?_
 refine v (vI (N:=N) C e C)<|λa h=>?_
 have j:∀c∈lE r++lE b,i_ c:=by
  intro c a
  rcases dS.1 a with a|a
  ·obtain⟨x,d,rfl|rfl⟩:=rV.1 a
   ·exact(h2 x d).s3
   ·exact(h2 x d).s4
  ·obtain⟨x,d,rfl|rfl⟩:=rV.1 a
   ·exact(e x d).s3
   ·exact(e x d).s4
 refine v (TG (X:=AH r++AH b) (Y:=lE r++lE b) g.can h.can (g.lim.mono (λc a=>List.mem_append_left _ a) (λc a=>List.mem_append_left _ a)) (h.lim.mono (λc a=>List.mem_append_right _ a) (λc a=>List.mem_append_right _ a))
  (by grind [cK,yC]) (by grind [cK,qu]) j i) (λb a=>?_)
 exact k b ⟨a.can,λx b=>by rw[a.cover,g.cover,h.cover],a.lim⟩
def cG:Nat->aG (aG<|aG aB)->aG aH
 |_,[]=>[]
 |k,a::r=>a.map (λp=>⟨(k:Int),p,bF p⟩)++cG (k+1) r
theorem BW(a:aG (aG aB)):∀(r:aG (aG<|aG aB))(k:Nat),cG k (r++[a])=cG k r++a.map (λb=>⟨((k+Z r:Nat):Int),b,bF b⟩)
 | [],k=>by unfold cG;simp[cG]
 |b::r,k=>by
  show _++cG (k+1) (r++[a])=(_++cG (k+1) r)++_;rw[BW a r<|k+1,eM];congr 3;simp only[eK];rw[show k+(Z r+1)=k+1+Z r by omega]
def K5{s p:aG aB}{a:aG (aG aB)}{r:Nat->Nat}{X Y:aG Int}(h:zf s r a)(hc:gC (s.map cS))(hl:Gf X Y (s.map cS))(f:∀c∈X,i_ c)(g:∀c∈Y,i_ c)(b:p∈a):
  ∃j k:Nat,a[j]? =O p/\(cE (Z (bF s)) r)[j]? =O k/\yD (uE (bF s) (Z (bF s)) r k) p/\Gf X Y (p.map cS):=by
 obtain⟨j,a⟩:=dM b;have d:=(bR.1 a).1;rw[h.len]at d;have b:(cE (Z (bF s)) r)[j]? =O (cE (Z (bF s)) r)[j]:=aM d;have d:=h.each j _ p b a;refine⟨j,_,a,b,d,d.lim.mono (λc a=>?_)<|λc a=>?_⟩
 ·obtain⟨e,d,i⟩:=AJ.1 a;obtain⟨l,_,_,b⟩:=rZ.1 d;have:=KN hc hl f g e<|eR b
  grind
 ·obtain⟨e,d,i⟩:=rV.1 a;obtain⟨l,_,_,b⟩:=rZ.1 d;have:=KN hc hl f g e<|eR b
  grind
structure DO (cs:aG (aG z)) (bs:aG cM) (k:Nat) (kT:aG (aG aB)) (dW:aG (aG (aG aB))):Prop where
 len:Z kT=k
 H9:Z dW=k
 dr:∀(i:Nat)r s,i<k->cs[i]? =O r->kT[i]? =O s->BV r (nv bs (i:Int)) s
 pt:∀(i:Nat)s ps,i<k->kT[i]? =O s->dW[i]? =O ps->∃u,zf s u ps
 CX:Z (cG 0 dW)<=k*25000000
def zf.CX{s:aG aB}{u:Nat->Nat}{a:aG (aG aB)}(h:zf s u a):Z a<=Z (bF s):=by
 rw[h.len];exact nO _ _
def Ru{cs:aG (aG z)}{bs:aG cM}(ai:Z cs<=16)(hc:∀r∈cs,Z r<=2000/\∀x∈r,LQ x)(k:nP bs)(L:nq N):
  Ok (mS N cs bs [] []) (λx=>∃f,DO cs bs (Z cs) x.2.1 f/\x.2.2=cG 0 f/\(x.1=aA↔(∀s∈x.2.1,Z (bF s)<=2000)/\Z x.2.2<=2000)):=by
 unfold mS
 refine v (P:=λ(d:aG (aG aB)×aG aH×Bool)=>∃f,DO cs bs (Z cs) d.1 f/\d.2.1=cG 0 f/\(d.2.2=aA↔∀s∈d.1,Z (bF s)<=2000)) (p9 (λ(e:Nat)(d:aG (aG aB)×aG aH×Bool)=>∃f,DO cs bs e d.1 f/\d.2.1=cG 0 f/\(d.2.2=aA↔∀s∈d.1,Z (bF s)<=2000)) C
  ⟨[],⟨rfl,rfl,λl r s I=>C,λl s y I=>C,by simp[cG]⟩,rfl,G⟩ (λe d P X=>?_)) ?_
 ·obtain⟨S,ae,T⟩:=d;obtain⟨f,a,A,q⟩:=X;dsimp only at a A q ⊢;subst A;have Q:cs[e]? =O cs[e]:=aM P;obtain⟨ad,R⟩:=hc _<|cH P
  refine fy Q ?_;refine v (P:=λg=>g=nv bs ((e:Nat):Int)) (Ok.mono (p9 (λi g=>g=nv (bs.take i) ((e:Nat):Int)) (by have:=k.len;omega) rfl<|λi g u j=>?_) (λg j=>by rw[j,fz]))<|λg j=>?_
  ·subst j;refine oi u<|dy (K4 _ _) ?_
   have an:bs.take (i+1)=bs.take i++[bs[i]]:=dQ u;have ak:=k.ok _<|cH u
   have hl:Z (nv (bs.take i) ((e:Nat):Int))<=500:=by
    unfold nv;rw[dR];have:=qW (λn=>qy n ((e:Nat):Int))<|bs.take i
    rw[cQ]at this;have:=k.len;omega
   grind [dy,o,nv,r5,w,jA]
  ·subst j;have M:=yF k ((e:Nat):Int);have Y:=H8 k ((e:Nat):Int);refine Md ad R Y (λx K=>(M x K).1) L<|λs m=>?_
   obtain⟨c,U⟩:=m.small R<|λx K=>(M x K).1
   obtain⟨z1,z2,z3⟩:=Ex (A:=5000) m.can m.lim (by grind [cK,yC]) (by grind [cK,qu]);have am:=Xr (N:=N) (s:=s) C (λn k=>H) C;refine dy (x:=(T&&decide (Z (bF s)<=2000),s)) ?_ ?_
   ·grind [w,decide,bF]
   dsimp only;refine li (by rw[a.len];simp;omega) ?_;refine v (Rr (N:=N) m.can m.lim c U C (λn k=>H) C L) ?_;rintro y⟨ag,J⟩;have aj:=J.CX;have al:e*25000000<=16*25000000:=Nat.mul_le_mul_right _ C;have ah:=a.CX;refine v (P:=λg=>g=cG 0 f++y.map (λF=>(⟨((e:Nat):Int),F,bF F⟩:aH))) (Ok.mono (p9 (λi g=>g=cG 0 f++(y.take i).map (λF=>(⟨((e:Nat):Int),F,bF F⟩:aH))) C G<|λi g u j=>?_) (λg j=>by rw[j,fz]))<|λg j=>o ?_
   ·subst j;have aa:y[i]? =O y[i]:=aM u;refine fy aa ?_;obtain⟨_,_,_,_,r7,ab⟩:=K5 J m.can m.lim c U<|cH u
    obtain⟨y1,y2,y3⟩:=Ex (A:=5000) r7.can ab (by grind [cK,yC]) (by grind [cK,qu]);refine dy (KM (AL r7.can) C (λn k=>H) C)<|li ?_<|o ?_
    ·grind
    grind [dQ,eM]
   ·subst j;refine⟨f++[y],⟨by simp[a.len],by simp[a.H9],λl r p I E b=>?_,λl p af I b D=>?_,?_⟩,?_,?_⟩
    ·dsimp only at b
     by_cases t:l<e
     ·rw[my (by rw[a.len];exact t)]at b;exact a.dr l r p t E b
     ·have:l=e:=C
      subst this;rw[ly (by rw[a.len];omega),a.len,Nat.sub_self]at b;simp at b;subst b;rw[Q]at E;injection E with E;subst E
      exact m
    ·dsimp only at b
     by_cases t:l<e
     ·rw[my (by rw[a.len];exact t)]at b;rw[my (by rw[a.H9];exact t)]at D;exact a.pt l p af t b D
     ·have:l=e:=C
      subst this;rw[ly (by rw[a.len];omega),a.len,Nat.sub_self]at b;rw[ly (by rw[a.H9];omega),a.H9,Nat.sub_self]at D;simp at b D;subst b;subst D;exact⟨ag,J⟩
    ·rw[BW,cK,dR];omega
    ·dsimp only;rw[BW,a.H9,kx]
    ·dsimp only;rw[dE,q,dZ];constructor
     ·rintro⟨V,W⟩p b
      rcases dS.1 b with h|h
      ·exact V p h
      ·simp at h;subst h;exact W
     ·intro h;exact⟨λp b=>h p<|List.mem_append_left _ b,h s G⟩
 ·rintro⟨S,ae,T⟩⟨f,a,A,q⟩;dsimp only at a A q ⊢;subst A;refine v (P:=λn=>n=aA↔(∀s∈S,Z (bF s)<=2000)/\Z (cG 0 f)<=2000) (jn (λh=>o ?_)<|λh=>o ?_)<|λn k=>o ⟨f,a,rfl,k⟩
  ·rw[dZ];constructor
   ·intro B;exact⟨q.1 h,C⟩
   ·rintro⟨_,B⟩;omega
  ·constructor
   ·intro B;cases B
   ·rintro⟨B,_⟩;rw[q.2 B]at h;cases h
end
section
variable {N:Nat}
section
variable {α:Type}
def uy(P:α->Bool)(l:aG α)(n:Nat):aG Nat:=(List.range n).filter<|λk=>(l[k]?).any P
def F4{P:α->Bool}{l:aG α}{n:Nat}{x:α}(h:l[n]? =O x):uy P l (n+1)=if P x=aA then uy P l n++[n]else uy P l n:=by
 grind [uy,List.range_succ]
theorem Ia(P:α->Bool)(l:aG α)(n:Nat):Z (uy P l n)<=n:=by
 have:=qW (λa=>(l[a]?).any P)<|List.range n
 rw[List.length_range]at this;exact this
theorem TM{P:α->Bool}{l:aG α}{n k:Nat}:k∈uy P l n↔k<n/\(l[k]?).any P=true:=by simp[uy]
def Hf{β:Type}{l:aG α}(P:α->Bool)(g:Nat->β):pR (Z l) (λa=>D (l[a]?) λb=>if P b=aA then O (g a)else aQ)=(l.findIdx? P).map g:=by
 cases a:l.findIdx? P with
 |none=>
  grind [List.findIdx?_eq_none_iff,nN,aM,cH]
 |some c=>
  obtain⟨b,d,d⟩:=List.findIdx?_eq_some_iff_getElem.1 a;refine mM.2 ⟨c,b,H,λa a=>?_⟩
  grind
end
def hM(l:aG Nat):aG Int:=l.map λi=>((i:Nat):Int)
theorem wB(l m:aG Nat):hM (l++m)=hM l++hM m:=fY
theorem ov(l:aG Nat):Z (hM l)=Z l:=dR _
theorem tz{l:aG Nat}{x:Int}:x∈hM l↔∃i∈l,x=((i:Nat):Int):=by
 grind [hM]
def zh(p0 p1:z):Bool:=(((decide (p0.X0<p1.X1)&&decide (p1.X0<p0.X1))&&((p0.Y1==p1.Y0)||(p1.Y1==p0.Y0)))||((decide (p0.Y0<p1.Y1)&&decide (p1.Y0<p0.Y1))&&((p0.X1==p1.X0)||(p1.X1==p0.X0))))
def jV(b:cM)(p:aH):Bool:=b.iE&&(qy b p.cR&&p.eG.any (λr=>zh r<|DL b))
def jH(bs:aG cM)(pcs:aG aH):aG (aG Int):=bs.map λb=>hM<|uy (jV b) pcs (Z pcs)
def zi{l:aG z}{φ:z->aP Bool}(p:z->Bool)(hl:Z l<=4611686018427387904)(h:∀x∈l,φ x=O (p x)):jP N l φ=O (l.any p):=
 sD p hl h
def VR{bs:aG cM}{pcs:aG aH}(b:nP bs)(a:Z pcs<=1073741824)(hr:∀p∈pcs,Z p.eG<=1073741824):mT N bs pcs []=O (jH bs pcs):=by
 refine l_ ?_;have a:=b.len;unfold mT;refine v (p9 (λa d=>d=jH (bs.take a) pcs) C rfl<|λa d e c=>?_)<|λd c=>o (by rw[c,fz])
 subst c;have f:=b.ok _<|cH e
 refine oi e ?_;refine v (P:=λe=>e=hM (uy (jV bs[a]) pcs (Z pcs))) (p9 (λb e=>e=hM (uy (jV bs[a]) pcs b)) C rfl<|λb e g c=>?_)<|λe c=>?_
 ·subst c;have c:pcs[b]? =O pcs[b]:=aM g;have e:=Ia (jV bs[a]) pcs b;refine fy c ?_;refine dy (x:=jV bs[a] pcs[b]) ?_ ?_
  ·unfold jV
   cases bs[a].iE with
   |false=>rfl
   |true=>
    rw[aN,K4,w,Bool.true_and]
    cases qy bs[a] pcs[b].cR with
    |false=>rfl
    |true=>
     rw[aN,zi (λe=>zh e (DL bs[a])) H (λe _=>by
      unfold ni;rw[r5 f.1];rfl),w,Bool.true_and]
  ·rw[F4 c]
   cases c:jV bs[a] pcs[b]with
   |false=>simp[aR,aJ,dy,o]
   |true=>
    rw[aN,aL rfl]
    grind [dy,hM,uy,jV,jA,ov,w,o,wB]
 grind [li,o,jH,dQ]
def IM(r:aG z)(p:dP):Bool:=r.any<|λx=>decide (p.X>=x.X0)&&(decide (p.X<x.X1)&&(decide (p.Y>=x.Y0)&&decide (p.Y<x.Y1)))
def Hg{r:aG z}{p:dP}(hl:Z r<=4611686018427387904):nJ N r p=O (IM r p):=by
 unfold nJ
 rw[zi (λa=>decide (p.X>=a.X0)&&(decide (p.X<a.X1)&&(decide (p.Y>=a.Y0)&&decide (p.Y<a.Y1)))) hl (λa _=>by
  grind [pJ,decide])];rfl
def qV(l:dD)(b:cM):Bool:=b.iE&&(qy b l.cR&&IM [DL b] l.At)
def oM(l:dD)(p:aH):Bool:=(p.cR==l.cR)&&IM p.eG l.At
def wV(bs:aG cM)(pcs:aG aH)(l:dD):aP gL:=match bs.findIdx? (qV l)with
 |some k=>O ⟨aA,((k:Nat):Int)⟩
 |none=>(pcs.findIdx? (oM l)).map λk=>⟨aK,((k:Nat):Int)⟩
def VS{bs:aG cM}{pcs:aG aH}(e:nP bs)(a:Z pcs<=1073741824)(hr:∀p∈pcs,Z p.eG<=1073741824)(l:dD):
  mV N bs pcs l=O ((wV bs pcs l).getD ⟨aK,0⟩,(wV bs pcs l).isSome):=by
 have a:=e.len;unfold mV
 rw[lP (λa=>D (bs[a]?) λd=>if qV l d=aA then O ((⟨aA,((a:Nat):Int)⟩:gL),aA)else aQ) C (λa b _=>by
  have c:bs[a]? =O bs[a]:=aM b;have f:=e.ok _<|cH b
  rw[bS c,w,c,r5 f.1,w,w,Hg G];unfold qV
  cases bs[a].iE with
  |false=>rfl
  |true=>
   show(D ((bif qy bs[a] l.cR then _ else _:aP Bool)) _)=_
   cases qy bs[a] l.cR with
   |false=>rfl
   |true=>
    cases IM [DL bs[a]] l.At <;> rfl),w,Hf (qV l) (λa=>((⟨aA,((a:Nat):Int)⟩:gL),aA))]
 unfold wV
 cases bs.findIdx? (qV l)with
 |some a=>rfl
 |none=>
  show(D (sV (Z pcs) _ ()) _)=_
  rw[lP (λa=>D (pcs[a]?) λd=>if oM l d=aA then O ((⟨aK,((a:Nat):Int)⟩:gL),aA)else aQ) C (λa b _=>by
   have c:pcs[a]? =O pcs[a]:=aM b;rw[bS c,w,c,w,Hg (by have:=hr _<|cH b;omega)];unfold oM
   cases pcs[a].cR==l.cR with
   |false=>rfl
   |true=>cases IM pcs[a].eG l.At <;> rfl),w,Hf (oM l) (λa=>((⟨aK,((a:Nat):Int)⟩:gL),aA))]
  cases pcs.findIdx? (oM l) <;> rfl
def Lk(n:Nat)(a:aG (aG Int))(i j:Nat):Prop:=∃(k:Nat)(l:aG Int),a[k]? =O l/\(i:Int)∈l/\j=n+k
structure Jr (n m:Nat) (tch:aG (aG Int)) (r:Nat->Nat):Prop where
 le:∀i,i<n+m->r i<=i
 rr:∀i,i<n+m->r (r i)=r i
 co:∀i j,Lk n tch i j->r i=r j
 fi:∀S:Nat->Prop,(∀i j,Lk n tch i j->(S i↔S j))->∀i j,i<n+m->j<n+m->r i=r j->S i->S j
def MS{n m:Nat}{c:aG (aG Int)}(hm:Z c=m)(ht:∀l∈c,Z l<=1073741824/\∀x∈l,∃i:Nat,i<n/\x=((i:Nat):Int))(hn:n<=1073741824)(ae:m<=1073741824){P:aG Int}(hu:UF (n+m) P (λi=>i))(hN:nq N):
  Ok (lT (Z c) (λ(B:Nat)(M:aG Int)=>(D (A c (B:Int)) λE=>D (lT (Z E) (λ(L:Nat)(w:aG Int)=>(D (A E (L:Int)) λQ=>D (eV N w Q<|wrap .i64<|(n:Int)+(B:Int)) λR=>O R:aP (aG Int))) M) λw=>O w:aP (aG Int))) P)
   (λg=>∃r,UF (n+m) g r/\Jr n m c r):=by
 have X:Ok (lT (Z c) (λ(B:Nat)(M:aG Int)=>(D (A c (B:Int)) λE=>D (lT (Z E) (λ(L:Nat)(w:aG Int)=>(D (A E (L:Int)) λQ=>D (eV N w Q<|wrap .i64<|(n:Int)+(B:Int)) λR=>O R:aP (aG Int))) M) λw=>O w:aP (aG Int))) P)
   (λg=>∃r a,UF (n+m) g r/\wU r a/\Jq (n+m) r a/\(∀d∈a,Lk n c d.1 d.2)/\∀(b:Nat)l(i:Nat),b<Z c->c[b]? =O l->((i:Nat):Int)∈l->(i,n+b)∈a):=by
  refine p9 (λf g=>∃r a,UF (n+m) g r/\wU r a/\Jq (n+m) r a/\(∀d∈a,Lk n c d.1 d.2)/\∀(b:Nat)l(i:Nat),b<f->c[b]? =O l->((i:Nat):Int)∈l->(i,n+b)∈a) C
   ⟨_,_,hu,wU.id,Jq.id _,λd k=>(by cases k),λb l i I=>C⟩ (λf g S z=>?_)
  obtain⟨r,a,j,q,s,t,y⟩:=z;have J:c[f]? =O c[f]:=aM S;obtain⟨ad,ab⟩:=ht _<|cH S
  refine fy J ?_;rw[ed C]
  refine v (p9 (λT g=>∃r a,UF (n+m) g r/\wU r a/\Jq (n+m) r a/\(∀d∈a,Lk n c d.1 d.2)/\(∀(b:Nat)l(i:Nat),b<f->c[b]? =O l->((i:Nat):Int)∈l->(i,n+b)∈a)/\∀i:Nat,((i:Nat):Int)∈c[f].take T->(i,n+f)∈a) C
   ⟨r,a,j,q,s,t,y,λi u=>by simp at u⟩ (λT g K z=>?_)) (λg z=>o ?_)
  ·obtain⟨r,a,j,q,s,t,y,G⟩:=z;refine oi K ?_;obtain⟨i,u,F⟩:=ab _<|cH K
   rw[F];obtain⟨u2,V,W⟩:=SJ (N:=N) j (i:=i) (k:=n+f) C C C;refine dy V<|o ⟨_,_,W,q.join i (n+f)<|j.rr i C,s.join C C,λd k=>?_,λb l e I p h=>List.mem_append_left _<|y b l e I p h,λe h=>?_⟩
   ·rcases dS.1 k with k|k
    ·exact t d k
    ·simp at k;subst k;exact⟨f,c[f],J,H,rfl⟩
   ·rw[dQ K,dS]at h
    rcases h with h|h
    ·exact List.mem_append_left _<|G e h
    ·rw[ng,F]at h;have:e=i:=C
     subst this;simp
  ·obtain⟨r,a,j,q,s,t,y,G⟩:=z;refine⟨r,a,j,q,s,t,λb l i I p u=>?_⟩
   by_cases aa:b<f
   ·exact y b l i aa p u
   ·have:b=f:=C
    subst this;rw[J]at p;injection p with p;subst p
    exact G i H
 obtain⟨g,F,r,a,j,q,s,t,y⟩:=X;have hE:∀i e,Lk n c i e->(i,e)∈a:=λi e⟨b,l,p,u,h⟩=>H
 exact⟨g,F,r,j,j.le,j.rr,λi e Y=>q (i,e)<|hE i e Y,λU hS i e u h=>s U (λd k=>hS d.1 d.2<|t d k) i e u h⟩
def AM(bs:aG cM)(j:Nat):Bool:=(bs[j]?).any<|λb=>b.iE
def gP(n:Nat)(c:aG Nat):aG Nat:=c.filter<|λi=>decide<|i<n
def gB(bs:aG cM)(n:Nat)(c:aG Nat):aG Nat:=(c.filter<|λi=> !decide (i<n)&&AM bs (i - n)).map<|λi=>i - n
def PY(bs:aG cM)(n:Nat)(c:aG Nat):Bool:=decide<|0<Z (gP n c)+Z (gB bs n c)
def YQ(bs:aG cM)(n:Nat)(c:aG Nat):bL:=⟨hM<|gP n c,hM<|gB bs n c,[]⟩
def SN(n:Nat)(c:aG Nat)(i:Nat):gP n (c++[i])=if i<n then gP n c++[i]else gP n c:=by
 unfold gP;grind
def SO(bs:aG cM)(n:Nat)(c:aG Nat)(i:Nat):gB bs n (c++[i])=if i<n then gB bs n c else if AM bs (i - n)=aA then gB bs n c++[i - n]else gB bs n c:=by
 unfold gB;grind
def N6(n:Nat)(c:aG Nat):Z (gP n c)<=Z c:=qW _ _
theorem N7(bs:aG cM)(n:Nat)(c:aG Nat):Z (gB bs n c)<=Z c:=by unfold gB;grind
def kw(bs:aG cM)(n t:Nat)(r:Nat->Nat)(a:aG Nat):aG Nat:=a.filter<|λh=>PY bs n<|h_ t r h
def py(bs:aG cM)(n t:Nat)(r:Nat->Nat)(a:aG Nat):aG bL:=(kw bs n t r a).map<|λh=>YQ bs n<|h_ t r h
theorem MT(bs:aG cM)(n t:Nat)(r:Nat->Nat)(a:aG Nat)(h:Nat):kw bs n t r (a++[h])=if PY bs n (h_ t r h)=aA then kw bs n t r a++[h]else kw bs n t r a:=by
 grind [kw]
theorem yG(bs:aG cM)(n t:Nat)(r:Nat->Nat)(a:aG Nat):Z (py bs n t r a)=Z (kw bs n t r a):=by simp[py,dR]
def gi(bs:aG cM)(n t:Nat)(r:Nat->Nat)(h:Nat):Nat:=Z (kw bs n t r<|(cE t r).takeWhile<|λx=>decide<|x≠h)
theorem Fp{l:aG Nat}(a:l.Nodup){k h:Nat}(a:l[k]? =O h):l.takeWhile (λb=>decide<|b≠h)=l.take k:=by
 induction l generalizing k with
 |nil=>simp at a
 |cons a l b=>
  cases k with
  |zero=>simp_all
  |succ k=>
   grind [List.nodup_cons,eR,List.takeWhile_cons]
theorem ve(bs:aG cM)(n t:Nat)(r:Nat->Nat)(a:aG Nat):Z (kw bs n t r a)<=Z a:=qW _ _
theorem PZ{bs:aG cM}{n t:Nat}{r:Nat->Nat}{h:Nat}(hh:h∈cE t r)(a:PY bs n (h_ t r h)=aA):gi bs n t r h<Z (kw bs n t r<|cE t r)/\(kw bs n t r<|cE t r)[gi bs n t r h]? =O h:=by
 obtain⟨a,a⟩:=dM hh;have b:=(bR.1 a).1;unfold gi;rw[Fp (rY t r) a]
 grind [cE,List.take_append_drop,r6,bR,kw]
end
section
variable {N:Nat}
theorem Ey{l:aG Nat}(h:l.Nodup){i j a:Nat}(hi:l[i]? =O a)(hj:l[j]? =O a):i=j:=
 by grind [List.getElem_inj,bR]
theorem vZ{n i k:Nat}{r:Nat->Nat}:i∈h_ n r k↔i<n/\r i=k:=by simp[h_]
def TN(n:Nat)(r:Nat->Nat)(k:Nat):(h_ n r k).Nodup:=List.Nodup.sublist List.filter_sublist List.nodup_range
structure Jy (bs:aG cM) (n m:Nat) (r:Nat->Nat) (hs:aG Nat) (ofP ofB:aG Int):Prop where
 lp:Z ofP=n
 lb:Z ofB=m
 pc:∀i,i<n->r i∈hs->ofP[i]? =O ((gi bs n (n+m) r (r i):Nat):Int)
 bo:∀j,j<m->r (n+j)∈hs->ofB[j]? =O (if AM bs j=aA then((gi bs n (n+m) r (r<|n+j):Nat):Int)else -1)
def P0{bs:aG cM}{n m:Nat}{r:Nat->Nat}(hm:bs.length=m)(hn:n<=1073741824)(a2:m<=1073741824){op ob:aG Int}(am:Z op=n)(al:Z ob=m)
  {body:Nat->aG bL×aG Int×aG Int->aP (aG bL×aG Int×aG Int)}
  (ai:body=(λ(ar:Nat)(J:aG bL×aG Int×aG Int)=>(D (A (yE (n+m) r) (ar:Int)) λag=>D (lT (Z ag) (λ(au:Nat)(j:aG Int×aG Int×aG Int×aG Int)=>(D (A ag (au:Int)) λl=>D (bif decide (l<(n:Int))then(D (A j.1 l) λa5=>D (gx 8 j.2.2.1 ([l]:aG Int)) λaw=>O (j.1.set (Int.toNat l) (Z J.1:Int),j.2.1,aw,j.2.2.2))else(D (A bs<|wrap .i64<|l -(n:Int)) λax=>D (bif ax.iE then(D (A j.2.1<|wrap .i64<|l -(n:Int)) λa6=>D (gx 8 j.2.2.2 ([wrap .i64<|l -(n:Int)]:aG Int)) λay=>O (j.2.1.set (Int.toNat<|wrap .i64<|l -(n:Int)) (Z J.1:Int),ay))else(D (A j.2.1<|wrap .i64<|l -(n:Int)) λa7=>O (j.2.1.set (Int.toNat<|wrap .i64<|l -(n:Int))<|-1,j.2.2.2))) λaf=>O (j.1,af.1,j.2.2.1,af.2))) λN=>O (N.1,N.2.1,N.2.2.1,N.2.2.2):aP (aG Int×aG Int×aG Int×aG Int))) (J.2.1,J.2.2,([]:aG Int),([]:aG Int))) λj=>D (bif decide (wrap .i64 ((Z j.2.2.1:Int)+(Z j.2.2.2:Int))>0)then(D (gx 72 J.1 [(⟨j.2.2.1,j.2.2.2,([]:aG bX)⟩:bL)]) λaD=>O aD)else O J.1) λav=>O (av,j.1,j.2.1):aP (aG bL×aG Int×aG Int)))):
  Ok (lT (Z (yE (n+m) r)) body ([],op,ob)) (λd=>d.1=py bs n (n+m) r (cE (n+m) r)/\Jy bs n m r (cE (n+m) r) d.2.1 d.2.2):=by
 subst ai;have ao:Z (yE (n+m) r)=Z (cE (n+m) r):=by simp[yE]
 have a0:=nO (n+m) r;refine Ok.mono (p9 (λ(i:Nat)(d:aG bL×aG Int×aG Int)=>d.1=py bs n (n+m) r ((cE (n+m) r).take i)/\Jy bs n m r ((cE (n+m) r).take i) d.2.1 d.2.2) C ⟨rfl,am,al,λc b a=>by simp at a,λx y a=>by simp at a⟩<|λi d R hI=>?_) (λd a=>H);obtain⟨gs,a4,a3⟩:=d;obtain⟨W,U⟩:=hI;dsimp only at W U ⊢;subst W;rw[ao]at R;have ak:(cE (n+m) r)[i]? =O (cE (n+m) r)[i]:=aM R;have S:(cE (n+m) r).take (i+1)=(cE (n+m) r).take i++[(cE (n+m) r)[i]]:=dQ R;have aa:gi bs n (n+m) r (cE (n+m) r)[i]=Z (py bs n (n+m) r<|(cE (n+m) r).take i):=by
  unfold gi;grind [Fp,rY,yG]
 generalize hh:(cE (n+m) r)[i]=a at *;have ap:(yE (n+m) r)[i]? =O (hM<|h_ (n+m) r a):=by unfold yE;rw[nQ,ak];rfl
 refine fy ap ?_;have aV:=Hc (n+m) r a;rw[ov];have aZ:Z (py bs n (n+m) r<|(cE (n+m) r).take i)<=n+m:=by
  grind [yG,ve,cE,cQ]
 have ae:∀c∈h_ (n+m) r a,∀T,r T∈(cE (n+m) r).take i->c≠T:=λc b T a1 p=>by
  grind [vZ,dM,bR,cQ,List.getElem?_take_of_lt,Ey,rY]
 refine v (P:=λk=>Jy bs n m r ((cE (n+m) r).take (i+1)) k.1 k.2.1/\k.2.2.1=hM (gP n (h_ (n+m) r a))/\k.2.2.2=hM (gB bs n (h_ (n+m) r a))) (Ok.mono (p9
  (λ(h:Nat)(k:aG Int×aG Int×aG Int×aG Int)=>Jy bs n m r ((cE (n+m) r).take i) k.1 k.2.1/\k.2.2.1=hM (gP n ((h_ (n+m) r a).take h))/\k.2.2.2=hM (gB bs n ((h_ (n+m) r a).take h))/\
   (∀c∈(h_ (n+m) r a).take h,c<n->k.1[c]? =O ((gi bs n (n+m) r a:Nat):Int))/\∀c∈(h_ (n+m) r a).take h,¬c<n->k.2.1[c - n]? =O (if AM bs (c - n)=aA then((gi bs n (n+m) r a:Nat):Int)else -1)) C
   ⟨U,rfl,rfl,λc b=>by simp at b,λc b=>by simp at b⟩ (λh k L ah=>?_)) ?_) ?_
 ·obtain⟨M,I,pp,V⟩:=k;obtain⟨e,q,s,B,E⟩:=ah;dsimp only at e q s B E ⊢;subst q;subst s;have aq:(hM<|h_ (n+m) r a)[h]? =O (((h_ (n+m) r a)[h]:Nat):Int):=by unfold hM;rw[nQ,aM L];rfl
  refine fy aq ?_;have z:(h_ (n+m) r a).take (h+1)=(h_ (n+m) r a).take h++[(h_ (n+m) r a)[h]]:=dQ L;have Q:=cH L;have aX:∀c∈(h_ (n+m) r a).take h,c≠(h_ (n+m) r a)[h]:=λc b p=>by
   obtain⟨x,y⟩:=dM b;have aj:x<h:=by have:=(bR.1 y).1;rw[cQ]at this;omega
   rw[List.getElem?_take_of_lt aj]at y;have:=Ey (TN (n+m) r a) y (by rw[p];exact aM L);omega
  generalize (h_ (n+m) r a)[h]=g at *;obtain⟨aE,aS⟩:=vZ.1 Q;have ab:=N6 n<|(h_ (n+m) r a).take h
  have Y:=N7 bs n<|(h_ (n+m) r a).take h
  rw[cQ]at ab Y
  by_cases t:g<n
  ·rw[bN (by omega:(g:Int)<(n:Int)),aN];refine v (P:=λK=>K=(M.set g ((gi bs n (n+m) r a:Nat):Int),I,hM (gP n<|(h_ (n+m) r a).take h)++[(g:Int)],hM<|gB bs n<|(h_ (n+m) r a).take h)) ?_ ?_
   ·refine oi (by rw[e.lp];exact t)<|li (by rw[ov];simp;omega)<|o ?_
    rw[cN,aa]
   ·rintro _ rfl;refine o ⟨⟨by simp[e.lp],e.lb,λc b f=>?_,e.bo⟩,?_,?_,λc b u=>?_,λc b u=>?_⟩
    ·dsimp only;rw[va (by rw[e.lp];exact t),aJ<|λp=>ae g Q c f p.symm];exact e.pc c b f
    ·dsimp only;rw[z,SN,aL t,wB];rfl
    ·dsimp only;rw[z,SO,aL t]
    ·dsimp only;rw[va (by rw[e.lp];exact t)];split
     ·rfl
     ·rename_i F;rw[z]at b
      rcases dS.1 b with b|b
      ·exact B c b u
      ·exact absurd (by simpa using b) F
    ·rw[z]at b
     rcases dS.1 b with b|b
     ·exact E c b u
     ·have:c=g:=by simpa using b
      subst this;exact absurd t u
  ·rw[bW (by omega:¬(g:Int)<(n:Int)),aR];have hw:wrap .i64 ((g:Int) -(n:Int))=((g - n:Nat):Int):=by rw[fG C C];omega
   have X:g - n<bs.length:=C
   have an:AM bs (g - n)=bs[g - n].iE:=by unfold AM;rw[aM X];rfl
   rw[hw];refine v (P:=λK=>K=(M,I.set (g - n) (if AM bs (g - n)=aA then((gi bs n (n+m) r a:Nat):Int)else -1),hM<|gP n<|(h_ (n+m) r a).take h,hM<|gB bs n<|(h_ (n+m) r a).take h++[g])) ?_ ?_
   ·refine oi X ?_;rw[SO,aJ t,an]
    cases hp:bs[g - n].iE with
    |true=>
     rw[aN,aL rfl,aL rfl];refine dy (x:=(I.set (g - n) ((gi bs n (n+m) r a:Nat):Int),hM<|gB bs n ((h_ (n+m) r a).take h)++[g - n])) ?_<|o rfl
     rw[ma _ _ (by rw[e.lb];omega),w,jA (by rw[ov];simp;omega),w,cN,aa,wB];rfl
    |false=>
     rw[aR,aJ G,aJ G];refine dy (x:=(I.set (g - n)<|-1,hM<|gB bs n<|(h_ (n+m) r a).take h)) ?_<|o rfl
     rw[ma _ _ (by rw[e.lb];omega),w,cN]
   ·rintro _ rfl;refine o ⟨⟨e.lp,by simp[e.lb],e.pc,λx y f=>?_⟩,?_,?_,λc b u=>?_,λc b u=>?_⟩
    ·dsimp only;rw[va (by rw[e.lb];omega),aJ<|λp=>ae g Q (n+x) f C];exact e.bo x y f
    ·dsimp only;rw[z,SN,aJ t]
    ·dsimp only;rw[z]
    ·rw[z]at b
     rcases dS.1 b with b|b
     ·exact B c b u
     ·have:c=g:=by simpa using b
      subst this;exact absurd u t
    ·dsimp only;rw[va (by rw[e.lb];omega)];split
     ·rename_i p;rw[p]
     ·rename_i F;rw[z]at b
      rcases dS.1 b with b|b
      ·exact E c b u
      ·exact absurd (by have:c=g:=(by simpa using b);rw[this]) F
 ·rintro⟨M,I,pp,V⟩⟨e,q,s,B,E⟩;dsimp only at e q s B E ⊢;rw[fz]at q s B E;refine⟨⟨e.lp,e.lb,λc b f=>?_,λx y f=>?_⟩,q,s⟩
  ·rw[S]at f
   rcases dS.1 f with f|f
   ·exact e.pc c b f
   ·have f:r c=a:=by simpa using f
    rw[f];exact B c (vZ.2 ⟨C,f⟩) b
  ·rw[S]at f
   rcases dS.1 f with f|f
   ·exact e.bo x y f
   ·have f:r (n+x)=a:=by simpa using f
    rw[f];have:=E (n+x) (vZ.2 ⟨C,f⟩) C;rwa[Nat.add_sub_cancel_left]at this
 ·rintro⟨M,I,pp,V⟩⟨e,q,s⟩;dsimp only at e q s ⊢;subst q;subst s;have ab:=N6 n<|h_ (n+m) r a
  have Y:=N7 bs n<|h_ (n+m) r a
  rw[ov,ov,ed C];have ad:py bs n (n+m) r ((cE (n+m) r).take<|i+1)=if PY bs n (h_ (n+m) r a)=aA then py bs n (n+m) r ((cE (n+m) r).take i)++[YQ bs n<|h_ (n+m) r a]else py bs n (n+m) r ((cE (n+m) r).take i):=by
   unfold py;rw[S,MT];split
   ·rw[fY];rfl
   ·rfl
  refine v (P:=λK=>K=py bs n (n+m) r ((cE (n+m) r).take<|i+1)) (jn (λP=>?_)<|λP=>o ?_)<|λK p=>o ⟨p,e⟩
  ·have F:PY bs n (h_ (n+m) r a)=true:=bN (by have:=of_decide_eq_true P;omega);refine li (by simp;omega)<|o ?_
   rw[ad,aL F];rfl
  ·have F:¬PY bs n (h_ (n+m) r a)=true:=λh'=>by
    have h1:=of_decide_eq_true h';have h2:=of_decide_eq_false P;omega
   rw[ad,aJ F]
end
section
variable {N:Nat}
def jg(n:Nat)(h:gL):Nat:=if h.cM=aA then n+h.Number.toNat else h.Number.toNat
structure VT (bs:aG cM) (n m:Nat) (h:gL):Prop where
 num:∃k:Nat,h.Number=(k:Int)/\(h.cM=aA->k<m/\AM bs k=aA)/\(h.cM=aK->k<n)
def N8{bs:aG cM}{pcs:aG aH}{l:dD}{h:gL}(hh:wV bs pcs l=O h):VT bs (Z pcs) bs.length h:=by
 unfold wV at hh
 cases b:bs.findIdx? (qV l)with
 |some c=>
  rw[b]at hh;injection hh with hh;subst hh
  obtain⟨a,d,_⟩:=List.findIdx?_eq_some_iff_getElem.1 b;refine⟨c,rfl,λ_=>⟨a,?_⟩,λh=>by cases h⟩
  grind [qV,AM,aM]
 |none=>
  rw[b]at hh;dsimp only at hh;rw[xd]at hh;obtain⟨c,a,rfl⟩:=hh;obtain⟨a,_⟩:=List.findIdx?_eq_some_iff_getElem.1 a;exact⟨c,rfl,λh=>(by cases h),λ_=>a⟩
def zN(bs:aG cM)(pcs:aG aH)(r:Nat->Nat)(l:dD):aP Nat:=(wV bs pcs l).map λh=>gi bs (Z pcs) (Z pcs+bs.length) r<|r<|jg (Z pcs) h
def Rv(bs:aG cM)(pcs:aG aH)(r:Nat->Nat)(l:dD):Int:=match zN bs pcs r l with|some g=>(g:Int)|none=> -1
def iR(gs:aG bL)(lg:dD->aP Nat)(ls:aG dD):aG bL:=gs.mapIdx<|λg x=>{x with aZ:=(ls.filter<|λl=>decide<|lg l=O g).map lx}
theorem ox{gs:aG bL}{lg:dD->aP Nat}{ls:aG dD}{g:Nat}:(iR gs lg ls)[g]? =(gs[g]?).map λa=>{a with aZ:=(ls.filter<|λa=>decide<|lg a=O g).map lx}:=by
 simp[iR,List.getElem?_mapIdx]
def BX(gs:aG bL)(lg:dD->aP Nat)(ls:aG dD):Z (iR gs lg ls)=Z gs:=by simp[iR,List.length_mapIdx]
def Fq{gs:aG bL}{lg:dD->aP Nat}{ls:aG dD}{l:dD}(h:lg l=aQ):iR gs lg (ls++[l])=iR gs lg ls:=by
 apply List.ext_getElem?
 grind [ox]
def Hh{gs:aG bL}{lg:dD->aP Nat}{ls:aG dD}{l:dD}{k:Nat}{x:bL}(h:lg l=O k)(hx:(iR gs lg ls)[k]? =O x):
  (iR gs lg ls).set k {x with aZ:=x.aZ++[lx l]}=iR gs lg (ls++[l]):=by
 apply List.ext_getElem?;intro b;have a:=(bR.1 hx).1;rw[kX]
 by_cases a:k=b
 ·subst a
  grind [ox,xd]
 grind [ox]
theorem P3{bs:aG cM}{n t:Nat}{r:Nat->Nat}{i:Nat}(hi:i<n)(a:i<t):PY bs n (h_ t r<|r i)=true:=by
 unfold PY;rw[dZ];have:i∈gP n (h_ t r<|r i):=nc.2 ⟨vZ.2 ⟨a,rfl⟩,H⟩
 grind
theorem SP{bs:aG cM}{n t:Nat}{r:Nat->Nat}{j:Nat}(a:AM bs j=aA)(b:n+j<t):PY bs n (h_ t r<|r<|n+j)=true:=by
 unfold PY;rw[dZ];have:j∈gB bs n (h_ t r<|r<|n+j):=dH.2 ⟨n+j,nc.2 ⟨vZ.2 ⟨b,rfl⟩,by simp[a]⟩,C⟩
 grind
structure DQ (bs:aG cM) (ls:aG dD) (pcs:aG aH) (r:Nat->Nat) (gs:aG bL) (ofP ofB nF:aG Int) (ny:aG gL):Prop where
 conn:Jr (Z pcs) bs.length (jH bs pcs) r
 gs:gs=iR (py bs (Z pcs) (Z pcs+bs.length) r<|cE (Z pcs+bs.length) r) (zN bs pcs r) ls
 of:Jy bs (Z pcs) bs.length r (cE (Z pcs+bs.length) r) ofP ofB
 nF:nF=ls.map (Rv bs pcs r)
 ny:ny=ls.map (λl=>(wV bs pcs l).getD ⟨aK,0⟩)
def K6{bs:aG cM}{pcs:aG aH}(a:Z pcs<=1073741824):∀l∈jH bs pcs,Z l<=1073741824/\∀x∈l,∃i:Nat,i<Z pcs/\x=(i:Int):=by
 grind [jH,Ia,jV,ov,tz,TM]
def N9{bs:aG cM}{ls:aG dD}{pcs:aG aH}(f:nP bs)(a:Z pcs<=1000000000)(hr:∀p∈pcs,Z p.eG<=1073741824)(hl:Z ls<=1073741824)(a:nq N):
  Ok (i5 N bs ls pcs (jH bs pcs) [] [] [] []) (λb=>∃r,DQ bs ls pcs r b.1 b.2.1 b.2.2.1 b.2.2.2.1 b.2.2.2.2):=by
 have c:=f.len;unfold i5;rw[ed C];obtain⟨c,c,e⟩:=DJ (N:=N) (n:=Z pcs+bs.length) C;refine dy c ?_;refine v (MS (n:=Z pcs) (m:=bs.length) (by simp[jH]) (K6 C) C C e a) ?_;rintro a⟨r,a,c⟩;refine dy (vW 0 C)<|dy (vW 0 C) ?_
 obtain⟨e,e,_⟩:=Xt (N:=N) a C C;refine dy e ?_;refine v (P0 (bs:=bs) (n:=Z pcs) (m:=bs.length) (r:=r) rfl C C (op:=List.replicate (Z pcs) 0) (ob:=List.replicate bs.length 0) G G rfl) ?_;rintro⟨a,l,k⟩⟨a,g⟩;dsimp only at a g ⊢;subst a;have a:Z (py bs (Z pcs) (Z pcs+bs.length) r<|cE (Z pcs+bs.length) r)<=Z pcs+bs.length:=by
  grind [yG,ve,cE,nO]
 refine v (p9 (λ(a:Nat)(d:aG bL×aG Int×aG Int×aG Int×aG gL)=>d=(iR (py bs (Z pcs) (Z pcs+bs.length) r<|cE (Z pcs+bs.length) r) (zN bs pcs r)<|ls.take a,l,k,(ls.take a).map<|Rv bs pcs r,(ls.take a).map<|λj=>(wV bs pcs j).getD ⟨aK,0⟩)) C ?_<|λa d h i=>?_) ?_
 ·congr 1;unfold iR;apply List.ext_getElem?;intro e;rw[List.getElem?_mapIdx];unfold py;rw[nQ]
  cases(kw bs (Z pcs) (Z pcs+bs.length) r<|cE (Z pcs+bs.length) r)[e]? <;> rfl
 ·subst i;dsimp only;have q:ls.take (a+1)=ls.take a++[ls[a]]:=dQ h;refine oi h<|dy (VS f C hr _) ?_
  dsimp only;refine v (P:=λb=>b=(iR (py bs (Z pcs) (Z pcs+bs.length) r<|cE (Z pcs+bs.length) r) (zN bs pcs r)<|ls.take a++[ls[a]],Rv bs pcs r ls[a])) ?_ ?_
  ·cases i:wV bs pcs ls[a]with
   |none=>
    refine o ?_;have f:zN bs pcs r ls[a]=none:=by unfold zN;rw[i];rfl
    rw[Fq f];unfold Rv;rw[f]
   |some b=>
    have f:zN bs pcs r ls[a]=O (gi bs (Z pcs) (Z pcs+bs.length) r<|r<|jg (Z pcs) b):=by unfold zN;rw[i];rfl
    have m:Rv bs pcs r ls[a]=((gi bs (Z pcs) (Z pcs+bs.length) r (r<|jg (Z pcs) b):Nat):Int):=by unfold Rv;rw[f]
    obtain⟨h,s,t,u⟩:=(N8 i).num;have n:jg (Z pcs) b<Z pcs+bs.length/\PY bs (Z pcs) (h_ (Z pcs+bs.length) r<|r<|jg (Z pcs) b)=aA/\j9 N l k b=O ((gi bs (Z pcs) (Z pcs+bs.length) r (r<|jg (Z pcs) b):Nat):Int):=by
     unfold j9 jg;rw[s,cN]
     cases k:b.cM with
     |true=>
      obtain⟨i,l⟩:=t k;rw[aN,aL rfl];refine⟨C,SP l C,?_⟩;have:=g.bo h i<|kQ.2 ⟨by have:=c.le (Z pcs+h) C;omega,c.rr _ C⟩
      rw[aL l]at this;rw[bS this,w]
     |false=>
      have i:=u k;rw[aR,aJ G];refine⟨C,P3 i C,?_⟩;have:=g.pc h i<|kQ.2 ⟨by have:=c.le h C;omega,c.rr _ C⟩
      rw[bS this,w]
    obtain⟨h,k,l⟩:=n;have i:=PZ (r:=r) (t:=Z pcs+bs.length) (bs:=bs) (n:=Z pcs) (h:=r<|jg (Z pcs) b) (kQ.2 ⟨by have:=c.le _ h;omega,c.rr _ h⟩) k;have h:gi bs (Z pcs) (Z pcs+bs.length) r (r<|jg (Z pcs) b)<Z (iR (py bs (Z pcs) (Z pcs+bs.length) r<|cE (Z pcs+bs.length) r) (zN bs pcs r)<|ls.take a):=by
     rw[BX,yG];exact i.1
    rw[m];dsimp only[Option.getD,Option.isSome];rw[aN];refine dy l ?_;generalize gi bs (Z pcs) (Z pcs+bs.length) r (r<|jg (Z pcs) b)=e at *;refine oi h<|dy (H7 _) ?_
    have b:Z ((iR (py bs (Z pcs) (Z pcs+bs.length) r<|cE (Z pcs+bs.length) r) (zN bs pcs r)<|ls.take a)[e]).aZ<=Z ls:=by
     have:=ox (gs:=py bs (Z pcs) (Z pcs+bs.length) r<|cE (Z pcs+bs.length) r) (lg:=zN bs pcs r) (ls:=ls.take a) (g:=e);rw[aM h]at this;have:=this.symm;rw[xd]at this;obtain⟨b,_,b⟩:=this;rw[<-b,dR];have:=qW (λj=>decide<|zN bs pcs r j=O e)<|ls.take a
     rw[cQ]at this;omega
    refine li (by simp;omega)<|oi h<|o ?_
    rw[cN];congr 1;exact Hh f<|aM h
  ·rintro _ rfl;dsimp only;refine li (by simp;omega)<|li (by simp;omega)<|o ?_
   rw[q,fY,fY];rfl
 ·rintro d rfl;dsimp only;rw[fz];exact o ⟨r,c,rfl,g,rfl,rfl⟩
end
section
variable {N:Nat}
def Ib{p:aH}:∀{c:aG (aG<|aG aB)}{k:Nat},p∈cG k c->∃(i:Nat)(b:aG (aG aB))(q:aG aB),c[i]? =O b/\q∈b/\p= ⟨((k+i:Nat):Int),q,bF q⟩
 | [],k,a=>by cases a
 |b::c,k,a=>by
  rcases dS.1 a with a|a
  ·obtain⟨q,c,rfl⟩:=dH.1 a;exact⟨0,b,q,rfl,c,rfl⟩
  ·obtain⟨i,d,q,b,b,c⟩:=Ib a;refine⟨i+1,d,q,H,b,?_⟩;rw[c,show k+1+i=k+(i+1)by omega]
structure v5 (a:ir):Prop where
 CX:0<Z a.aS/\Z a.aS<=16
 reg:∀r∈a.aS,lu r=0
 out:lu a.cZ=0
 many:Z a.cZ+(a.aS.map List.length).sum<=2000
 Hi:kL a=0
 DR:qx a=0
def v5.gb{a:ir}(h:v5 a):nP a.aX:=⟨(qK h.Hi).1,λb c=>⟨((qK h.Hi).2 b c).1,((qK h.Hi).2 b c).2.1⟩⟩
def v5.cs{a:ir}(h:v5 a):∀r∈a.aS,Z r<=2000/\∀x∈r,LQ x:=λr b=>K0 (wA.1<|h.reg r b).1
structure Hj (a:ir) (kT:aG (aG aB)) (dW:aG (aG (aG aB))) (p:aH) (i:Nat) (r:aG z) (s:aG aB) (ps:aG (aG aB)) (u:Nat->Nat) (j k:Nat):Prop where
 cop:a.aS[i]? =O r
 kT:kT[i]? =O s
 dW:dW[i]? =O ps
 dr:BV r (nv a.aX (i:Int)) s
 pt:zf s u ps
 at_:ps[j]? =O p.Set
 head:(cE (Z (bF s)) u)[j]? =O k
 set:yD (uE (bF s) (Z (bF s)) u k) p.Set
 lim:Gf (AH r++AH (nv a.aX (i:Int))) (lE r++lE (nv a.aX (i:Int))) (p.Set.map cS)
 acF:p.cR=(i:Int)
 YR:p.eG=bF p.Set
def P4{a:ir}{e:aG (aG aB)}{b:aG (aG<|aG aB)}(hg:v5 a)(d:DO a.aS a.aX (Z a.aS) e b){p:aH}(h:p∈cG 0 b):∃i r s f u j k,Hj a e b p i r s f u j k:=by
 obtain⟨i,f,b,g,q,rfl⟩:=Ib h;have b:i<Z a.aS:=by have:=(bR.1 g).1;rw[d.H9]at this;exact this
 have l:a.aS[i]? =O a.aS[i]:=aM b;have h:e[i]? =O (e[i]'(by rw[d.len];exact b)):=aM _;have e:=d.dr i _ _ b l h;obtain⟨u,m⟩:=d.pt i _ f b h g;obtain⟨c,t⟩:=e.small (hg.cs _<|cH b).2<|λd b=>(yF hg.gb _ d b).1
 obtain⟨j,k,b,d,n,o⟩:=K5 m e.can e.lim c t q;exact⟨i,_,_,f,u,j,k,l,h,g,e,m,b,d,n,o,by rw[kx],rfl⟩
def Hj.PV{a:ir}{d:aG (aG aB)}{c:aG (aG<|aG aB)}(hg:v5 a){p:aH}{i:Nat}{r:aG z}{s:aG aB}{e:aG (aG aB)}{u:Nat->Nat}{j k:Nat}(h:Hj a d c p i r s e u j k):
  Z p.Set<=5000/\(∀b∈p.Set,Z b.Xs<=5000)/\Z p.eG<=5000*5000:=by
 have c:=(hg.cs r<|eR h.cop).1;have c:=H8 hg.gb (i:Int);rw[h.YR];exact Ex (A:=5000) h.set.can h.lim (by grind [cK,yC]) (by grind [cK,qu])
def P5(a0 a1 b0 b1:Int):Bool:=decide (b0<a1)&&decide (a0<b1)
def P6(a b:z):Bool:=P5 a.X0 a.X1 b.X0 b.X1&&P5 a.Y0 a.Y1 b.Y0 b.Y1
def K7{a0 a1 b0 b1:Int}(h1: -1000000<=a0/\a0<=1000000)(h2: -1000000<=a1/\a1<=1000000)(a: -1000000<=b0/\b0<=1000000)(a: -1000000<=b1/\b1<=1000000):∃n,mG N a0 a1 b0 b1=O n/\0<=n/\(n=0↔P5 a0 a1 b0 b1=aA):=by
 unfold mG P5
 grind [wrap,fG]
def ZE{a b:z}(h1:dJ a=aA)(h2:dJ b=aA):∃n,oU N a b=O n/\(n=0↔P6 a b=aA):=by
 have c:=ks h1;have c:=ks h2;obtain⟨n,d,c,c⟩:=K7 (N:=N) (a0:=a.X0) (a1:=a.X1) (b0:=b.X0) (b1:=b.X1) C C C C;obtain⟨c,c,e,e⟩:=K7 (N:=N) (a0:=a.Y0) (a1:=a.Y1) (b0:=b.Y0) (b1:=b.Y1) C C C C;unfold oU P6;rw[d,w,c,w]
 grind
def yH(x y:cM):Bool:=(decide (x.dC<=y.To)&&decide (y.dC<=x.To))&&P6 (DL x) (DL y)
def w8(a:ir):Prop:=∃(i k:Nat)(x y:cM),k<i/\a.aX[i]? =O x/\a.aX[k]? =O y/\yH x y=aA
noncomputable def DS(r:aG z):aP Int:=if lu r≠0 then O (lu r)else aQ
noncomputable def Oa(a:ir):Int:=if 2000<Z a.cZ+(a.aS.map List.length).sum then 2 else if kL a≠0 then kL a else if qx a≠0 then qx a else if w8 a then 12 else 0
noncomputable def TO(a:ir):Int:=match a.aS.findSome? DS with|some e=>e|none=>if lu a.cZ≠0 then lu a.cZ else Oa a
noncomputable def mx(a:ir):Int:=if Z a.aS=0 then 9 else if 16<Z a.aS then 2 else TO a
def Z4(b:aG (aG aB))(a:aG (aG<|aG aB)):Prop:=(∀s∈b,Z (bF s)<=2000)/\Z (cG 0 a)<=2000
abbrev K8:=aG (aG z)×aG z×aG cM×aG dD×aG (aG aB)×aG aH×aG (aG Int)×aG bL×aG Int×aG Int×aG Int×aG gL
def YS(a:ir)(x:aP K8×Int):Prop:=
 (mx a≠0/\x=(aQ,mx a))\/(mx a=0/\v5 a/\¬w8 a/\∃c b,DO a.aS a.aX (Z a.aS) c b/\
  ((¬Z4 c b/\x=(aQ,2))\/(Z4 c b/\∃r gs e d nF ny,DQ a.aX a.cA (cG 0 b) r gs e d nF ny/\
   x=(O (a.aS,a.cZ,a.aX,a.cA,c,cG 0 b,jH a.aX (cG 0 b),gs,e,d,nF,ny),0))))
structure AN (a:ir):Prop where
 cs:Z a.aS<=1048576
 each:∀r∈a.aS,Z r<=1048576
 out:Z a.cZ<=1048576
 bs:Z a.aX<=1048576
 ls:Z a.cA<=1048576
 nm:K3 a
def DT{a:ir}(h:bk a<=1048576):AN a:=by
 rw[VE]at h;have b:=mB a.aS;have b:=mB a.cZ;have b:=mB a.aX;have b:=mB a.cA;refine⟨C,λb b=>?_,C,C,C,λc c=>?_⟩
 ·have:=Bv b
  grind [mB]
 ·have:=Bv c
  grind [SB,Bw]
def Ic{a:ir}(s:AN a)(E:nq N):Ok (jE N a) (YS a):=by
 unfold jE;have x:∀f:Int,f≠0->mx a=f->Ok (O ((aQ:aP K8),f)) (YS a):=λf L b=>o<|.inl ⟨C,by rw[b]⟩
 have c1:=s.cs;refine jn (λb=>?_)<|λb=>?_
 ·grind [mx]
 have h0:¬(Z a.aS)=0:=H
 refine jn (λb=>?_)<|λb=>?_
 ·grind [mx]
 have h1:¬16<Z a.aS:=H
 have ae:mx a=TO a:=by grind [mx]
 have au:=s.out;have an:∀c,c<=Z a.aS->((a.aS.take c).map List.length).sum<=c*1048576:=by
  intro c
  induction c with
  |zero=>intro _;simp
  |succ c ih=>
   intro r;have:=ih C;have h2:=s.each _<|cH (show c<Z a.aS by omega)
   grind [dQ]
 refine v (Re (Go:=λi:Int=>i=((Z a.cZ+(a.aS.map List.length).sum:Nat):Int)/\∀m∈a.aS,lu m=0) (Rt:=λg:aP K8×Int=>∃f,f≠0/\g=(aQ,f)/\a.aS.findSome? DS=O f)
  (λ(c:Nat)(i:Int)=>i=((Z a.cZ+((a.aS.take c).map List.length).sum:Nat):Int)/\∀m∈a.aS.take c,lu m=0) C ⟨G,λm k=>by simp at k⟩ (λc i r q=>?_) (λi q=>H)) ?_
 ·obtain⟨f,q⟩:=q;subst f;have z:a.aS[c]? =O a.aS[c]:=aM r;have aa:a.aS.take (c+1)=a.aS.take c++[a.aS[c]]:=dQ r;have L:=s.each _<|cH r
  refine fy z<|dy (DN C E) ?_
  refine jn (λb=>p5 ?_)<|λb=>fx ?_
  ·have b:lu a.aS[c]≠0:=by simpa using b
   refine⟨_,b,rfl,?_⟩
   grind [List.findSome?_eq_some_iff,DS,r6,List.take_append_drop]
  ·have b:lu a.aS[c]=0:=by simpa using b
   have:=an c C;have aq:c*1048576<=16*1048576:=Nat.mul_le_mul_right _ C;refine⟨?_,λm k=>?_⟩
   ·rw[ed C,aa,fY,List.sum_append];simp only[gQ,List.map_nil,List.sum_cons,List.sum_nil];congr 1;omega
   ·rw[aa]at k
    rcases dS.1 k with k|k
    ·exact q m k
    ·simp at k;subst k;exact b
 intro ab A;refine gf A ?_ ?_
 rotate_left
 ·rintro g⟨f,L,rfl,t⟩;exact x f L (by rw[ae];unfold TO;rw[t])
 rintro i⟨rfl,X⟩;have ai:a.aS.findSome? DS=none:=List.findSome?_eq_none_iff.2 λm k=>by unfold DS;rw[aJ (by simpa using X m k)]
 have af:mx a=if lu a.cZ≠0 then lu a.cZ else Oa a:=by rw[ae];unfold TO;rw[ai]
 refine dy (DN C E) ?_;refine jn (λb=>?_)<|λb=>?_
 ·have b:lu a.cZ≠0:=by simpa using b
  exact x _ b (by rw[af,aL b])
 have V:lu a.cZ=0:=by simpa using b
 have I:mx a=Oa a:=by rw[af,aJ (by simpa using V)]
 refine jn (λb=>?_)<|λb=>?_
 ·have b:2000<Z a.cZ+(a.aS.map List.length).sum:=by have:=of_decide_eq_true b;omega
  exact x 2 C (by rw[I];unfold Oa;rw[aL b])
 have M:¬2000<Z a.cZ+(a.aS.map List.length).sum:=by have:=of_decide_eq_false b;omega
 have ao:=s.bs;have ar:=s.ls;refine dy (Mb C C C) ?_;refine jn (λb=>?_)<|λb=>?_
 ·have b:kL a≠0:=by simpa using b
  exact x _ b (by rw[I];unfold Oa;rw[aJ M,aL b])
 have K:kL a=0:=by simpa using b
 refine dy (Mc C C s.nm C) ?_;refine jn (λb=>?_)<|λb=>?_
 ·have b:qx a≠0:=by simpa using b
  exact x _ b (by rw[I];unfold Oa;rw[aJ M,aJ (by simpa using K),aL b])
 have U:qx a=0:=by simpa using b
 have n:v5 a:=⟨C,X,V,C,K,U⟩;have ag:mx a=if w8 a then 12 else 0:=by rw[I];unfold Oa;rw[aJ M,aJ (by simpa using K),aJ (by simpa using U)]
 refine v (Re (Go:=λ_:Unit=>¬w8 a) (Rt:=λg:aP K8×Int=>g=(aQ,12)/\w8 a)
  (λ(c:Nat)(_:Unit)=>∀(l d:Nat)(g e:cM),l<c->d<l->a.aX[l]? =O g->a.aX[d]? =O e->¬yH g e=aA) C (λl d g e b=>C) (λc i r q=>?_) (λi q=>?_)) ?_
 ·have z:a.aX[c]? =O a.aX[c]:=aM r;refine fy z<|dy (pd _ c C) ?_
  have S:=n.gb.ok _<|cH r
  refine v (Re (Go:=λ_:Unit=>∀(d:Nat)(e:cM),d<c->a.aX[d]? =O e->¬yH a.aX[c] e=aA) (Rt:=λg:aP K8×Int=>g=(aQ,12)/\w8 a)
   (λ(j:Nat)(_:Unit)=>∀(d:Nat)(e:cM),d<j->a.aX[d]? =O e->¬yH a.aX[c] e=aA) (by rw[cQ];omega) (λd e b=>C) (λj i ht y=>?_) (λi y d e u h=>y d e (by rw[cQ];omega) h)) ?_
  ·have Y:j<c:=by rw[cQ]at ht;omega
   have aj:(a.aX.take c)[j]? =O a.aX[j]:=by rw[List.getElem?_take_of_lt Y];exact aM C
   have T:=n.gb.ok _<|cH (show j<Z a.aX by omega)
   refine fy aj ?_;refine dy (x:=yH a.aX[c] a.aX[j]) ?_ ?_
   ·unfold yH
    cases F:(decide (a.aX[c].dC<=a.aX[j].To)&&decide (a.aX[j].dC<=a.aX[c].To))with
    |false=>rfl
    |true=>
     obtain⟨av,n1,n2⟩:=ZE (N:=N) S.2 T.2;rw[aN,r5 S.1,w,r5 T.1,w,n1,w,Bool.true_and];congr 1;rw[iK,beq_iff_eq];exact n2
   ·refine jn (λb=>p5 ⟨rfl,c,j,_,_,Y,z,aM C,b⟩)<|λb=>fx λd e u h=>?_
    by_cases f:d<j
    ·exact y d e f h
    ·have:d=j:=C
     subst this;rw[aM C]at h;injection h with h
     rw[<-h,b];simp
  ·intro ab A;refine gf A (λi y=>fx λl d g e hi u p h=>?_)<|λg p=>p5 p
   by_cases f:l<c
   ·exact q l d g e f u p h
   ·have:l=c:=C
    subst this;rw[z]at p;injection p with p
    rw[<-p];exact y d e u h
 ·rintro⟨l,d,g,e,u,p,h,F⟩;exact q l d g e (bR.1 p).1 u p h F
 intro ab A;refine gf A ?_ ?_
 rotate_left
 ·rintro g⟨rfl,F⟩;exact x 12 C (by rw[ag,aL F])
 intro _ P;have ah:mx a=0:=by rw[ag,aJ P]
 refine v (Ru (N:=N) C n.cs n.gb E) ?_;rintro⟨am,Q,aw⟩⟨D,B,R,J⟩;dsimp only at B R J ⊢;subst R;refine jn (λb=>o<|.inr ⟨ah,n,P,Q,D,B, .inl ⟨λt=>?_,rfl⟩⟩)<|λb=>?_
 ·have:=J.2 t;rw[this]at b;cases b
 ·have t:Z4 Q D:=J.1 (by cases am <;> simp_all);have W:∀ad∈cG 0 D,Z ad.eG<=1073741824:=λad hp=>by
   obtain⟨l,m,i,ps,ax,d,c,hP⟩:=P4 n B hp;have:=(hP.PV n).2.2;omega
  have ap:=t.2;refine dy (VR n.gb C W) ?_;refine v (N9 (N:=N) n.gb C W C E) ?_;rintro⟨gs,al,ak,nF,ny⟩⟨m,hC⟩;exact o<|.inr ⟨ah,n,P,Q,D,B, .inr ⟨t,m,gs,al,ak,nF,ny,hC,rfl⟩⟩
end
section
variable {N:Nat}
def SQ(s:aG aB):dP:=match s with|b::_=>⟨b.Xs.headD 0,b.Y0⟩| []=>⟨0,0⟩
structure mE (a:ir) (kT:aG (aG aB)) (dW:aG (aG (aG aB))) (r:Nat->Nat) (gs:aG bL) (ofP ofB nF:aG Int) (ny:aG gL):Prop where
 Hk:v5 a
 ncl:¬w8 a
 dr:DO a.aS a.aX (Z a.aS) kT dW
 CX:Z4 kT dW
 JJ:DQ a.aX a.cA (cG 0 dW) r gs ofP ofB nF ny
inductive ZF (N:Nat) (a:ir):Prop
 |err (e:Int) (he:e≠0) (h:jE N a=O (aQ,e))
 |ok {kT:aG (aG aB)} {dW:aG (aG (aG aB))} {r:Nat->Nat} {gs:aG bL} {ofP ofB nF:aG Int} {ny:aG gL} (b:mE a kT dW r gs ofP ofB nF ny)
  (h:jE N a=O (O (a.aS,a.cZ,a.aX,a.cA,kT,cG 0 dW,jH a.aX<|cG 0 dW,gs,ofP,ofB,nF,ny),0))
def E3{a:ir}(e:AN a)(d:nq N):ZF N a:=by
 obtain⟨b,b,c⟩:=Ic (N:=N) e d
 rcases c with⟨f,rfl⟩|⟨_,h,e,c,c,c,⟨_,rfl⟩|⟨g,d,d,d,d,d,d,d,rfl⟩⟩
 ·exact .err _ f b
 ·exact .err 2 C b
 ·exact .ok ⟨h,e,c,g,d⟩ b
end
section
variable {S R:Type}
def kg{body:S->aP (Fl S R)}{N n:Nat}{s:S}(a:S->Int)(b:Nat->S->Prop){Go:S->Prop}{Rt:R->Prop}
  (h1:∀k s,k<n->a s=((k:Nat):Int)->b k s->Ok (body s) (Uy (λc=>a c=((k+1:Nat):Int)/\b (k+1) c) Go Rt))
  (h2:∀s,a s=(n:Int)->b n s->Ok (body s) (Uy (λ_=>False) Go Rt))
  {k0:Nat} (d:k0<=n) (hi:a s=(k0:Int)) (e:b k0 s) (f:n<N):Ok (Gk.gh body N s) (QN Go Rt):=by
 refine od (λs=>∃k:Nat,k<=n/\a s=((k:Nat):Int)/\b k s) (λs=>n -(a s).toNat) ?_ ⟨k0,d,hi,e⟩ C;rintro s⟨k,d,b,e⟩
 by_cases d:k<n
 ·refine(h1 k s d b e).mono ?_;rintro(c|c|g)b
  ·have e:a c=((k+1:Nat):Int):=b.1;exact⟨⟨k+1,d,b.1,b.2⟩,C⟩
  ·exact b
  ·exact b
 grind
theorem iB{k n:Nat}(h:k<n):decide ((k:Int)<(n:Int))=true:=bN C
def nG(n:Nat):decide ((n:Int)<(n:Int))=false:=bW C
theorem AO{k n:Nat}(h:n<=k):decide ((k:Int)<(n:Int))=false:=bW C
end
theorem xG{α:Type}{p:α->Bool}:∀{l:aG α}{k:Nat},(∀(j:Nat)x,j<k->l[j]? =O x->p x=aA)->(∀x,l[k]? =O x->p x=aK)->l.takeWhile p=l.take k/\l.dropWhile p=l.drop k
 | [],k,_,_=>by simp
 |b::l,0,_,a=>by
  have:=a b rfl;rw[List.takeWhile_cons,List.dropWhile_cons,this];simp
 |b::l,k+1,c,a=>by
  have f:=c 0 b C rfl;obtain⟨d,e⟩:=xG (l:=l) (k:=k) (λj x b b=>c (j+1) x C b)<|λx b=>a x b
  rw[List.takeWhile_cons,List.dropWhile_cons,f,aL rfl,aL rfl,d,e];simp
section
variable {N:Nat}
def xH(l:aG Int)(c:Int):aG Int:=if c∈l then l else l.takeWhile (λx=>decide<|x<c)++c::l.dropWhile (λx=>decide<|x<c)
def Hl(l:aG Int)(c:Int):Z (xH l c)<=Z l+1:=by
 grind [xH,decide,cK,List.takeWhile_append_dropWhile,eK]
def K9{l:aG Int}{c x:Int}:x∈xH l c↔x∈l\/x=c:=by
 grind [xH,decide,List.takeWhile_append_dropWhile]
def Xv{l:aG Int}(h:lF l)(c:Int):∀x∈l.dropWhile (λx=>decide<|x<c),c<=x:=by
 induction l with
 |nil=>simp
 |cons a l b=>
  rw[List.dropWhile_cons]
  by_cases d:a<c
  ·rw[aL H];exact b h.tail
  ·rw[aJ H];intro x a
   rcases eO.1 a with rfl|a
   ·omega
   ·have:=h.head x a;omega
def Xw(l:aG Int)(c:Int):∀x∈l.takeWhile (λx=>decide<|x<c),x<c:=by
 induction l with
 |nil=>simp
 |cons a l b=>
  rw[List.takeWhile_cons]
  grind
def AP{l:aG Int}{c:Int}(h:lF l):lF (xH l c):=by
 unfold xH;split
 ·exact h
 ·rename_i f;have a:=h;rw[<-List.takeWhile_append_dropWhile (p:=λb=>decide<|b<c) (l:=l)]at a;unfold lF at a ⊢;rw[fZ]at a ⊢;refine⟨a.1,lz.2 ⟨λb d=>?_,a.2.1⟩,λb d i g=>?_⟩
  ·have e:=Xv h c b d
   grind [List.takeWhile_append_dropWhile,decide,List.mem_append_right]
  ·have e:=Xw l c b d
   grind
def nz(l:aG Int):aG Int:=l.foldl xH []
def BZ:∀(cs l:aG Int),lF l->lF (cs.foldl xH l)/\(∀x,x∈cs.foldl xH l↔x∈l\/x∈cs)/\Z (cs.foldl xH l)<=Z l+Z cs
 | [],l,a=>⟨a,λx=>G,G⟩
 |b::cs,l,a=>by
  obtain⟨c,d,e⟩:=BZ cs (xH l b)<|AP a
  refine⟨c,λx=>?_,?_⟩
  ·rw[List.foldl_cons,d,K9,eO,or_assoc]
  ·rw[List.foldl_cons,eK];have:=Hl l b;omega
def sH(l:aG Int):lF (nz l):=(BZ l [] kW).1
theorem MU{l:aG Int}{x:Int}:x∈nz l↔x∈l:=by
 have:=(BZ l [] kW).2.1 x
 grind [nz]
theorem AQ(l:aG Int):Z (nz l)<=Z l:=by
 have:=(BZ l [] kW).2.2
 grind [nz]
def DU(l:aG Int)(c d:Int):nz (l++[c,d])=xH (xH (nz l) c) d:=by simp[nz,List.foldl_append]
def Rw{a b:Nat}(h:a+b<=4611686018427387904):wrap .i64 (Int.tdiv (wrap .i64<|(a:Int)+(b:Int)) 2)=(((a+b) / 2:Nat):Int):=by
 grind [ed,Int.tdiv_eq_ediv_of_nonneg,fG]
def Ez{l:aG Int}{c:Int}(h:lF l)(hl:Z l<=1099511627776)(S:nq N):gS N l c=O (xH l c):=by
 refine l_ ?_;unfold gS
 refine v (od (Go:=λd:Int×Int=>∃a:Nat,d.1=(a:Int)/\a<=Z l/\(∀(b:Nat)e,b<a->l[b]? =O e->e<c)/\(∀(b:Nat)e,a<=b->l[b]? =O e->c<=e)) (Rt:=λ_=>True)
  (λd=>∃a f:Nat,d=((a:Int),(f:Int))/\a<=f/\f<=Z l/\(∀(b:Nat)e,b<a->l[b]? =O e->e<c)/\(∀(b:Nat)e,f<=b->l[b]? =O e->c<=e))
  (λd=>(d.2 - d.1).toNat) ?_ ⟨0,Z l,rfl,C,du _,λb e i=>C,λb e i g=>H⟩ C) ?_
 ·rintro d⟨a,f,rfl,T,m,p,q⟩;dsimp only
  by_cases r:a<f
  ·have F:(a+f) / 2<Z l:=C
   have g:l[(a+f) / 2]? =O l[(a+f) / 2]:=aM F;rw[iB r,aN,Rw C];refine fy g ?_
   by_cases n:l[(a+f) / 2]<c
   ·rw[bN n,aN,w];refine fx ⟨⟨(a+f) / 2+1,f,?_,C,m,λb e i k=>?_,q⟩,?_⟩
    ·rw[bM C]
    ·by_cases j:b=(a+f) / 2
     ·grind
     ·have:=h.lt (i:=b) (j:=(a+f) / 2) C k g;omega
    ·rw[bM C];omega
   ·rw[bW n,aR,w];refine fx ⟨⟨a,(a+f) / 2,rfl,C,C,p,λb e i k=>?_⟩,by simp only;omega⟩
    by_cases j:b=(a+f) / 2
    ·subst j;rw[g]at k;injection k with k;omega
    ·have:=h.lt (i:=(a+f) / 2) (j:=b) C g k;omega
  ·rw[AO C,aR];exact ga ⟨a,rfl,C,p,λb e i g=>q b e C g⟩
 intro W G;refine gf G ?_<|λs U=>s.elim
 rintro⟨X,Y⟩⟨a,u,lm,p,q⟩;dsimp only at u ⊢;subst u;have E:l[a]? =O c->xH l c=l:=λg=>by unfold xH;rw[aL<|eR g]
 have I:l[a]? ≠O c->xH l c=l.take a++c::l.drop a:=λg=>by
  have n:c∉l:=λn=>by
   obtain⟨b,i⟩:=dM n
   by_cases A:b<a
   ·have:=p b c A i;omega
   ·by_cases j:b=a
    ·subst j;exact g i
    ·have B:a<Z l:=by have:=(bR.1 i).1;omega
     have t:l[a]? =O l[a]:=aM B;have Q:=h.lt (i:=a) (j:=b) C t i;have R:=q a _ (du _) t;omega
  unfold xH;rw[aJ n];obtain⟨y,z⟩:=xG (p:=λe=>decide<|e<c) (l:=l) (k:=a) (λb e i k=>bN<|p b e i k)<|λe k=>bW (by have:=q a e (du _) k;omega)
  rw[y,z]
 have x:l[a]? ≠O c->Ok (D (wX l 0 (a:Int)) λJ=>D (gx 8 ([]:aG Int) J) λK=>D (gx 8 K ([c]:aG Int)) λL=>D (wX l (a:Int) (Z l:Int)) λM=>D (gx 8 L M) λP=>O P) (λs=>s=xH l c):=λg=>by
  have V:Z (l.take a)=a:=by rw[cQ];omega
  refine dy (pd l a lm)<|li (by simp only[List.length_nil];omega)<|li (by rw[List.nil_append];simp only[eK,List.length_nil];omega)<|dy (ti l a lm)<|li ?_<|o ?_
  ·rw[List.nil_append,cK,iz];simp only[eK,List.length_nil];omega
  ·rw[I g];simp
 by_cases r:a<Z l
 ·have g:l[a]? =O l[a]:=aM r;rw[iB r,aN,bS g,w,w];refine jn (λm=>o ?_)<|λm=>x ?_
  ·rw[beq_iff_eq]at m;rw[E (by rw[g,m])]
  ·rw[beq_eq_false_iff_ne]at m;rw[g];intro j;injection j with j;exact m j
 ·rw[AO C,aR,w,aR];exact x (by rw[List.getElem?_eq_none C];intro j;cases j)
def P7(l m:aG z):lE (l++m)=lE l++lE m:=List.flatMap_append
def Lb{l:aG z}(hl:Z l<=268435456)(f:nq N):jJ N l=O (nz<|lE l):=by
 refine l_ ?_;unfold jJ;refine v (kg (n:=Z l) (λc=>c.2) (λa c=>c.1=nz (lE<|l.take a)) (Go:=λc=>c.1=nz (lE l)) (Rt:=λ_=>False) ?_ ?_ (cT _) rfl rfl C) ?_
 ·rintro a⟨j,i⟩e d b;dsimp only at d b ⊢;subst d;subst b;rw[iB e,aN];have g:l[a]? =O l[a]:=aM e;have h:=AQ<|lE<|l.take a
  rw[qu,cQ]at h;have h:=Hl (nz<|lE<|l.take a) l[a].Y0;refine fy g<|fy g<|dy (Ez (sH _) C f)<|dy (Ez (AP<|sH _) C f)<|fx ⟨bM C,?_⟩
  rw[dQ e,P7];exact(DU _ _ _).symm
 ·rintro⟨j,i⟩d b;dsimp only at d b ⊢;subst d;rw[nG,aR];exact ga (by rw[fz]at b;exact b)
 intro a a;exact gf a (λc a=>o a)<|λa a=>a.elim
def sp(s:aI):Int×Int:=(s.from_,s.to)
theorem VU:∀{l m:aG aI},l.map sp=m.map sp->l=m
 | [],[],_=>rfl
 | [],_::_,a=>by cases a
 |_::_,[],a=>by cases a
 |⟨f,g⟩::l,⟨h,i⟩::m,a=>by
  rw[gQ,gQ]at a;injection a with b e
  unfold sp at b;injection b with c d
  simp only at c d;rw[c,d,VU e]
theorem EA(a b:Int):(if b<a then b else a)=min a b:=C
theorem vf(a b:Int):(if a<b then b else a)=max a b:=C
def MV{l:aG aI}{s:aI}(hl:Z l<=268435456)(a:nq N):Ok (kf N l s) (λm=>m.map sp=pY (l.map sp) (sp s)):=by
 unfold kf;have p:∀(c:Nat)(a:Int×Int),(l.map sp)[c]? =O a->∃h,l[c]? =O h/\a=sp h:=λc a b=>H
 refine v (od (Go:=λd:aG aI×Int=>∃b:Nat,d=(l.take b,(b:Int))/\b<=Z l/\(∀(c:Nat)a,c<b->l[c]? =O a->a.to<s.from_)/\(∀a,l[b]? =O a->¬a.to<s.from_)) (Rt:=λ_=>False)
  (λd=>∃b:Nat,d=(l.take b,(b:Int))/\b<=Z l/\∀(c:Nat)a,c<b->l[c]? =O a->a.to<s.from_) (λd=>Z l - d.2.toNat) ?_ ⟨0,G,C,λc a q=>C⟩ (by simp;omega)) ?_
 ·rintro d⟨b,rfl,r,n⟩;dsimp only
  by_cases f:b<Z l
  ·have g:l[b]? =O l[b]:=aM f;rw[iB f,aN,bS g,w,w];refine jn (λe=>?_)<|λe=>?_
   ·have e:=of_decide_eq_true e;refine dy rfl<|li ?_<|fx ⟨⟨b+1,?_,f,?_⟩,?_⟩
    all_goals grind [bM,dQ,cN]
   grind [of_decide_eq_false,ga]
  grind [AO,w,ga,bR]
 intro y i;refine gf i ?_<|λm j=>j.elim
 rintro d⟨b,rfl,r,n,x⟩;dsimp only
 obtain⟨t,u⟩:=xG (p:=λk:Int×Int=>decide (k.2<(sp s).1)) (l:=l.map sp) (k:=b) (λc a q g=>by
  obtain⟨h,k,rfl⟩:=p c a g
  exact bN (n c h q k)) (λa g=>by
  obtain⟨h,k,rfl⟩:=p b a g
  exact bW (x h k))
 refine v (od (Go:=λd:aI×Int=>∃a:Nat,d.2=(a:Int)/\a<=Z l/\nD (sp s) ((l.drop b).map sp)=(sp d.1,(l.drop a).map sp)) (Rt:=λ_=>False)
  (λd=>∃a:Nat,d.2=(a:Int)/\a<=Z l/\nD (sp s) ((l.drop b).map sp)=nD (sp d.1) ((l.drop a).map sp)) (λd=>Z l - d.2.toNat) ?_ ⟨b,rfl,r,rfl⟩ C) ?_
 ·rintro⟨k,p⟩⟨a,c,h,b⟩;dsimp only at c b ⊢;subst c
  by_cases f:a<Z l
  ·have g:l[a]? =O l[a]:=aM f;have n:(l.drop a).map sp=sp l[a]::(l.drop<|a+1).map sp:=by rw[r6 f,gQ]
   rw[iB f,aN,bS g,w,w];refine jn (λe=>?_)<|λe=>?_
   ·have e:=of_decide_eq_true e;refine dy rfl<|dy rfl<|fx ⟨⟨a+1,bM C,f,?_⟩,?_⟩
    ·rw[b,n]
     conv=>lhs;unfold nD
     rw[aL (show(sp l[a]).1<=(sp k).2 from e),EA,vf];rfl
    ·dsimp only;rw[bM C];simp only[cN];omega
   ·have e:=of_decide_eq_false e;refine ga ⟨a,rfl,h,?_⟩;rw[b,n]
    conv=>lhs;unfold nD
    rw[aJ (show ¬(sp l[a]).1<=(sp k).2 from e)]
  ·rw[AO C,aR,w,aR];refine ga ⟨a,rfl,h,?_⟩;rw[b,List.drop_eq_nil_of_le C];rfl
 intro y i;refine gf i ?_<|λm j=>j.elim
 rintro⟨k,p⟩⟨a,c,h,b⟩;dsimp only at c b ⊢;subst c;refine li ?_<|dy (ti l a h)<|li ?_<|o ?_
 ·rw[cQ];simp only[eK,List.length_nil];omega
 ·rw[cK,cQ,iz];simp only[eK,List.length_nil];omega
 ·unfold pY;rw[t,u,<-List.map_take,<-List.map_drop,b];simp
theorem Lc:∀(l:aG (Int×Int))(s:Int×Int),Z (nD s l).2<=Z l
 | [],s=>du _
 |a::l,s=>by
  unfold nD;split
  ·have:=Lc l (min s.1 a.1,max s.2 a.2);rw[eK];omega
  ·exact du _
def IP(l:aG (Int×Int))(s:Int×Int):Z (pY l s)<=Z l+1:=by
 grind [pY,Lc,decide,cK,List.takeWhile_append_dropWhile,eK]
def mc(y:Int)(a:aG (Int×Int))(r:z):aG (Int×Int):=if r.Y0<=y/\y<r.Y1 then pY a (r.X0,r.X1)else a
def qd(l:aG z)(y:Int):aG (Int×Int):=l.foldl (mc y) []
def TP(l:aG z)(r:z)(y:Int):qd (l++[r]) y=mc y (qd l y) r:=by simp[qd,List.foldl_append]
theorem IQ(y:Int):∀(l:aG z)(a:aG (Int×Int)),Z (l.foldl (mc y) a)<=Z a+Z l
 | [],a=>by simp
 |b::l,a=>by
  rw[List.foldl_cons,eK];have c:=IQ y l<|mc y a b
  have c:Z (mc y a b)<=Z a+1:=by
   unfold mc;split
   ·exact IP _ _
   ·omega
  omega
theorem AR(l:aG z)(y:Int):Z (qd l y)<=Z l:=by
 grind [IQ,qd]
def Hm(y:Int):∀(l:aG z)(a:aG (Int×Int)),(∀r∈l,r.X0<r.X1)->lF (eH a)->lF (eH<|l.foldl (mc y) a)/\∀x,lD (l.foldl (mc y) a) x=(lD a x||zK l x y)
 | [],a,_,b=>⟨b,λx=>by simp[zK]⟩
 |r::l,a,d,b=>by
  have f:=d r G;rw[List.foldl_cons];have e:lF (eH<|mc y a r)/\∀x,lD (mc y a r) x=(lD a x||((decide (r.X0<=x)&&decide (x<r.X1))&&(decide (r.Y0<=y)&&decide (y<r.Y1)))):=by
   unfold mc
   by_cases c:r.Y0<=y/\y<r.Y1
   ·rw[aL c];obtain⟨g,h⟩:=G9 (l:=a) (s:=(r.X0,r.X1)) b f;refine⟨g,λx=>?_⟩;rw[h,bN c.1,bN c.2,Bool.or_comm];simp
   ·rw[aJ c];refine⟨b,λx=>?_⟩;have:(decide (r.Y0<=y)&&decide (y<r.Y1))=false:=by rw[Bool.and_eq_false_iff,decide_eq_false_iff_not,decide_eq_false_iff_not];omega
    rw[this];simp
  obtain⟨b,c⟩:=Hm y l (mc y a r) (λf a=>d f<|ku _ a) e.1;refine⟨b,λx=>?_⟩;rw[c,e.2,Bool.or_assoc];rfl
theorem EB{l:aG z}(h:∀r∈l,r.X0<r.X1)(y:Int):lF (eH<|qd l y)/\∀x,lD (qd l y) x=zK l x y:=by
 obtain⟨a,a⟩:=Hm y l [] h kW
 grind [lD,qd]
def Ft{y b:Int}:∀(l:aG z)(a:aG (Int×Int)),(∀r∈l,(r.Y0<=y/\y<r.Y1)↔(r.Y0<=b/\b<r.Y1))->l.foldl (mc y) a=l.foldl (mc b) a
 | [],a,_=>rfl
 |r::l,a,b=>by
  rw[List.foldl_cons,List.foldl_cons,Ft l _<|λc a=>b c<|ku _ a];congr 1;unfold mc;have:=b r G
  by_cases a:r.Y0<=y/\y<r.Y1
  ·rw[aL a,aL<|this.1 a]
  ·rw[aJ a,aJ<|λb=>a<|this.2 b]
def Rx{l:aG z}{y a:Int}(h:∀r∈l,(r.Y0<=y/\y<r.Y1)↔(r.Y0<=a/\a<r.Y1)):qd l y=qd l a:=Ft l [] h
theorem VV{l:aG z}{y:Int}(h:∀r∈l,¬(r.Y0<=y/\y<r.Y1)):qd l y= []:=by
 have:∀(l:aG z)(a:aG (Int×Int)),(∀r∈l,¬(r.Y0<=y/\y<r.Y1))->l.foldl (mc y) a=a:=by
  intro l
  induction l with
  |nil=>simp
  |cons r l a=>
   grind [ku,mc]
 exact this l [] h
theorem Ob{l:aG z}{y:Int}(hl:Z l<=134217728)(h:nq N):Ok (jG N l y) (λd=>d.map sp=qd l y):=by
 unfold jG;refine v (kg (n:=Z l) (λb=>b.2) (λa b=>b.1.map sp=qd (l.take a) y) (Go:=λb=>b.1.map sp=qd l y) (Rt:=λ_=>False) ?_ ?_ (cT _) rfl rfl C) ?_
 ·rintro a⟨i,m⟩f e c;dsimp only at e c ⊢;subst e;rw[iB f,aN];have g:l[a]? =O l[a]:=aM f;have j:Z i<=Z l:=by
   grind [AR,dR,cQ]
  rw[bS g,w];have k:qd (l.take<|a+1) y=mc y (qd (l.take a) y) l[a]:=by rw[dQ f,TP]
  have j:¬(l[a].Y0<=y/\y<l[a].Y1)->Ok (D (O i) λf=>O (Fl.nx (f,wrap .i64<|((a:Nat):Int)+1):Fl (aG aI×Int) Empty)) (Uy (λf=>f.2=((a+1:Nat):Int)/\f.1.map sp=qd (l.take<|a+1) y) (λb=>b.1.map sp=qd l y)<|λ_=>False):=λf=>by
   grind [w,fx,bM,mc]
  by_cases f:l[a].Y0<=y
  ·rw[bN f,aN,w,w]
   by_cases g:y<l[a].Y1
   ·rw[bN g,aN];refine v (P:=λd:aG aI=>d.map sp=qd (l.take<|a+1) y) (dy rfl<|dy rfl<|v (MV C h)<|λd a=>o ?_)<|λd a=>fx ⟨bM C,a⟩
    rw[a,c,k];unfold mc;rw[aL ⟨f,g⟩];rfl
   ·rw[bW g,aR];exact j<|λh=>g h.2
  ·rw[bW f,aR,w,aR];exact j<|λh=>f h.1
 ·rintro⟨i,m⟩e c;dsimp only at e c ⊢;subst e;rw[nG,aR];exact ga (by rw[fz]at c;exact c)
 intro c c;exact gf c (λb b=>o b)<|λd a=>a.elim
theorem Ie{l:aG aI}{x:Int}(hl:Z l<=1099511627776)(a:nq N):i9 N l x=O (lD (l.map sp) x):=by
 refine l_ ?_;unfold i9;have h:∀a:Bool,(lD (l.map sp) x=a↔(l.any λc=>decide (c.from_<=x)&&decide (x<c.to))=a):=λa=>by unfold lD;rw[List.any_map];rfl
 refine v (kg (n:=Z l) (λc=>c) (λa c=>∀(d:Nat)b,d<a->l[d]? =O b->¬(b.from_<=x/\x<b.to)) (Go:=λc=>lD (l.map sp) x=aK) (Rt:=λe=>e=lD (l.map sp) x) ?_ ?_ (cT _) rfl (λd b j=>C) C) ?_
 ·rintro a m g f i;subst f;rw[iB g,aN];have k:l[a]? =O l[a]:=aM g;rw[bS k,w]
  have g:¬(l[a].from_<=x/\x<l[a].to)->Ok (O (Fl.nx (wrap .i64 (((a:Nat):Int)+1)):Fl Int Bool)) (Uy (λg=>g=((a+1:Nat):Int)/\∀(d:Nat)b,d<a+1->l[d]? =O b->¬(b.from_<=x/\x<b.to)) (λc=>lD (l.map sp) x=aK) (λe=>e=lD (l.map sp) x)):=λg=>fx ⟨bM C,λd b j b=>H⟩
  by_cases b:l[a].from_<=x
  ·rw[bN b,aN,w,w]
   by_cases b:x<l[a].to
   ·rw[bN b,aN];refine p5 ?_;symm;rw[h,ky]
    grind
   grind
  grind
 ·rintro m f i;subst f;rw[nG,aR];refine ga ?_;rw[h,List.any_eq_false]
  grind [dM,bR,Bool.and_eq_false_iff,decide_eq_false_iff_not]
 intro a a;exact gf a (λc a=>o a.symm)<|λe a=>o a
end
end Go.Gk
namespace Go.Gk
open Go IntKind
section
variable {α:Type}{R:α->α->Prop}{c:α->α->Bool}
def DV(R:α->α->Prop)(c:α->α->Bool)(x y:α):Prop:=(c y x=aA↔R y x)/\(R x y\/R y x)
def DV.t{x y:α}(h:DV R c x y)(e:c y x=aA):R y x:=h.1.1 e
def DV.f{x y:α}(h:DV R c x y)(e:c y x=aK):R x y:=by
 rcases h.2 with a|a
 ·exact a
 ·rw[h.1.2 a]at e;cases e
structure w9 (R:α->α->Prop) (c:α->α->Bool) (X Y:aG α):Prop where
 l:X.Pairwise R
 r:Y.Pairwise R
 asks:∀x∈X,∀y∈Y,DV R c x y
structure Js (R:α->α->Prop) (X Y Z:aG α):Prop where
 perm:Z.Perm (X++Y)
 sorted:Z.Pairwise R
def Oc{X:aG α}{x u:α}(h:(X++[x]).Pairwise R)(a:u∈X++[x]):u=x\/R u x:=H
def SR{X:aG α}{x u:α}(h:(x::X).Pairwise R)(a:u∈x::X):u=x\/R x u:=by
 grind [lz]
def TQ{a b g i:aG α}(d:∀x y z,R x y->R y z->R x z)(h:w9 R c (a++b) (g++i))
  (h1:a= []\/i= []\/∃e x y f,a=e++[x]/\i=y::f/\c y x=aK)
  (h2:g= []\/b= []\/∃f y x e,g=f++[y]/\b=x::e/\c y x=aA):∀u∈a++g,∀v∈b++i,R u v:=by
 intro u a v b;have m:=fZ.1 h.l;have l:=fZ.1 h.r
 rcases dS.1 a with a|a <;> rcases dS.1 b with b|b
 ·grind
 ·rcases h1 with rfl|rfl|⟨e,x,y,f,rfl,rfl,k⟩
  ·simp at a
  ·simp at b
  ·have j:R x y:=(h.asks x G y G).f k
   rcases Oc m.1 a with rfl|g <;> rcases SR l.2.1 b with rfl|i
   ·exact j
   ·exact d _ _ _ j i
   ·exact d _ _ _ g j
   ·exact d _ _ _ g<|d _ _ _ j i
 ·rcases h2 with rfl|rfl|⟨f,y,x,e,rfl,rfl,k⟩
  ·simp at a
  ·simp at b
  ·have e:R y x:=(h.asks x G y G).t k
   rcases Oc l.1 a with rfl|g <;> rcases SR m.2.1 b with rfl|i
   ·exact e
   ·exact d _ _ _ e i
   ·exact d _ _ _ g e
   ·exact d _ _ _ g<|d _ _ _ e i
 ·exact l.2.2 u a v b
def w9.left{a d b e:aG α}(h:w9 R c (a++d) (b++e)):w9 R c a b:=
 ⟨(fZ.1 h.l).1,(fZ.1 h.r).1,λd a e b=>h.asks d (by simp[a]) e (by simp[b])⟩
def w9.right{d a e b:aG α}(h:w9 R c (d++a) (e++b)):w9 R c a b:=
 ⟨(fZ.1 h.l).2.1,(fZ.1 h.r).2.1,λd a e b=>h.asks d (by simp[a]) e (by simp[b])⟩
def Js.YT{Y:aG α}(h:Y.Pairwise R):Js R [] Y Y:=⟨List.Perm.refl _,h⟩
def Js.YU{X:aG α}(h:X.Pairwise R):Js R X [] X:=⟨G,h⟩
def Js.both{a b c d e f:aG α}(g:∀u∈a++c,∀v∈b++d,R u v)(h1:Js R a c e)(h2:Js R b d f):Js R (a++b) (c++d) (e++f):=by
 refine⟨?_,fZ.2 ⟨h1.sorted,h2.sorted,λu a v b=>g u (h1.perm.mem_iff.1 a) v<|h2.perm.mem_iff.1 b⟩⟩;refine(h1.perm.append h2.perm).trans ?_;rw[eM,eM];refine List.Perm.append_left _ ?_;rw[<-eM,<-eM];exact List.perm_append_comm.append_right _
def Js.acG{x:α}{a b:aG α}(d:∀x y z,R x y->R y z->R x z)(h:w9 R c [x] (a++b))(h1:∀y∈a,c y x=aA)(h2:∀y∈b,c y x=aK):Js R [x] (a++b) (a++x::b):=by
 have d:=fZ.1 h.r;have e:∀y∈a,R y x:=λy a=>(h.asks x G y (by simp[a])).t<|h1 y a
 have e:∀y∈b,R x y:=λy a=>(h.asks x G y (by simp[a])).f<|h2 y a
 refine⟨List.perm_middle,fZ.2 ⟨d.1,lz.2 ⟨e,d.2.1⟩,λa a a a=>?_⟩⟩
 grind
def Js.acH{y:α}{a b:aG α}(d:∀x y z,R x y->R y z->R x z)(h:w9 R c (a++b) [y])(h1:∀x∈a,c y x=aK)(h2:∀x∈b,c y x=aA):Js R (a++b) [y] (a++y::b):=by
 have d:=fZ.1 h.l;have e:∀x∈a,R x y:=λx a=>(h.asks x (by simp[a]) y G).f<|h1 x a
 have e:∀x∈b,R y x:=λx a=>(h.asks x (by simp[a]) y G).t<|h2 x a
 refine⟨?_,fZ.2 ⟨d.1,lz.2 ⟨e,d.2.1⟩,λa a a a=>?_⟩⟩
 ·grind [List.perm_append_comm]
 grind
def Xx(A B C a E:aG α)(p:Nat):(A++B++C++a++E)[p]? =if p<Z A then A[p]? else if p<Z A+Z B then B[p - Z A]? else if p<Z A+Z B+Z C then C[p -(Z A+Z B)]?
  else if p<Z A+Z B+Z C+Z a then a[p -(Z A+Z B+Z C)]? else E[p -(Z A+Z B+Z C+Z a)]? :=by
 by_cases b:p<Z A+Z B+Z C+Z a
 ·grind
 grind [ly,cK]
def VW{P U Q V S c:aG α}{a b n:Nat}(d:Z P=a)(e:a+n+Z Q=b)(e:Z U=n)(f:Z V=n)
  (h:∀p:Nat,c[p]? =if a<=p/\p<a+n then(P++U++Q++V++S)[p - a+b]? else if b<=p/\p<b+n then(P++U++Q++V++S)[p - b+a]? else(P++U++Q++V++S)[p]?):c=P++V++Q++U++S:=by
 refine List.ext_getElem? λp=>?_;rw[h p,Xx,Xx,Xx,Xx,d,e,f]
 by_cases d:p<a
 ·grind
 by_cases c:p<a+n
 ·rw[aL ⟨C,c⟩,aJ C,aJ C,aJ C,aL C,aJ d,aL c];congr 1;omega
 by_cases e:p<b
 ·rw[aJ C,aJ C,aJ d,aJ c,aL C,aJ d,aJ c,aL C]
 by_cases e:p<b+n
 ·rw[aJ C,aL ⟨C,e⟩,aJ C,aL C,aJ d,aJ c,aJ C,aL C];congr 1;omega
 ·rw[aJ C,aJ C,aJ d,aJ c,aJ C,aJ C,aJ d,aJ c,aJ C,aJ C]
end
section
variable {α:Type}
def lS{n m:Nat}(h:m<=n)(a:n<=4611686018427387904):wrap .i64 ((n:Int) -(m:Int))=((n - m:Nat):Int):=by
 grind [wz]
theorem wC{n:Nat}(h:0<n)(a:n<=4611686018427387904):wrap .i64 ((n:Int) - 1)=((n - 1:Nat):Int):=lS (m:=1) h a
def EC{L W:aG α}{u:α}{k:Nat}(a:Z L=k):(L++u::W)[k]? =O u:=H
def Xy{L W:aG α}{u v:α}{k:Nat}(a:Z L=k):((L++u::v::W).set k v).set (k+1) u=L++v::u::W:=ta
def P8{L W:aG α}{u v:α}{k:Nat}(a:Z L=k):((L++u::v::W).set (k+1) u).set k v=L++v::u::W:=ta
def Od{N lo hi:Nat}{body:Int×Int->aP (Fl (Int×Int) Empty)}(a:Nat->Bool)(k:∀c d,lo<=c->c<=d->d<hi->a d=aA->a c=aA)
  (g:∀i j:Nat,lo<=i->i<j->j<=hi->body ((i:Int),(j:Int))=O (.nx (if a ((i+j) / 2)=aA then((((i+j) / 2+1:Nat):Int),(j:Int))else((i:Int),(((i+j) / 2:Nat):Int)))))
  (he:∀i:Nat,body ((i:Int),(i:Int))=O (.br ((i:Int),(i:Int)))) (lm:lo<=hi) (b:hi<N):
  ∃c:Nat,gh body N ((lo:Int),(hi:Int))=O (.go (((c:Nat):Int),((c:Nat):Int)))/\lo<=c/\c<=hi/\(∀x,lo<=x->x<c->a x=aA)/\(∀x,c<=x->x<hi->a x=aK):=by
 have o:Ok (gh body N ((lo:Int),(hi:Int))) (QN (λb=>∃c:Nat,b=(((c:Nat):Int),((c:Nat):Int))/\lo<=c/\c<=hi/\(∀x,lo<=x->x<c->a x=aA)/\(∀x,c<=x->x<hi->a x=aK))<|λ_=>False):=by
  refine od (λb=>∃i j:Nat,b=((i:Int),(j:Int))/\lo<=i/\i<=j/\j<=hi/\(∀x,lo<=x->x<i->a x=aA)/\(∀x,j<=x->x<hi->a x=aK)) (λb=>(b.2 - b.1).toNat) ?_ ⟨lo,hi,rfl,du _,lm,du _,λx e f=>C,λx e f=>C⟩ C;rintro b⟨i,j,rfl,e,f,h,m,n⟩
  by_cases l:i=j
  ·grind [ga]
  ·rw[g i j e C h];have g:i<=(i+j) / 2:=C
   have g:(i+j) / 2<j:=C
   cases g:a ((i+j) / 2)with
   |true=>
    rw[aL rfl];refine fx ⟨⟨(i+j) / 2+1,j,rfl,C,C,h,λx h l=>k x ((i+j) / 2) h C C g,n⟩,by dsimp only;omega⟩
   |false=>
    rw[aJ A4];refine fx ⟨⟨i,(i+j) / 2,rfl,e,C,C,m,λx h l=>?_⟩,by dsimp only;omega⟩
    cases m:a x with
    |false=>rfl
    |true=>rw[k ((i+j) / 2) x C h l m]at g;cases g
 obtain⟨a,e,f⟩:=o
 cases a with
 |rt a=>exact f.elim
 |go b=>obtain⟨c,rfl,a⟩:=f;exact⟨c,e,a⟩
end
section
variable {N:Nat}{φ:aC->aC->aP Int}{cf:aC->aC->Int}{R:aC->aC->Prop}
def Ld{P U Q V S:aG aC}{a b n:Nat}(r:Z P=a)(s:a+n+Z Q=b)(t:Z U=n)(u:Z V=n)(hl:Z (P++U++Q++V++S)<=1073741824)(c:nq N):
  eW N (P++U++Q++V++S) (a:Int) (b:Int) (n:Int) φ=O (P++V++Q++U++S):=by
 refine l_ ?_;unfold eW;have c:Z (P++U++Q++V++S)=b+n+Z S:=H
 generalize m:P++U++Q++V++S=e at *
 refine v (kg (n:=n) (λf=>f.2) (λd f=>∀c:Nat,f.1[c]? =if a<=c/\c<a+d then e[c - a+b]? else if b<=c/\c<b+d then e[c - b+a]? else e[c]?) (Go:=λf=>f.1=P++V++Q++U++S) (Rt:=λ_=>False) ?_ ?_ (cT _) rfl (λc=>H) C) ?_
 ·rintro d⟨i,x⟩j g h;dsimp only at g h ⊢;subst g;rw[iB j,aN,ed C,ed C];have j:i[b+d]? =O (e[b+d]' C):=H
  have k:i[a+d]? =O (e[a+d]' C):=H
  have l:(i.set (a+d)<|e[b+d]' C)[b+d]? =O (e[b+d]' C):=H
  have p:=(bR.1 j).1;have q:=(bR.1 k).1;rw[bS j,w,bS k,w,w,cN,bS l,w,cN];refine fx ⟨bM C,λc=>?_⟩;dsimp only;rw[kX,kX,jD];have:=h c
  by_cases e:b+d=c
  ·subst e;rw[aL rfl,aL p,aJ C,aL C,show b+d - b+a=a+d by omega];exact(aM _).symm
  ·rw[aJ e]
   by_cases e:a+d=c
   ·subst e;rw[aL rfl,aL q,aL C,show a+d - a+b=b+d by omega];exact(aM _).symm
   ·rw[aJ e,this]
    by_cases e:a<=c/\c<a+d
    ·rw[aL e,aL C]
    ·rw[aJ e,aJ (show ¬(a<=c/\c<a+(d+1))by omega)]
     by_cases e:b<=c/\c<b+d
     ·rw[aL e,aL (show b<=c/\c<b+(d+1)by omega)]
     ·rw[aJ e,aJ (show ¬(b<=c/\c<b+(d+1))by omega)]
 ·rintro⟨i,x⟩g h;dsimp only at g h ⊢;subst g;rw[nG,aR];refine ga ?_;subst m;exact VW r s t u h
 ·intro c c;exact gf c (λf c=>o c)<|λc c=>c.elim
def ZG{P X Y S:aG aC}{a m b:Nat}(c:Z P=a)(hm:a+Z X=m)(c:m+Z Y=b)(hx:0<Z X)(hy:0<Z Y)(hl:Z (P++X++Y++S)<=1073741824)(j:nq N):
  g8 N (P++X++Y++S) (a:Int) (m:Int) (b:Int) φ=O (P++Y++X++S):=by
 have c:Z (P++X++Y++S)=b+Z S:=H
 refine l_ ?_;unfold g8;rw[lS C C,lS C C]
 refine v (od (λh=>∃(e c d f:aG aC),h=(e++c++d++f,(Z c:Int),(Z d:Int))/\Z e+Z c=m/\0<Z c/\0<Z d/\e++d++c++f=P++Y++X++S)
  (λh=>(h.2.1+h.2.2).toNat) (Go:=λh=>∃(e c d f:aG aC),h=(e++c++d++f,(Z c:Int),(Z c:Int))/\Z e+Z c=m/\Z c=Z d/\e++d++c++f=P++Y++X++S) (Rt:=λ_=>False) ?_
  ⟨P,X,Y,S,H,C,hx,hy,rfl⟩ H) ?_
 ·rintro h⟨e,c,d,f,rfl,n,k,g,i⟩;dsimp only;have p:Z e+Z d+Z c+Z f=b+Z S:=by
   grind [List.length,cK]
  by_cases g:Z c=Z d
  ·grind [bne_self_eq_false,ga]
  ·rw[show((Z c:Int) != (Z d:Int))=aA by grind,aN]
   by_cases g:Z d<Z c
   ·rw[bN (show(Z c:Int)>(Z d:Int)by omega),aN,lS C C,lS C C];have g:=Ld (N:=N) (φ:=φ) (P:=e) (U:=c.take (Z d)) (Q:=c.drop (Z d)) (V:=d) (S:=f) (a:=m - Z c) (b:=m) (n:=Z d) C (by rw[iz];omega) (by rw[cQ];omega) rfl (by simp only[cK,cQ,iz];omega) j;rw[show e++c.take (Z d)++c.drop (Z d)=e++c by rw[eM,List.take_append_drop]]at g;rw[g,w,w];refine fx ⟨⟨e++d,c.drop (Z d),c.take (Z d),f,?_,?_,?_,?_,?_⟩,?_⟩
    ·rw[iz,cQ,show min (Z d) (Z c)=Z d by omega]
    ·simp only[cK,iz];omega
    ·simp only[iz];omega
    ·simp only[cQ];omega
    ·rw[<-i];simp
    ·dsimp only;omega
   ·rw[bW (show ¬(Z c:Int)>(Z d:Int)by omega),aR,lS C C,ed C,lS C C,lS C C];have g:=Ld (N:=N) (φ:=φ) (P:=e) (U:=c) (Q:=d.take<|Z d - Z c) (V:=d.drop<|Z d - Z c) (S:=f) (a:=m - Z c) (b:=m+Z d - Z c) (n:=Z c) C (by rw[cQ];omega) rfl (by rw[iz];omega) (by simp only[cK,cQ,iz];omega) j;rw[show e++c++d.take (Z d - Z c)++d.drop (Z d - Z c)=e++c++d by rw[eM<|e++c,List.take_append_drop]]at g;rw[g,w,w];refine fx ⟨⟨e,d.drop<|Z d - Z c,d.take<|Z d - Z c,c++f,?_,?_,?_,?_,?_⟩,?_⟩
    ·rw[iz,cQ,show min (Z d - Z c) (Z d)=Z d - Z c by omega,show Z d -(Z d - Z c)=Z c by omega];simp
    ·simp only[iz];omega
    ·simp only[iz];omega
    ·simp only[cQ];omega
    ·rw[<-i,show e++d.take (Z d - Z c)++d.drop (Z d - Z c)=e++d by rw[eM,List.take_append_drop]];simp
    ·dsimp only;omega
 ·intro l l;refine gf l ?_<|λl l=>l.elim
  rintro h⟨e,c,d,f,rfl,n,k,i⟩;dsimp only;have p:Z e+Z d+Z c+Z f=b+Z S:=by
   have:=congrArg List.length i;simp only[cK]at this;omega
  rw[lS C C];have g:=Ld (N:=N) (φ:=φ) (P:=e) (U:=c) (Q:=[]) (V:=d) (S:=f) (a:=m - Z c) (b:=m) (n:=Z c) C (by simp;omega) rfl k.symm (by simp only[cK,List.length_nil];omega) j;rw[kY,kY]at g;rw[g,w,i];exact o rfl
end
section
variable {N:Nat}{φ:aC->aC->aP Int}{cf:aC->aC->Int}{R:aC->aC->Prop}
def Fu(cf:aC->aC->Int)(x y:aC):Bool:=decide<|cf x y<0
def VX(ab:∀x y,φ x y=O (cf x y))(tr:∀x y z,R x y->R y z->R x z){P X S:aG aC}{a b:Nat}(ha:Z P=a)(hb:a+Z X=b)(hA:X.Pairwise (DV R<|Fu cf))(hl:Z (P++X++S)<=1073741824)(hN:nq N):
  ∃d,dN N (P++X++S) (a:Int) (b:Int) φ=O (P++d++S)/\d.Perm X/\d.Pairwise R:=by
 have aj:Z (P++X++S)=b+Z S:=H
 have ad:Ok (dN N (P++X++S) (a:Int) (b:Int) φ) (λu=>∃d,u=P++d++S/\d.Perm X/\d.Pairwise R):=by
  unfold dN;rw[bM C]
  refine v (od (λh=>∃(c:Nat)(d:aG aC),h=(P++d++(X.drop c++S),((a+c:Nat):Int))/\1<=c/\c<=Z X+1/\d.Perm (X.take c)/\d.Pairwise R) (λh=>b+1 - h.2.toNat)
   (Go:=λh=>∃d,h.1=P++d++S/\d.Perm X/\d.Pairwise R) (Rt:=λ_=>False) ?_ ⟨1,X.take 1,by grind [eM,List.take_append_drop],du _,C,List.Perm.refl _,by
    cases X with
    |nil=>simp
    |cons x X=>simp⟩ C) ?_
  ·rintro h⟨c,d,rfl,B,D,q,l⟩;dsimp only
   by_cases L:c<Z X
   ·rw[iB (show a+c<b by omega),aN];have ai:Z d=c:=by rw[q.length_eq,cQ];omega
    have hX:X.drop c=X[c]::X.drop (c+1):=r6 L;have I:∀g∈d,DV R (Fu cf) g X[c]:=λg r=>by
     grind [DV,Fu,List.take_append_drop,List.mem_cons_self]
    refine v (od (λh=>∃i f:aG aC,h=(P++i++X[c]::(f++(X.drop (c+1)++S)),((a+Z i:Nat):Int))/\i++f=d/\∀j∈f,R X[c] j) (λh=>h.2.toNat)
     (Go:=λh=>∃i f:aG aC,h.1=P++i++X[c]::(f++(X.drop (c+1)++S))/\i++f=d/\(∀j∈f,R X[c] j)/\∀j∈i,R j X[c]) (Rt:=λ_=>False) ?_ ⟨d,[],H,G,G⟩ C) ?_
    ·rintro h⟨i,f,rfl,k,p⟩;dsimp only;have E:Z i+Z f=c:=H
     rcases List.eq_nil_or_concat i with rfl|⟨e,g,rfl⟩
     ·rw[bW (show ¬((a+Z ([]:aG aC):Nat):Int)>(a:Int)by simp),aR,w,aR];exact ga ⟨[],f,rfl,k,p,G⟩
     ·rw[List.concat_eq_append]at k E ⊢;simp only[cK,eK,List.length_nil]at E ⊢;rw[bN (show((a+(Z e+(0+1)):Nat):Int)>(a:Int)by omega),aN,wC C C];have M:P++(e++[g])++X[c]::(f++(X.drop (c+1)++S))=(P++e)++g::X[c]::(f++(X.drop (c+1)++S)):=G
      rw[M];have Q:((P++e)++g::X[c]::(f++(X.drop (c+1)++S)))[a+(Z e+(0+1))]? =O X[c]:=by
       have:=EC (L:=P++e++[g]) (W:=f++(X.drop (c+1)++S)) (u:=X[c]) (k:=a+(Z e+(0+1))) (by simp only[cK,eK,List.length_nil];omega);simpa using this
      have A:((P++e)++g::X[c]::(f++(X.drop (c+1)++S)))[a+(Z e+(0+1)) - 1]? =O g:=EC (by simp only[cK];omega);rw[bS Q,w,bS A,w,ab,w,w];have J:g∈d:=by rw[<-k];simp
      cases r:decide (cf X[c] g<0)with
      |true=>
       rw[aN,w,w,w,cN,cN];have W:a+(Z e+(0+1))=a+Z e+1:=C
       have T:(((P++e)++g::X[c]::(f++(X.drop (c+1)++S))).set (a+(Z e+(0+1))) g)[a+(Z e+(0+1)) - 1]? =O g:=by
        rw[List.getElem?_set_ne C];exact A
       rw[bS T,w];have aa:=P8 (L:=P++e) (W:=f++(X.drop (c+1)++S)) (u:=g) (v:=X[c]) (k:=a+Z e) (by simp only[cK];omega);rw[W,show a+Z e+1 - 1=a+Z e by omega,aa];refine fx ⟨⟨e,g::f,G,by rw[<-k];simp,λj m=>?_⟩,by simp only[cN];omega⟩
       rcases eO.1 m with rfl|m
       ·exact(I _ J).t r
       ·exact p j m
      |false=>
       rw[aR];have K:R g X[c]:=(I _ J).f r;refine ga ⟨e++[g],f,G,k,p,λj m=>?_⟩;have Y:(e++[g]).Pairwise R:=by rw[<-k]at l;exact(fZ.1 l).1
       rcases Oc Y m with rfl|n
       ·exact K
       ·exact tr _ _ _ n K
    ·intro ae s;refine gf s ?_<|λaf n=>n.elim
     rintro⟨ah,ak⟩⟨i,f,F,k,p,V⟩;dsimp only at F ⊢;subst F;rw[bM C];refine fx ⟨⟨c+1,i++X[c]::f,by simp;omega,C,C,?_,?_⟩,by simp only[cN];omega⟩
     ·rw[dQ L];refine List.Perm.trans ?_<|q.append_right _
      rw[<-k];exact List.perm_middle.trans<|List.perm_append_comm (l₁:=[X[c]])
     ·rw[<-k,fZ]at l;refine fZ.2 ⟨l.1,lz.2 ⟨p,l.2.1⟩,λj m ag t=>?_⟩
      rcases eO.1 t with rfl|t
      ·exact V j m
      ·exact l.2.2 j m ag t
   ·rw[AO (show b<=a+c by omega),aR];refine ga ⟨d,?_,?_,l⟩
    ·dsimp only;rw[List.drop_eq_nil_of_le C,List.nil_append]
    ·rw[nR C]at q;exact q
  ·intro ae s;exact gf s (λh l=>o l)<|λaf n=>n.elim
 obtain⟨u,B,d,rfl,D,U⟩:=ad;exact⟨d,B,D,U⟩
def JK{a b:Nat}(h:a<=b)(c:b<=1073741824):wrap .i64 (Int.fdiv (wrap .u64<|wrap .i64<|(a:Int)+(b:Int)) 2)=(((a+b) / 2:Nat):Int):=by
 rw[ed C];have c:wrap .u64 ((a+b:Nat):Int)=((a+b:Nat):Int):=by
  show((a+b:Nat):Int) % 18446744073709551616=_;omega
 rw[c,Int.fdiv_eq_ediv_of_nonneg _ C,show((a+b:Nat):Int) / 2=(((a+b) / 2:Nat):Int)by omega];exact wz C
def TR(q:∀x y,φ x y=O (cf x y))(r:∀x y z,R x y->R y z->R x z){c:aG aC->Int->Int->Int->(aC->aC->aP Int)->aP (aG aC)}{P Y S:aG aC}{x:aC}{a m b:Nat}(d:Z P=a)(hm:a+1=m)(d:m+Z Y=b)
  (h:w9 R (Fu cf) [x] Y) (hl:Z (P++[x]++Y++S)<=1073741824) (d:nq N):
  ∃i,dO N c (P++[x]++Y++S) (a:Int) (m:Int) (b:Int) φ=O (P++i++S)/\Js R [x] Y i:=by
 have c:Z (P++[x]++Y++S)=b+Z S:=H
 have n:(P++[x]++Y++S)[a]? =O x:=H
 have gy:∀h:Nat,(h0:m<=h)->(hh:h<b)->(P++[x]++Y++S)[h]? =O (Y[h - m]' C):=λh j g=>H
 unfold dO;rw[lS C C,show((((m - a:Nat):Nat):Int)==1)=aA by grind,aN];obtain⟨d,p,j,g,k,e⟩:=Od (N:=N) (lo:=m) (hi:=b) (body:=λ(c:Int×Int)=>(bif c.1<c.2 then(D (A (P++[x]++Y++S)<|wrap .i64<|Int.fdiv (wrap .u64<|wrap .i64<|c.1+c.2) 2) λf=>D (A (P++[x]++Y++S) (a:Int)) λl=>D (φ f l) λf=>D (bif f<0 then O (wrap .i64<|wrap .i64 (Int.fdiv (wrap .u64<|wrap .i64<|c.1+c.2) 2)+1,c.2)else O (c.1,wrap .i64<|Int.fdiv (wrap .u64<|wrap .i64<|c.1+c.2) 2)) λf=>O<|.nx (f.1,f.2))else(O<|.br (c.1,c.2)):aP (Fl (Int×Int) Empty)))
  (λh=>match Y[h - m]? with|some y=>Fu cf y x|none=>aK) (λd c j g k e=>by
   have f:Y[d - m]? =O (Y[d - m]' C):=aM _;have l:Y[c - m]? =O (Y[c - m]' C):=aM _;rw[l]at e;rw[f];dsimp only at e ⊢
   by_cases f:d=c
   ·subst f;exact e
   ·have f:=(h.asks x G _<|cH (l:=Y) (n:=c - m) C).t e;have l:=jW.1 h.r (d - m) (c - m) C C C
    exact(h.asks x G _ (cH (l:=Y) (n:=d - m) C)).1.2 (r _ _ _ l f))
  (λc f j g k=>by
   dsimp only;have j:m<=(c+f) / 2:=by omega
   have l:(c+f) / 2<b:=by omega
   rw[iB g,aN,JK C C,bS<|gy _ j l,w,bS n,w,q,w,aM (show(c+f) / 2 - m<Z Y by omega)];show Option.bind (bif Fu cf _ x then _ else _) _=_
   cases g:Fu cf (Y[(c+f) / 2 - m]' C) x with
   |true=>rw[aN,w,bM C];simp only[g,if_true]
   |false=>rw[aR,w];simp only[g,Bool.false_eq_true,if_false])
  (λc=>by dsimp only;rw[nG,aR]) C C
 rw[p,w];show ∃i,Fo.cs (Fo.go _) _ _=_/\_;unfold Fo.cs;dsimp only;rw[wC C C];have E:Ok (D (gh (λ(c:aG aC×Int)=>(bif decide (c.2<((d - 1:Nat):Int))then(D (A c.1<|wrap .i64<|c.2+1) λg=>D (A c.1 c.2) λi=>D (A c.1 c.2) λj=>D (A (c.1.set (Int.toNat c.2) g)<|wrap .i64<|c.2+1) λj=>O<|.nx ((c.1.set (Int.toNat c.2) g).set (Int.toNat<|wrap .i64<|c.2+1) i,wrap .i64<|c.2+1))else(O<|.br (c.1,c.2)):aP (Fl (aG aC×Int) Empty))) N (P++[x]++Y++S,(a:Int))) λg=>g.cs (λ(c:aG aC×Int)=>O c.1)<|λq=>q.elim)
   (λc=>c=P++(Y.take (d - m)++x::Y.drop (d - m))++S):=by
  refine v (kg (n:=d - 1) (λg=>g.2) (λc g=>a<=c/\g.1=(P++Y.take (c - a))++x::(Y.drop (c - a)++S)) (Go:=λg=>g.1=P++(Y.take (d - m)++x::Y.drop (d - m))++S) (Rt:=λ_=>False) ?_ ?_ (k0:=a) C rfl ⟨du _,G⟩ C) ?_
  ·rintro c⟨s,f⟩l i⟨B,j⟩;dsimp only at i j ⊢;subst i;subst j;rw[iB l,aN,bM C];have p:c - a<Z Y:=C
   have l:Z (P++Y.take (c - a))=c:=by simp only[cK,cQ];omega
   have n:Y.drop (c - a)=Y[c - a]::Y.drop (c - a+1):=r6 p;rw[n,List.cons_append];have n:((P++Y.take (c - a))++x::Y[c - a]::(Y.drop (c - a+1)++S))[c+1]? =O Y[c - a]:=by
    have:=EC (L:=P++Y.take (c - a)++[x]) (W:=Y.drop (c - a+1)++S) (u:=Y[c - a]) (k:=c+1) (by rw[cK,l];rfl);simpa only[eM,List.cons_append,List.nil_append]using this
   have t:((P++Y.take (c - a))++x::Y[c - a]::(Y.drop (c - a+1)++S))[c]? =O x:=EC l;have u:(((P++Y.take (c - a))++x::Y[c - a]::(Y.drop (c - a+1)++S)).set c Y[c - a])[c+1]? =O Y[c - a]:=by
    rw[List.getElem?_set_ne C];exact n
   rw[bS n,w,bS t,w,w,cN,cN,bS u,w,Xy l];refine fx ⟨rfl,C,?_⟩;dsimp only;rw[show c+1 - a=c - a+1 by omega,dQ p];simp only[eM,List.cons_append,List.nil_append]
  ·rintro⟨s,f⟩i⟨B,j⟩;dsimp only at i j ⊢;subst i;subst j;rw[nG,aR];refine ga ?_;dsimp only;rw[show d - 1 - a=d - m by omega];simp
  ·intro c c;exact gf c (λg c=>o c)<|λq h=>h.elim
 refine⟨_,l_ E,?_⟩;have c:w9 R (Fu cf) [x] (Y.take (d - m)++Y.drop (d - m)):=by rw[List.take_append_drop];exact h
 have:=Js.acG r c (λy g=>by
  obtain⟨c,f,rfl⟩:=List.mem_iff_getElem.1 g;rw[cQ]at f;have:=k (m+c) C C;rw[show m+c - m=c by omega,aM (show c<Z Y by omega)]at this
  rw[List.getElem_take];exact this) (λy g=>by
  obtain⟨c,f,rfl⟩:=List.mem_iff_getElem.1 g;rw[iz]at f;have:=e (d+c) C C;rw[show d+c - m=d - m+c by omega,aM (show d - m+c<Z Y by omega)]at this
  rw[List.getElem_drop];exact this)
 rw[List.take_append_drop]at this;exact this
def TS(s:∀x y,φ x y=O (cf x y))(n:∀x y z,R x y->R y z->R x z)(p:∀x y,R x y->R y x->False){d:aG aC->Int->Int->Int->(aC->aC->aP Int)->aP (aG aC)}{P X S:aG aC}{y:aC}{a m b:Nat}(c:Z P=a)(hm:a+Z X=m)(c:m+1=b)
  (hx:Z X≠1) (h:w9 R (Fu cf) X [y]) (hl:Z (P++X++[y]++S)<=1073741824) (c:nq N):
  ∃c,dO N d (P++X++[y]++S) (a:Int) (m:Int) (b:Int) φ=O (P++c++S)/\Js R X [y] c:=by
 have c:Z (P++X++[y]++S)=b+Z S:=H
 have gy:(P++X++[y]++S)[m]? =O y:=H
 have q:∀h:Nat,(h0:a<=h)->(hh:h<m)->(P++X++[y]++S)[h]? =O (X[h - a]' C):=λh j g=>H
 unfold dO;rw[lS (show a<=m by omega) C,show((((m - a:Nat):Nat):Int)==1)=aK by grind,aR,lS (show m<=b by omega) C,show((((b - m:Nat):Nat):Int)==1)=aA by grind,aN];obtain⟨d,r,j,g,k,f⟩:=Od (N:=N) (lo:=a) (hi:=m) (body:=λ(c:Int×Int)=>(bif c.1<c.2 then(D (A (P++X++[y]++S) (m:Int)) λe=>D (A (P++X++[y]++S)<|wrap .i64<|Int.fdiv (wrap .u64<|wrap .i64<|c.1+c.2) 2) λi=>D (φ e i) λe=>D (bif(!(decide<|e<0))then O (wrap .i64<|wrap .i64 (Int.fdiv (wrap .u64<|wrap .i64<|c.1+c.2) 2)+1,c.2)else O (c.1,wrap .i64<|Int.fdiv (wrap .u64<|wrap .i64<|c.1+c.2) 2)) λe=>O<|.nx (e.1,e.2))else(O<|.br (c.1,c.2)):aP (Fl (Int×Int) Empty)))
  (λh=>match X[h - a]? with|some x=> !Fu cf y x|none=>aK) (λd c j g k f=>by
   have i:X[d - a]? =O (X[d - a]' C):=aM _;have e:X[c - a]? =O (X[c - a]' C):=aM _;rw[e]at f;rw[i];dsimp only at f ⊢
   by_cases e:d=c
   ·subst e;exact f
   ·have l:=h.asks _ (cH (l:=X) (n:=c - a) C) y G;have t:=h.asks _ (cH (l:=X) (n:=d - a) C) y G;have e:=l.f (by simpa using f);have l:=jW.1 h.l (d - a) (c - a) C C C;have c:=n _ _ _ l e
    cases e:Fu cf y (X[d - a]' C)with
    |false=>rfl
    |true=>exact(p _ _ c (t.t e)).elim)
  (λc e j g k=>by
   dsimp only;have j:a<=(c+e) / 2:=by omega
   have l:(c+e) / 2<m:=by omega
   rw[iB g,aN,JK C C,bS gy,w,bS<|q _ j l,w,s,w,aM (show(c+e) / 2 - a<Z X by omega)];show Option.bind (bif !Fu cf y _ then _ else _) _=_
   cases j:Fu cf y (X[(c+e) / 2 - a]' C)with
   |false=>rw[lU,aN,w,bM C];simp only[j,lU,if_true]
   |true=>rw[iL,aR,w];simp only[j,iL,Bool.false_eq_true,if_false])
  (λc=>by dsimp only;rw[nG,aR]) C C
 rw[r,w];unfold Fo.cs;dsimp only;have r:Ok (D (gh (λ(c:aG aC×Int)=>(bif decide (c.2>((d:Nat):Int))then(D (A c.1<|wrap .i64<|c.2 - 1) λe=>D (A c.1 c.2) λj=>D (A c.1 c.2) λl=>D (A (c.1.set (Int.toNat c.2) e)<|wrap .i64<|c.2 - 1) λl=>O<|.nx ((c.1.set (Int.toNat c.2) e).set (Int.toNat<|wrap .i64<|c.2 - 1) j,wrap .i64<|c.2 - 1))else(O<|.br (c.1,c.2)):aP (Fl (aG aC×Int) Empty))) N (P++X++[y]++S,(m:Int))) λe=>e.cs (λ(c:aG aC×Int)=>O c.1)<|λl=>l.elim)
   (λc=>c=P++(X.take (d - a)++y::X.drop (d - a))++S):=by
  refine v (od (λe=>∃c:Nat,e=((P++X.take (c - a))++y::(X.drop (c - a)++S),(c:Int))/\d<=c/\c<=m) (λe=>e.2.toNat) (Go:=λe=>e.1=P++(X.take (d - a)++y::X.drop (d - a))++S) (Rt:=λ_=>False) ?_ ⟨m,by
   rw[nR C,List.drop_eq_nil_of_le C];simp,g,du _⟩ (by dsimp only;omega)) ?_
  ·rintro e⟨c,rfl,g,g⟩;dsimp only
   by_cases g:d=c
   ·subst g;rw[bW (show ¬((d:Nat):Int)>((d:Nat):Int)by omega),aR];exact ga G
   ·rw[bN (show(c:Int)>((d:Nat):Int)by omega),aN,wC C C];have j:c - 1 - a<Z X:=C
    have i:X.take (c - a)=X.take (c - 1 - a)++[X[c - 1 - a]]:=by
     rw[show c - a=c - 1 - a+1 by omega,dQ j]
    have g:Z (P++X.take (c - 1 - a))=c - 1:=by simp only[cK,cQ];omega
    rw[show(P++X.take (c - a))++y::(X.drop (c - a)++S)=(P++X.take (c - 1 - a))++X[c - 1 - a]::y::(X.drop (c - a)++S)by rw[i];simp only[eM,List.cons_append,List.nil_append]];have i:((P++X.take (c - 1 - a))++X[c - 1 - a]::y::(X.drop (c - a)++S))[c - 1]? =O X[c - 1 - a]:=EC g;have p:((P++X.take (c - 1 - a))++X[c - 1 - a]::y::(X.drop (c - a)++S))[c]? =O y:=by
     have:=EC (L:=P++X.take (c - 1 - a)++[X[c - 1 - a]]) (W:=X.drop (c - a)++S) (u:=y) (k:=c) (by rw[cK,g];simp;omega);simpa only[eM,List.cons_append,List.nil_append]using this
    have q:(((P++X.take (c - 1 - a))++X[c - 1 - a]::y::(X.drop (c - a)++S)).set c X[c - 1 - a])[c - 1]? =O X[c - 1 - a]:=by
     rw[List.getElem?_set_ne C];exact i
    rw[bS i,w,bS p,w,w,cN,cN,bS q,w];have i:=P8 (L:=P++X.take (c - 1 - a)) (W:=X.drop (c - a)++S) (u:=X[c - 1 - a]) (v:=y) (k:=c - 1) g;rw[show c - 1+1=c by omega]at i;rw[i];refine fx ⟨⟨c - 1,?_,C,C⟩,by simp only[cN];omega⟩;rw[show X.drop (c - 1 - a)=X[c - 1 - a]::X.drop (c - a)by rw[r6 j,show c - 1 - a+1=c - a by omega]];rfl
  ·intro c c;exact gf c (λe c=>o c)<|λl h=>h.elim
 refine⟨_,l_ r,?_⟩;have c:w9 R (Fu cf) (X.take (d - a)++X.drop (d - a)) [y]:=by rw[List.take_append_drop];exact h
 have:=Js.acH n c (λx hx=>by
  obtain⟨c,e,rfl⟩:=List.mem_iff_getElem.1 hx;rw[cQ]at e;have:=k (a+c) C C;rw[show a+c - a=c by omega,aM (show c<Z X by omega)]at this
  rw[List.getElem_take];simpa using this) (λx hx=>by
  obtain⟨c,e,rfl⟩:=List.mem_iff_getElem.1 hx;rw[iz]at e;have:=f (d+c) C C;rw[show d+c - a=d - a+c by omega,aM (show d - a+c<Z X by omega)]at this
  rw[List.getElem_drop];simpa using this)
 rw[List.take_append_drop]at this;exact this
end
section
variable {N:Nat}{φ:aC->aC->aP Int}{cf:aC->aC->Int}{R:aC->aC->Prop}
def VY(N:Nat)(φ:aC->aC->aP Int)(cf:aC->aC->Int)(R:aC->aC->Prop)(e:aG aC->Int->Int->Int->(aC->aC->aP Int)->aP (aG aC))(d:Nat):Prop:=
 ∀(P X Y S:aG aC)(a m b:Nat),Z P=a->a+Z X=m->m+Z Y=b->0<Z X->0<Z Y->Z X+Z Y<=d->w9 R (Fu cf) X Y->Z (P++X++Y++S)<=1073741824->
  ∃c,e (P++X++Y++S) (a:Int) (m:Int) (b:Int) φ=O (P++c++S)/\Js R X Y c
def VZ(t:∀x y,φ x y=O (cf x y))(u:∀x y z,R x y->R y z->R x z)(l:∀x y,R x y->R y x->False){E:aG aC->Int->Int->Int->(aC->aC->aP Int)->aP (aG aC)}{d:Nat}(T:VY N φ cf R E d)(r:nq N):
  VY N φ cf R (dO N E) (d+1):=by
 intro j f g h e a m M n k b b b i b
 by_cases c:Z f=1
 ·obtain⟨x,rfl⟩:=List.length_eq_one_iff.1 c;exact TR t u M C k i b r
 by_cases k:Z g=1
 ·obtain⟨y,rfl⟩:=List.length_eq_one_iff.1 k;exact TS t u l M n C c i b r
 have b:Z (j++f++g++h)=m+Z h:=H
 have K:∀i:Nat,(h0:e<=i)->(hh:i<a)->(j++f++g++h)[i]? =O (f[i - e]' C):=λi o n=>H
 have gy:∀i:Nat,(h0:a<=i)->(hh:i<m)->(j++f++g++h)[i]? =O (g[i - a]' C):=λi o n=>H
 unfold dO;rw[lS (show e<=a by omega) C,show((((a - e:Nat):Nat):Int)==1)=aK by grind,aR,lS (show a<=m by omega) C,show((((m - a:Nat):Nat):Int)==1)=aK by grind,aR];rw[JK (show e<=m by omega) C];generalize b:(e+m) / 2=c;have b:e<c:=C
 have b:c<m:=C
 rw[ed (n:=c) (m:=a) C,wC (n:=c+a) C C];have k:∃q p:Nat,(bif decide ((a:Int)>(c:Int))then O (wrap .i64<|((c+a:Nat):Int) -(m:Int),(c:Int))else O ((e:Int),(a:Int)))=O ((q:Int),(p:Int))/\
   e<=q/\q<=p/\p<=a/\p<=c/\c+a<=m+q/\(q=e\/q+m=c+a)/\(p=a\/p=c):=by
  by_cases b:c<a
  ·refine⟨c+a - m,c,?_,C,C,C,du _,C, .inr C, .inr rfl⟩;rw[bN (show(a:Int)>(c:Int)by omega),aN,lS C C]
  ·refine⟨e,a,?_,du _,C,du _,C,C, .inl rfl, .inl rfl⟩;rw[bW (show ¬(a:Int)>(c:Int)by omega),aR]
 obtain⟨q,p,b,s,S,s,s,s,P,Q⟩:=k;rw[b,w];dsimp only;obtain⟨b,L,o,n,F,s⟩:=Od (N:=N) (lo:=q) (hi:=p) (body:=λ(k:Int×Int)=>(bif k.1<k.2 then(D (A (j++f++g++h)<|wrap .i64<|((c+a - 1:Nat):Int) -(wrap .i64<|Int.fdiv (wrap .u64<|wrap .i64<|k.1+k.2) 2)) λv=>D (A (j++f++g++h)<|wrap .i64<|Int.fdiv (wrap .u64<|wrap .i64<|k.1+k.2) 2) λTg=>D (φ v Tg) λv=>D (bif(!(decide<|v<0))then O (wrap .i64<|wrap .i64 (Int.fdiv (wrap .u64<|wrap .i64<|k.1+k.2) 2)+1,k.2)else O (k.1,wrap .i64<|Int.fdiv (wrap .u64<|wrap .i64<|k.1+k.2) 2)) λv=>O<|.nx (v.1,v.2))else(O<|.br (k.1,k.2)):aP (Fl (Int×Int) Empty)))
  (λi=>match f[i - e]?,g[c+a - 1 - i - a]? with|some x,O y=> !Fu cf y x|_,_=>aK) (λb k o n F s=>by
   have v:f[b - e]? =O (f[b - e]' C):=aM _;have B:f[k - e]? =O (f[k - e]' C):=aM _;have I:g[c+a - 1 - b - a]? =O (g[c+a - 1 - b - a]' C):=aM _;have J:g[c+a - 1 - k - a]? =O (g[c+a - 1 - k - a]' C):=aM _;rw[B,J]at s;rw[v,I];dsimp only at s ⊢
   by_cases v:b=k
   ·subst v;exact s
   ·have B:=i.asks _ (cH (l:=f) (n:=k - e) C) _<|cH (l:=g) (n:=c+a - 1 - k - a) C
    have J:=i.asks _ (cH (l:=f) (n:=b - e) C) _<|cH (l:=g) (n:=c+a - 1 - b - a) C
    have v:=B.f (by simpa using s);have B:=jW.1 i.l (b - e) (k - e) C C C;have I:=jW.1 i.r (c+a - 1 - k - a) (c+a - 1 - b - a) C C C;have k:=u _ _ _ B<|u _ _ _ v I
    cases v:Fu cf (g[c+a - 1 - b - a]' C) (f[b - e]' C)with
    |false=>rfl
    |true=>exact(l _ _ k (J.t v)).elim)
  (λk l o n F=>by
   dsimp only;have o:q<=(k+l) / 2:=by omega
   have o:(k+l) / 2<p:=by omega
   rw[iB n,aN,JK C C,lS C C,bS (gy (c+a - 1 -(k+l) / 2) C C),w,bS (K ((k+l) / 2) C C),w,t,w,
    aM (show(k+l) / 2 - e<Z f by omega),aM (show c+a - 1 -(k+l) / 2 - a<Z g by omega)]
   show Option.bind (bif !Fu cf _ _ then _ else _) _=_
   cases n:Fu cf (g[c+a - 1 -(k+l) / 2 - a]' C) (f[(k+l) / 2 - e]' C)with
   |false=>rw[lU,aN,w,bM C];simp only[n,lU,if_true]
   |true=>rw[iL,aR,w];simp only[n,iL,Bool.false_eq_true,if_false])
  (λk=>by dsimp only;rw[nG,aR]) S C
 rw[L,w];unfold Fo.cs;dsimp only;rw[lS (n:=c+a) (m:=b) C C];generalize I:f.take (b - e)=o;generalize J:f.drop (b - e)=l;generalize K:g.take (c - b)=n;generalize L:g.drop (c - b)=k;have v:o++l=f:=by rw[<-I,<-J,List.take_append_drop]
 have B:n++k=g:=by rw[<-K,<-L,List.take_append_drop]
 have t:Z o=b - e:=by rw[<-I,cQ];omega
 have t:Z l=a - b:=by rw[<-J,iz];omega
 have t:Z n=c - b:=by rw[<-K,cQ];omega
 have t:Z k=m+b - c - a:=by rw[<-L,iz];omega
 have U:(bif decide (((b:Nat):Int)<(a:Int))&&decide ((a:Int)<((c+a - b:Nat):Int))then(D (g8 N (j++f++g++h) ((b:Nat):Int) (a:Int) ((c+a - b:Nat):Int) φ) λt=>O t)else O (j++f++g++h))=O (j++o++n++(l++k++h)):=by
  by_cases S:b<a/\b<c
  ·rw[bN (show((b:Nat):Int)<(a:Int)by omega),bN (show(a:Int)<((c+a - b:Nat):Int)by omega),Bool.and_true,aN]
   have:=ZG (N:=N) (φ:=φ) (P:=j++o) (X:=l) (Y:=n) (S:=k++h) (a:=b) (m:=a) (b:=c+a - b) (by rw[cK];omega) C C C C (by
    simp only[cK];omega) r
   rw[show j++o++l++n++(k++h)=j++f++g++h by rw[<-v,<-B];simp]at this;rw[this,w];congr 1;simp
  ·have t:(decide (((b:Nat):Int)<(a:Int))&&decide ((a:Int)<((c+a - b:Nat):Int)))=false:=by
    rw[Bool.and_eq_false_iff,decide_eq_false_iff_not,decide_eq_false_iff_not];omega
   rw[t,aR];congr 1;rw[<-v,<-B]
   by_cases V:b<a
   ·have:n= []:=List.length_eq_zero_iff.1 C;rw[this];simp
   ·have:l= []:=List.length_eq_zero_iff.1 C;rw[this];simp
 rw[U,w];have r:w9 R (Fu cf) (o++l) (n++k):=by rw[v,B];exact i
 have U:=TQ u r (by
  by_cases i:b=q
  ·rcases P with P|P
   ·exact .inl<|List.length_eq_zero_iff.1 C
   ·exact .inr<|.inl<|List.length_eq_zero_iff.1 C
  ·have:=F (b - 1) C C
   by_cases i:k= []
   ·exact .inr<|.inl i
   have q:0<Z k:=List.length_pos_iff.2 i;rw[aM (show b - 1 - e<Z f by omega),aM (show c+a - 1 -(b - 1) - a<Z g by omega)]at this;refine .inr<|.inr ⟨o.take<|b - e - 1,f[b - 1 - e]' C,g[c+a - 1 -(b - 1) - a]' C,k.drop 1,?_,?_,by simpa using this⟩
   ·rw[<-I,List.take_take,show min (b - e - 1) (b - e)=b - 1 - e by omega,show b - e=b - 1 - e+1 by omega,dQ C]
   ·rw[<-L,r6 (show c - b<Z g by omega),List.drop_succ_cons,List.drop_zero]
    congr 2;omega) (by
  by_cases i:b=p
  ·rcases Q with Q|Q
   ·exact .inr<|.inl<|List.length_eq_zero_iff.1 C
   ·exact .inl<|List.length_eq_zero_iff.1 C
  ·have:=s b (du _) C;rw[aM (show b - e<Z f by omega),aM (show c+a - 1 - b - a<Z g by omega)]at this;refine .inr<|.inr ⟨n.take<|c - b - 1,g[c+a - 1 - b - a]' C,f[b - e]' C,l.drop 1,?_,?_,by simpa using this⟩
   ·rw[<-K,List.take_take,show min (c - b - 1) (c - b)=c+a - 1 - b - a by omega,show c - b=c+a - 1 - b - a+1 by omega,dQ C]
   ·rw[<-J,r6 (show b - e<Z f by omega),List.drop_succ_cons,List.drop_zero])
 have p:∃f,(bif decide ((e:Int)<((b:Nat):Int))&&decide (((b:Nat):Int)<(c:Int))then(D (E (j++o++n++(l++k++h)) (e:Int) ((b:Nat):Int) (c:Int) φ) λg=>O g)else O (j++o++n++(l++k++h)))=O (j++f++(l++k++h))/\Js R o n f:=by
  by_cases S:e<b/\b<c
  ·rw[bN (show(e:Int)<((b:Nat):Int)by omega),bN (show((b:Nat):Int)<(c:Int)by omega),Bool.and_true,aN]
   obtain⟨f,g,i⟩:=T j o n (l++k++h) e b c M C C C C C r.left (by
    simp only[cK];omega)
   exact⟨f,by rw[g,w],i⟩
  ·have t:(decide ((e:Int)<((b:Nat):Int))&&decide (((b:Nat):Int)<(c:Int)))=false:=by
    rw[Bool.and_eq_false_iff,decide_eq_false_iff_not,decide_eq_false_iff_not];omega
   rw[t,aR];refine⟨o++n,G,?_⟩
   by_cases q:e<b
   ·have:n= []:=List.length_eq_zero_iff.1 C;subst this;rw[kY];exact Js.YU r.left.l
   ·have:o= []:=List.length_eq_zero_iff.1 C;subst this;exact Js.YT r.left.r
 obtain⟨f,o,n⟩:=p;rw[o,w];have o:Z f=c - e:=by rw[n.perm.length_eq,cK];omega
 have o:∃e,(bif decide ((c:Int)<((c+a - b:Nat):Int))&&decide (((c+a - b:Nat):Int)<(m:Int))then(D (E (j++f++(l++k++h)) (c:Int) ((c+a - b:Nat):Int) (m:Int) φ) λp=>O p)else O (j++f++(l++k++h)))=O (j++(f++e)++h)/\Js R l k e:=by
  by_cases S:b<a/\c+a<m+b
  ·rw[bN (show(c:Int)<((c+a - b:Nat):Int)by omega),bN (show((c+a - b:Nat):Int)<(m:Int)by omega),Bool.and_true,aN]
   obtain⟨e,g,i⟩:=T (j++f) l k h c (c+a - b) m (by rw[cK];omega) C C C C C r.right (by
    simp only[cK];omega)
   rw[show j++f++l++k++h=j++f++(l++k++h)by simp]at g;exact⟨e,by rw[g,w];simp,i⟩
  ·have t:(decide ((c:Int)<((c+a - b:Nat):Int))&&decide (((c+a - b:Nat):Int)<(m:Int)))=false:=by
    rw[Bool.and_eq_false_iff,decide_eq_false_iff_not,decide_eq_false_iff_not];omega
   rw[t,aR];refine⟨l++k,G,?_⟩
   by_cases V:b<a
   ·have:k= []:=List.length_eq_zero_iff.1 C;subst this;rw[kY];exact Js.YU r.right.l
   ·have:l= []:=List.length_eq_zero_iff.1 C;subst this;exact Js.YT r.right.r
 obtain⟨e,a,b⟩:=o;rw[a,w];refine⟨f++e,rfl,?_⟩;have:=Js.both U n b;rw[v,B]at this;exact this
def YV(c:∀x y,φ x y=O (cf x y))(e:∀x y z,R x y->R y z->R x z)(a:∀x y,R x y->R y x->False)(b:nq N):∀d,VY N φ cf R (jF N d) d
 | 0=>λf f f f f f f _ _ _ f f f=>by omega
 |d+1=>VZ c e a (YV c e a b d) b
def V0(i:∀x y,φ x y=O (cf x y))(j:∀x y z,R x y->R y z->R x z)(d:∀x y,R x y->R y x->False)(e:nq N){P X Y S:aG aC}{a m b:Nat}(f:Z P=a)(hm:a+Z X=m)(g:m+Z Y=b)(hx:0<Z X)(hy:0<Z Y)
  (h:w9 R (Fu cf) X Y) (hl:Z (P++X++Y++S)<=1073741824):∃c,fB N (P++X++Y++S) (a:Int) (m:Int) (b:Int) φ=O (P++c++S)/\Js R X Y c:=
 YV i j d e N P X Y S a m b f hm g hx hy H h hl
end
section
variable {N:Nat}{φ:aC->aC->aP Int}{cf:aC->aC->Int}{R:aC->aC->Prop}
def wD(R:aC->aC->Prop)(cf:aC->aC->Int)(X Y:aG aC):Prop:=∀x∈X,∀y∈Y,DV R (Fu cf) x y
def Me(R:aC->aC->Prop)(n:Nat)(F:aG (aG aC)):Prop:=∀a∈F,Z a=n/\a.Pairwise R
def Me.len{n:Nat}:∀{F:aG (aG aC)},Me R n F->Z F.flatten=Z F*n
 | [],_=>by simp
 |b::F,a=>by
  have c:=(a b G).1;have d:=Me.len (F:=F)<|λb e=>a b (by simp[e])
  rw[List.flatten_cons,cK,c,d,eK,Nat.succ_mul];omega
structure JT (R:aC->aC->Prop) (cf:aC->aC->Int) (L:aG aC) (n:Nat) (D:aG aC):Prop where
 perm:D.Perm L
 ex:∃F t,D=F.flatten++t/\Me R n F/\Z t<n/\t.Pairwise R/\(F++[t]).Pairwise (wD R cf)
def wD.Ry{X Y a:aG aC}(h:wD R cf X Y)(b:a.Perm Y):wD R cf X a:=λd a e c=>h d a e<|b.mem_iff.1 c
def wD.V1{X Y a:aG aC}(h:wD R cf X Y)(b:a.Perm X):wD R cf a Y:=λd a e c=>h d (b.mem_iff.1 a) e c
def wD.YW{X Y a:aG aC}(h1:wD R cf X Y)(h2:wD R cf X a):wD R cf X (Y++a):=λc b d a=>by
 rcases dS.1 a with a|a
 ·exact h1 c b d a
 ·exact h2 c b d a
def wD.acJ{X Y a:aG aC}(h1:wD R cf X a)(h2:wD R cf Y a):wD R cf (X++Y) a:=λc a d b=>by
 rcases dS.1 a with a|a
 ·exact h1 c a d b
 ·exact h2 c a d b
def V2{X:aG aC}(h:X.Pairwise (DV R<|Fu cf))(n:Nat):(X.take n).Pairwise (DV R<|Fu cf)/\(X.drop n).Pairwise (DV R<|Fu cf)/\wD R cf (X.take n) (X.drop n):=by
 rw[<-List.take_append_drop n X,fZ]at h;exact⟨h.1,h.2.1,h.2.2⟩
def V3(E:∀x y,φ x y=O (cf x y))(M:∀x y z,R x y->R y z->R x z){L:aG aC}(t:L.Pairwise (DV R<|Fu cf))(hl:Z L<=268435456)(u:nq N):
  Ok (gh (λ(c:aG aC×Int×Int)=>(bif decide (c.2.2<=(Z L:Int))then(D (dN N c.1 c.2.1 c.2.2 φ) λP=>O<|.nx (P,c.2.2,wrap .i64<|c.2.2+20))else(O<|.br (c.1,c.2.1,c.2.2)):aP (Fl (aG aC×Int×Int) Empty))) N (L,0,20))
   (QN (λd=>∃(F:aG (aG aC))(X:aG aC),d.1=F.flatten++X/\d.2.1=((Z F.flatten:Nat):Int)/\Me R 20 F/\Z X<20/\X.Pairwise (DV R<|Fu cf)/\(F++[X]).Pairwise (wD R cf)/\d.1.Perm L)<|λ_=>False):=by
 refine od (λd=>∃(F:aG (aG aC))(X:aG aC),d=(F.flatten++X,((Z F.flatten:Nat):Int),((Z F.flatten+20:Nat):Int))/\Me R 20 F/\X.Pairwise (DV R<|Fu cf)/\(F++[X]).Pairwise (wD R cf)/\(F.flatten++X).Perm L) (λd=>Z L+20 - d.2.2.toNat) ?_
  ⟨[],L,G,λe v=>by simp at v,t,G,G⟩ C
 rintro d⟨F,X,rfl,n,o,g,i⟩;dsimp only;have B:=i.length_eq;rw[cK]at B
 by_cases S:Z F.flatten+20<=Z L
 ·rw[bN (show((Z F.flatten+20:Nat):Int)<=(Z L:Int)by omega),aN];obtain⟨I,J,K⟩:=V2 o 20;obtain⟨e,q,h,Q⟩:=VX (N:=N) E M (P:=F.flatten) (X:=X.take 20) (S:=X.drop 20) (a:=Z F.flatten) (b:=Z F.flatten+20) rfl H I H u;rw[eM,List.take_append_drop]at q;have A:Z e=20:=by rw[h.length_eq,cQ];omega
  rw[q,w,show((Z F.flatten+20:Nat):Int)+20=((Z F.flatten+20+20:Nat):Int)by omega,wz C];have m:(F++[e]).flatten=F.flatten++e:=G
  have s:Z (F++[e]).flatten=Z F.flatten+20:=H
  rw[fZ]at g;refine fx ⟨⟨F++[e],X.drop 20,by rw[s,m],λb a=>?_,J,?_,?_⟩,H⟩
  ·rcases dS.1 a with a|a
   ·exact n b a
   ·rw[ng]at a;subst a;exact⟨A,Q⟩
  ·rw[fZ,fZ];have p:∀b∈F,wD R cf b X:=λb a=>g.2.2 b a X G;refine⟨⟨g.1,G,λb a r f=>?_⟩,G,λb a r f=>?_⟩
   ·rw[ng]at f;subst f;exact λy k l j=>p b a y k l<|List.mem_of_mem_take<|h.mem_iff.1 j
   ·rw[ng]at f;subst f
    rcases dS.1 a with a|a
    ·exact λy k l j=>p b a y k l<|List.mem_of_mem_drop j
    ·rw[ng]at a;subst a;exact K.V1 h
  ·rw[m,eM];refine List.Perm.trans ?_ i;refine List.Perm.append_left _ ?_;have:=h.append_right<|X.drop 20
   rwa[List.take_append_drop]at this
 ·rw[bW (show ¬((Z F.flatten+20:Nat):Int)<=(Z L:Int)by omega),aR];exact ga ⟨F,X,rfl,rfl,n,C,o,g,i⟩
def V4(ae:∀x y,φ x y=O (cf x y))(tr:∀x y z,R x y->R y z->R x z)(W:∀x y,R x y->R y x->False){L V:aG aC}{n:Nat}(hn:0<n)(aw:n<=268435456)(h:JT R cf L n V)(hl:Z L<=268435456)(Y:nq N):
  Ok (D (gh (λ(f:aG aC×Int×Int)=>(bif decide (f.2.2<=(Z L:Int))then(D (fB N f.1 f.2.1 (wrap .i64<|f.2.1+(n:Int)) f.2.2 φ) λao=>O<|.nx (ao,f.2.2,wrap .i64<|f.2.2+((2*n:Nat):Int)))else(O<|.br (f.1,f.2.1,f.2.2)):aP (Fl (aG aC×Int×Int) Empty))) N (V,0,((2*n:Nat):Int))) λam=>am.cs (λ(f:aG aC×Int×Int)=>D (bif decide (wrap .i64 (f.2.1+(n:Int))<(Z L:Int))then(D (fB N f.1 f.2.1 (wrap .i64<|f.2.1+(n:Int)) (Z L:Int) φ) λap=>O ap)else O f.1) λan=>O an)<|λaf=>af.elim)
   (JT R cf L<|2*n):=by
 obtain⟨hp,ag,b,rfl,X,ht,ad,av⟩:=h;have ai:=hp.length_eq;rw[cK,X.len]at ai
 refine v (od (λt=>∃(a c:aG (aG aC)),t=(a.flatten++c.flatten++b,(Z a.flatten:Int),((Z a.flatten+2*n:Nat):Int))/\Me R (2*n) a/\Me R n c/\(a++(c++[b])).Pairwise (wD R cf)/\(a.flatten++c.flatten++b).Perm L)
  (λt=>Z L+2*n - t.2.2.toNat) (Go:=λt=>∃(a c:aG (aG aC)),t.1=a.flatten++c.flatten++b/\t.2.1=(Z a.flatten:Int)/\Me R (2*n) a/\Me R n c/\Z c<=1/\(a++(c++[b])).Pairwise (wD R cf)/\(a.flatten++c.flatten++b).Perm L) (Rt:=λ_=>False) ?_
  ⟨[],ag,G,λk hZ=>by simp at hZ,X,H,H⟩ C) ?_
 ·rintro t⟨a,c,rfl,J,l,M,s⟩;dsimp only;have p:=s.length_eq;rw[cK,cK,l.len]at p
  by_cases h:Z a.flatten+2*n<=Z L
  ·rw[bN (show((Z a.flatten+2*n:Nat):Int)<=(Z L:Int)by omega),aN];have I:2<=Z c:=by
    rcases Nat.lt_or_ge (Z c) 2 with r|r
    ·have:Z c*n<=1*n:=Nat.mul_le_mul_right n C;omega
    ·exact r
   obtain⟨d,g,i,rfl⟩:∃d g i,c=d::g::i:=by
    match c,I with
    |d::g::i,_=>exact⟨d,g,i,rfl⟩
   have K:=l d G;have U:=l g G;have m:=fZ.1 M;have F:(d::(g::(i++[b]))).Pairwise (wD R cf):=m.2.1;rw[lz,lz]at F;rw[ed C];obtain⟨k,P,q⟩:=V0 (N:=N) ae tr W Y (P:=a.flatten) (X:=d) (Y:=g) (S:=i.flatten++b) (a:=Z a.flatten) (m:=Z a.flatten+n) (b:=Z a.flatten+2*n) rfl C C C C
    ⟨K.2,U.2,F.1 g G⟩ (by
     have:Z (a.flatten++d++g++(i.flatten++b))=Z L:=by rw[<-s.length_eq];congr 1;simp
     omega)
   rw[show a.flatten++(d::g::i).flatten++b=a.flatten++d++g++(i.flatten++b)by simp,P,w,ed C];have aa:Z k=2*n:=by rw[q.perm.length_eq,cK];omega
   have Q:(a++[k]).flatten=a.flatten++k:=G
   have e2:Z (a++[k]).flatten=Z a.flatten+2*n:=by rw[Q,cK,aa]
   refine fx ⟨⟨a++[k],i,by rw[e2,Q,<-eM],λj e=>?_,λj e=>l j (by simp[e]),?_,?_⟩,by simp only[cN];omega⟩
   ·rcases dS.1 e with e|e
    ·exact J j e
    ·rw[ng]at e;subst e;exact⟨aa,q.sorted⟩
   ·rw[eM,fZ];refine⟨m.1,?_,λu B j e=>?_⟩
    ·show(k::(i++[b])).Pairwise (wD R cf);rw[lz];exact⟨λj e=>((F.1 j<|ku _ e).acJ<|F.2.1 j e).V1 q.perm,F.2.2⟩
    ·have T:j=k\/j∈i++[b]:=by simpa using e
     rcases T with rfl|T
     ·exact((m.2.2 u B d G).YW<|m.2.2 u B g G).Ry q.perm
     ·exact m.2.2 u B j (by
       have:=dS.1 T;simp only[List.cons_append,eO,dS]
       rcases this with h|h
       ·exact .inr<|.inr<|.inl h
       ·exact .inr (.inr (.inr (by simpa using h))))
   ·refine List.Perm.trans ?_ s;rw[Q,eM,eM,eM,List.flatten_cons,List.flatten_cons,eM,eM];refine List.Perm.append_left _ ?_;have:=q.perm.append_right<|i.flatten++b
    rwa[eM]at this
  ·rw[bW (show ¬((Z a.flatten+2*n:Nat):Int)<=(Z L:Int)by omega),aR];refine ga ⟨a,c,rfl,rfl,J,l,?_,M,s⟩
   rcases Nat.lt_or_ge (Z c) 2 with r|r
   ·omega
   ·have:2*n<=Z c*n:=Nat.mul_le_mul_right n r;omega
 ·intro ax ho;refine gf ho ?_<|λaf h=>h.elim
  rintro⟨aq,ar,au⟩⟨a,c,hT,ha,J,l,S,M,s⟩;dsimp only at hT ha ⊢;subst hT;subst ha;have p:=s.length_eq;rw[cK,cK,l.len]at p;rw[ed C];have m:=fZ.1 M;have A:∀E:aG aC,E.Perm (c.flatten++b)->E.Pairwise R->Z E<2*n->JT R cf L (2*n) (a.flatten++E):=λE I r h4=>by
   refine⟨List.Perm.trans ?_ s,a,E,rfl,J,h4,r,?_⟩
   ·rw[eM];exact List.Perm.append_left _ I
   ·rw[fZ];refine⟨m.1,G,λu B j e=>?_⟩;rw[ng]at e;subst e;refine wD.Ry (wD.YW (λx hx y hy=>?_)<|m.2.2 u B b G) I;obtain⟨g,U,al⟩:=List.mem_flatten.1 hy;exact m.2.2 u B g (by simp[U]) x hx y al
  match c,S,l,m.2.1,A,p with
  | [],_,_,_,A,p=>
   rw[AO (by simp only[List.length_nil,Nat.zero_mul]at p;omega),aR,w];refine o ?_;have:=A b G ad C;simpa using this
  | [d],_,l,ak,A,p=>
   have K:=l d G;simp only[eK,List.length_nil,kx,Nat.one_mul]at p
   by_cases ab:b= []
   ·subst ab;rw[AO (by simp only[List.length_nil]at p;omega),aR,w];refine o ?_;have:=A d G K.2 C;simpa using this
   ·have aj:0<Z b:=List.length_pos_iff.2 ab;rw[iB (show Z a.flatten+n<Z L by omega),aN];have ah:wD R cf d b:=(lz.1 ak).1 b G;obtain⟨k,P,q⟩:=V0 (N:=N) ae tr W Y (P:=a.flatten) (X:=d) (Y:=b) (S:=[]) (a:=Z a.flatten) (m:=Z a.flatten+n) (b:=Z L) rfl C C C aj
     ⟨K.2,ad,ah⟩ (by simp only[kY,cK];omega)
    rw[kY,kY]at P;rw[show a.flatten++[d].flatten++b=a.flatten++d++b by simp,P,w,w];exact o<|A k (by simpa using q.perm) q.sorted (by rw[q.perm.length_eq,cK];omega)
  |_::_::_,S,_,_,_,_=>simp only[eK]at S;omega
def Mf(s:∀x y,φ x y=O (cf x y))(A:∀x y z,R x y->R y z->R x z)(U:∀x y,R x y->R y x->False){L:aG aC}(hA:L.Pairwise (DV R<|Fu cf))(hl:Z L<=134217728)(n:nq N):
  ∃b,fL N L φ=O b/\b.Perm L/\b.Pairwise R:=by
 have ag:Ok (fL N L φ) (λb=>b.Perm L/\b.Pairwise R):=by
  unfold fL kZ;refine v (P:=λb=>b.Perm L/\b.Pairwise R) ?_<|λb f=>o f
  refine v (V3 s A hA C n) ?_;intro t q;refine gf q ?_<|λu f=>f.elim
  rintro⟨F,ak,al⟩⟨e,l,M,Q,j,aa,p,m,r⟩;dsimp only at M Q r ⊢;subst M;subst Q;have ad:=r.length_eq;rw[cK]at ad;obtain⟨H,S,E,z3⟩:=VX (N:=N) s A (P:=e.flatten) (X:=l) (S:=[]) (a:=Z e.flatten) (b:=Z L) rfl C p (by simp only[kY,cK];omega) n;rw[kY,kY]at S;rw[S,w];have g:JT R cf L 20 (e.flatten++H):=by
   refine⟨(List.Perm.append_left _ E).trans r,e,H,rfl,j,by rw[E.length_eq];exact aa,z3,?_⟩;rw[fZ]at m ⊢;refine⟨m.1,G,λT hU aj P=>?_⟩;rw[ng]at P;subst P;exact(m.2.2 T hU l G).Ry E
  refine v (od (λd=>∃a:Nat,d.2=(a:Int)/\0<a/\a<=268435456/\JT R cf L a d.1) (λd=>Z L+20 - d.2.toNat) (Go:=λd=>d.1.Perm L/\d.1.Pairwise R) (Rt:=λ_=>False) ?_ ⟨20,rfl,C,C,g⟩ (by dsimp only;omega)) ?_
  ·rintro⟨F,an⟩⟨a,I,hn,ae,g⟩;dsimp only at I g ⊢;subst I
   by_cases f:a<Z L
   ·rw[iB f,aN,show(2:Int)*(a:Int)=((2*a:Nat):Int)by omega,wz C];have hm:=V4 s A U hn ae g C n;obtain⟨b,h,V⟩:=hm
    refine Ok.mono (P:=λJ=>J = .nx (b,((2*a:Nat):Int))) ?_ (λJ ab=>by
     subst ab
     exact⟨⟨2*a,rfl,C,C,V⟩,by simp only[cN];omega⟩)
    cases K:(gh (λ(c:aG aC×Int×Int)=>(bif decide (c.2.2<=(Z L:Int))then(D (fB N c.1 c.2.1 (wrap .i64<|c.2.1+(a:Int)) c.2.2 φ) λai=>O<|.nx (ai,c.2.2,wrap .i64<|c.2.2+((2*a:Nat):Int)))else(O<|.br (c.1,c.2.1,c.2.2)):aP (Fl (aG aC×Int×Int) Empty))) N (F,0,((2*a:Nat):Int)))with
    |none=>rw[K]at h;cases h
    |some t=>
     rw[K,w]at h;rw[w]
     cases t with
     |rt u=>exact u.elim
     |go d=>
      unfold Fo.cs at h ⊢;dsimp only at h ⊢;obtain⟨x,x1,B⟩:=bd h;injection B with B
      subst B;rw[x1,w,show(a:Int)*2=((2*a:Nat):Int)by omega,wz C];exact⟨_,rfl,rfl⟩
   ·rw[AO C,aR];refine ga ⟨g.perm,?_⟩;obtain⟨e,ah,i,j,ht,af,am⟩:=g.ex;dsimp only;have k:=g.perm.length_eq;rw[i,cK,j.len]at k
    match e,i,j,k with
    | [],i,_,_=>rw[i];simpa using af
    | [l],i,j,k=>
     have p:=j l G;simp only[eK,List.length_nil,kx,Nat.one_mul]at k;have:ah= []:=List.length_eq_zero_iff.1 C;subst this;rw[i];simpa using p.2
    |_::_::e,_,_,k=>
     have:2*a<=(Z e+1+1)*a:=Nat.mul_le_mul_right a C;simp only[eK]at k;omega
  ·intro t q;exact gf q (λd hs=>o hs)<|λu f=>f.elim
 obtain⟨b,W,X,Y⟩:=ag;exact⟨b,W,X,Y⟩
end
end Go.Gk
namespace Go.Gk
open Go IntKind Classical
section
variable {α:Type}[DecidableEq α]{N:Nat}
def YX(N:Nat)(p0 p1:aG α):aP Bool:=
 bif(Z p0:Int) != (Z p1:Int)then O aK else(D (gh (λ(a:Int)=>(bif decide (a<(Z p0:Int))then(D (A p0 a) λc=>D (A p1 a) λd=>bif(!(decide<|c=d))then O (.rt aK)else O (.nx<|wrap .i64<|a+1))else(O<|.br a):aP (Fl Int Bool))) N 0) λb=>b.cs (λ(a:Int)=>O aA)<|λr=>O r)
def P9{l m:aG α}(hl:Z l<=1099511627776)(a:nq N):YX N l m=O (decide<|l=m):=by
 refine l_ ?_;unfold YX
 by_cases a:Z l=Z m
 ·rw[show((Z l:Int) != (Z m:Int))=aK by rw[a];simp,aR];refine v (kg (n:=Z l) (λc=>c) (λb c=>∀a,a<b->l[a]? =m[a]?) (Go:=λc=>l=m) (Rt:=λe=>e=aK/\l≠m) ?_ ?_ (cT _) rfl (λa d=>C) C) ?_
  ·rintro b h g d f;subst d;have i:l[b]? =O l[b]:=aM g
   grind [aM,iB,fy,p5,fx,bM]
  ·rintro h d f;subst d;rw[nG,aR];refine ga<|List.ext_getElem? λa=>?_
   grind
  intro a a;exact gf a (λc a=>o (bN a).symm)<|λe a=>o H
 grind [o,bW]
end
section
variable {N:Nat}
def Oe{l m:aG z}(hl:Z l<=1099511627776)(a:nq N):lZ N l m=O (decide<|l=m):=P9 hl a
def Of{l m:aG aI}(hl:Z l<=1099511627776)(a:nq N):lY N l m=O (decide<|l=m):=P9 hl a
def ED(b:aU):Bd:=⟨b.from_,b.to,eH<|b.mm.map sp⟩
def TT{l:aG (Int×Int)}:eH l= []↔l= []:=by
 cases l with
 |nil=>exact⟨λ_=>rfl,λ_=>rfl⟩
 |cons a l=>exact⟨λa=>(by cases a),λa=>(by cases a)⟩
def TU{l m:aG aI}:eH (l.map sp)=eH (m.map sp)↔l=m:=by grind [VU,MN]
def Rz{l:aG aU}{b:aU}(t:b.from_<b.to)(hl:Z l<=1073741824)(u:∀c∈l,Z c.mm<=1099511627776)(j:nq N):
  Ok (iF N l b) (λs=>s.map ED=mb (l.map ED) (ED b)):=by
 unfold iF mb
 by_cases f:b.mm= []
 ·rw[show((Z b.mm:Int)==0)=aA by rw[f];rfl,aN,aL<|.inl (by unfold ED;rw[f];rfl)];exact o rfl
 ·rw[show((Z b.mm:Int)==0)=aK by simp_all,aR];have q:¬((ED b).xs= []\/(ED b).y1<=(ED b).y0):=by
   rintro(a|a)
   ·have a:=TT.1 a
    simp_all
   ·have a:b.to<=b.from_:=a;omega
  rw[aJ q]
  rcases List.eq_nil_or_concat l with rfl|⟨d,c,h⟩
  ·grind [decide,w,li,o]
  ·rw[List.concat_eq_append]at h;subst h;have p:Z (d++[c])=Z d+1:=G
   have r:wrap .i64 (((Z (d++[c]):Nat):Int) - 1)=(Z d:Int):=by grind [KG]
   have n:(d++[c])[Z d]? =O c:=G
   rw[r,bN C,aN,bS n,w,w,Of H j,w,w,cN];have m:((d++[c]).map ED).getLast? =O (ED c):=G
   have k:((d++[c]).map ED).dropLast=d.map ED:=G
   rw[m,k];dsimp only
   by_cases g:c.to=b.from_/\c.mm=b.mm
   ·grind [ED,bN,w,o,List.set_append_right]
   ·rw[aJ (show ¬((ED c).y1=(ED b).y0/\(ED c).xs=(ED b).xs)from λa=>g ⟨a.1,TU.1 a.2⟩)];have i:(bif c.to==b.from_ then O (decide<|c.mm=b.mm)else O aK)=O false:=by
     by_cases e:c.to=b.from_
     ·rw[show(c.to==b.from_)=aA by rw[e];simp,aN,bW<|λa=>g ⟨e,a⟩]
     ·rw[show(c.to==b.from_)=aK by simpa using e,aR]
    rw[i,w,aR];exact li (by rw[p];simp;omega)<|o G
def V5{s:aG Bd}{b c:Bd}(h:c∈mb s b):c.xs=b.xs\/∃d∈s,c.xs=d.xs:=by
 grind [mb,List.dropLast_subset,List.mem_of_getLast?]
def xI{f:Int->aG Int}{B:Nat}(g:∀y,Z (f y)<=B):∀(d:aG (Int×Int))(a:aG Bd),(∀c∈a,Z c.xs<=B)->(∀c∈qT f d a,Z c.xs<=B)/\Z (qT f d a)<=Z a+Z d
 | [],a,e=>⟨e,by simp[qT]⟩
 |b::d,a,e=>by
  obtain⟨e,h⟩:=xI g d (mb a ⟨b.1,b.2,f b.1⟩) (λc g=>by
   rcases V5 g with g|⟨h,h,g⟩
   ·grind
   grind)
  refine⟨e,?_⟩;have:=TD a ⟨b.1,b.2,f b.1⟩;show Z (qT f d<|mb a ⟨b.1,b.2,f b.1⟩)<=_;rw[eK];omega
theorem tA:∀(ys:aG Int),Z (nE ys)=Z ys - 1
 | []=>rfl
 | [_]=>rfl
 |c::a::b=>by
  show Z (nE<|a::b)+1=_;rw[tA<|a::b];simp
def Le:∀(ys:aG Int)(k:Nat)(h:k+1<Z ys),(nE ys)[k]? =O (ys[k],ys[k+1])
 | [],k,h=>by simp at h
 | [_],k,h=>by simp at h
 |c::a::b,0,h=>rfl
 |c::a::b,k+1,h=>by
  have:=Le (a::b) k H;show(nE<|a::b)[k]? =_;rw[this];rfl
theorem Qa(f:Int->aG Int)(b:aG (Int×Int))(s:Int×Int)(a:aG Bd):qT f (b++[s]) a=mb (qT f b a) ⟨s.1,s.2,f s.1⟩:=by simp[qT,List.foldl_append]
def Lg{ys:aG Int}(hy:lF ys){f:Int->aG Int}{B:Nat}(b:∀y,Z (f y)<=B)(a:B<=1099511627776)(a:Z ys<=1073741824){a:aG aU}{k:Nat}(h1:1<=k)(c:k<Z ys)
  (d:a.map ED=qT f ((nE ys).take<|k - 1) []) {r:aG aI} (hr:eH (r.map sp)=f (ys[k - 1]' C)) (e:nq N):
  Ok (iF N a ⟨ys[k - 1]' C,ys[k],r⟩) (λd=>d.map ED=qT f ((nE ys).take k) []):=by
 have g:ys[k - 1]' C<ys[k]:=jW.1 hy (k - 1) k C c C;obtain⟨h,c⟩:=xI b ((nE ys).take<|k - 1) [] (λb c=>by cases c);have i:Z a<=Z ys:=H
 refine(Rz g C (λb c=>?_) e).mono λd a=>?_
 ·have a:Z (ED b).xs<=B:=h _ H
  grind [ED,mN,dR]
 ·have a:=Le ys (k - 1) C
  grind [nE,tA,dQ,aM,Qa,ED]
def yI(b:aU):aG z:=b.mm.map λs=>⟨s.from_,b.from_,s.to,b.to⟩
def sS(l:aG aU):aG z:=l.flatMap yI
def Qb:∀(l:aG (Int×Int)),KJ (eH l)=l
 | []=>rfl
 |a::l=>by rw[ml];show(a.1,a.2)::KJ (eH l)=_;rw[Qb l]
def Ig:∀{l:aG aU}{s:aG aB},l.map ED=s.map cS->sS l=bF s
 | [],[],_=>rfl
 | [],_::_,a=>by cases a
 |_::_,[],a=>by cases a
 |c::l,d::s,a=>by
  rw[gQ,gQ]at a;injection a with b i
  have e:=Ig i;show yI c++sS l=rW d++bF s;rw[e];congr 1;unfold ED cS at b;injection b with f g h
  unfold yI rW;rw[<-h,Qb,f,g,List.map_map];rfl
def Qc(l:aG aU)(b:aU):sS (l++[b])=sS l++yI b:=by simp[sS,List.flatMap_append]
def SS{l:aG aU}(hl:Z l<=1099511627776)(f:∀b∈l,Z b.mm<=1099511627776)(hr:Z (sS l)<=1099511627776)(a:nq N):ln N l=O (sS l):=by
 refine l_ ?_;unfold ln;refine v (kg (n:=Z l) (λc=>c.2) (λa c=>c.1=sS (l.take a)) (Go:=λc=>c.1=sS l) (Rt:=λ_=>False) ?_ ?_ (cT _) rfl rfl C) ?_
 ·rintro a⟨d,d⟩h d e;dsimp only at d e ⊢;subst d;subst e;rw[iB h,aN];have g:l[a]? =O l[a]:=aM h;have i:=f _<|cH h
  have i:sS (l.take<|a+1)=sS (l.take a)++yI l[a]:=by rw[dQ h,Qc]
  have h:Z (sS<|l.take a)+Z l[a].mm<=Z (sS l):=by
   grind [sS,cK,List.take_append_drop,yI,dR]
  refine v (kg (n:=Z l[a].mm) (λc=>c.2) (λh c=>c.1=sS (l.take a)++(yI l[a]).take h) (Go:=λc=>c.1=sS (l.take<|a+1)) (Rt:=λ_=>False) ?_ ?_ (cT _) rfl G C) ?_
  ·rintro h⟨i,i⟩i d e;dsimp only at d e ⊢;subst d;subst e;have d:l[a].mm[h]? =O l[a].mm[h]:=aM i;have e:h<Z (yI l[a]):=by grind [yI,dR]
   refine fy g ?_;rw[iB i,aN];refine fy g<|fy d<|fy g<|fy g<|fy d<|fy g<|li ?_<|fx ⟨bM C,?_⟩
   ·grind
   grind [eM,dQ,yI]
  ·grind [fy,ga,nR,yI,dR]
  intro d a;exact gf a (λc f=>fx ⟨bM C,f⟩)<|λe hr=>hr.elim
 ·simp[nG,aR,ga,fz]
 intro d a;exact gf a (λc f=>o f)<|λe hr=>hr.elim
theorem MW{l:aG z}{ys:aG Int}(hm:∀r∈l,r.Y0∈ys/\r.Y1∈ys){s:Int×Int}{y:Int}(b:s∈nE ys)(hy:lF ys)(h1:s.1<=y)(h2:y<s.2):qd l y=qd l s.1:=Rx λr a=>by
 obtain⟨c,d⟩:=hm r a;obtain⟨_,_,_,a⟩:=xO hy s b
 rcases a _ c with b|b <;> rcases a _ d with a|a <;> constructor <;> intro a <;> omega
def Og{l:aG z}{ys:aG Int}(hm:∀r∈l,r.Y0∈ys/\r.Y1∈ys){y:Int}(h:(∀c∈ys,y<c)\/(∀c∈ys,c<=y)):qd l y= []:=by grind [VV]
def Oh{l:aG z}:∀r∈l,r.Y0∈nz (lE l)/\r.Y1∈nz (lE l):=by grind [MU,rV]
def V6(l:aG z):Z (nz<|lE l)<=2*Z l:=by
 grind [AQ,lE,qu]
def B0{l:aG z}{s:aG aB}(hc:gC (s.map cS))(K:∀x y,CW (s.map cS) x y=zK l x y)(hl:Z l<=10000000)(w:∀r∈l,r.X0<r.X1)(hr:Z (bF s)<=1099511627776)(b:nq N):
  gM N l=O (bF s):=by
 refine l_ ?_;unfold gM;refine dy (Lb C b) ?_;have Q:=V6 l;have g:=sH<|lE l
 have u:∀y,lF (eH<|qd l y)/\Z (eH<|qd l y) % 2=0:=λy=>⟨(EB w y).1,by simp[mN]⟩;have i:∀y,Z (eH<|qd l y)<=20000000:=λy=>by grind [mN,AR]
 obtain⟨n,F⟩:=IJ (f:=λy=>eH<|qd l y) u g (λU B y q t=>by(try dsimp only);rw[MW Oh B g q t]) (λy p=>by(try dsimp only);rw[Og Oh p];rfl);have P:qT (λy=>eH<|qd l y) (nE<|nz<|lE l) []=s.map cS:=BR n hc λx y=>by
  grind [CW,AG,EB]
 have M:= @Oh l;generalize nz (lE l)=e at *;refine v (kg (n:=max 1 (Z e)) (λs=>s.2) (λc d=>1<=c/\d.1.map ED=qT (λy=>eH<|qd l y) ((nE e).take<|c - 1) []) (Go:=λd=>d.1.map ED=s.map cS) (Rt:=λ_=>False) ?_ ?_ (k0:=1) C rfl ⟨du _,rfl⟩ C) ?_
 ·rintro c⟨S,R⟩L a⟨j,h⟩;dsimp only at a h ⊢;subst a;have f:c<Z e:=C
  rw[iB f,aN,kn j C];refine oi C<|oi f<|oi C<|v (Ob C b) λr hr=>v (Lg g (f:=λy=>eH<|qd l y) i C C j f h H b) λD k=>fx ⟨bM C,C,?_⟩
  grind
 ·grind [AO,ga,nR,tA]
 intro D k;refine gf k (λd A=>?_)<|λr hr=>hr.elim
 have a:=Ig A;obtain⟨E,T⟩:=xI (f:=λy=>eH<|qd l y) i (nE e) [] (λG hc=>by cases hc);refine dy (SS (l:=d.1) ?_ ?_ H b)<|o a
 ·grind [ED,tA,List.length_nil,dR]
 ·intro m J;have I:=E (ED m) H
  grind [ED,mN,dR]
def zj(w:Int)(p q:Bool):Bool:=((((w==1)&&(p||q))||(((w==2)&&p)&&q))||(((w==3)&&p)&&(!q)))
def V7(w:Int):zj w aK aK=false:=by simp[zj]
def IU(jI:Bool->Bool->Bool)(a b d:aG (Int×Int))(s:Int×Int)(c:aG (Int×Int)):qS jI a b (d++[s]) c=if jI (lD a s.1) (lD b s.1)=aA then pY (qS jI a b d c) s else qS jI a b d c:=by simp[qS,List.foldl_append]
theorem F5(jI:Bool->Bool->Bool)(a b:aG (Int×Int)):∀(e c:aG (Int×Int)),Z (qS jI a b e c)<=Z c+Z e
 | [],c=>by simp[qS]
 |d::e,c=>by
  have f:=F5 jI a b e (if jI (lD a d.1) (lD b d.1)=aA then pY c d else c);have f:Z (if jI (lD a d.1) (lD b d.1)=aA then pY c d else c)<=Z c+1:=by
   split
   ·exact IP _ _
   ·omega
  show Z (qS jI a b e (if jI (lD a d.1) (lD b d.1)=aA then pY c d else c))<=_;rw[eK];omega
def IV(a b:aG (Int×Int)):aG Int:=nz<|eH a++eH b
theorem MX(a b:aG (Int×Int)):Z (IV a b)<=2*Z a+2*Z b:=by
 have:=AQ<|eH a++eH b
 rw[cK,mN,mN]at this;exact this
def V8{a b:aG aI}{w:Int}(c:Z a<=10000000)(q:Z b<=10000000)(m:nq N):
  Ok (mn N a b w) (λl=>l.map sp=qS (zj w) (a.map sp) (b.map sp) (nE<|IV (a.map sp)<|b.map sp) []):=by
 unfold mn;have i:∀(c:aG aI),Z (nz<|eH<|c.map sp)<=2*Z c:=λc=>by
  grind [AQ,eH,mN,dR]
 refine v (kg (n:=Z a) (λh=>h.2) (λc h=>h.1=nz (eH<|(a.take c).map sp)) (Go:=λh=>h.1=nz (eH<|a.map sp)) (Rt:=λ_=>False) ?_ ?_ (cT _) rfl rfl C) ?_
 ·rintro c⟨p,s⟩k g e;dsimp only at g e ⊢;subst g;subst e;rw[iB k,aN];have j:a[c]? =O a[c]:=aM k;have f:=i<|a.take c
  rw[cQ]at f;have u:=Hl (nz<|eH<|(a.take c).map sp) a[c].from_;refine fy j<|fy j<|dy (Ez (sH _) C m)<|dy (Ez (AP<|sH _) C m)<|fx ⟨bM C,?_⟩
  rw[dQ k,fY,BS];exact(DU _ _ _).symm
 ·simp[nG,aR,ga,fz]
 intro t n;refine gf n ?_<|λl i=>i.elim
 rintro⟨r,r⟩r;dsimp only at r ⊢;subst r;refine v (kg (n:=Z b) (λh=>h.2) (λc h=>h.1=nz (eH (a.map sp)++eH ((b.take c).map sp))) (Go:=λh=>h.1=IV (a.map sp) (b.map sp)) (Rt:=λ_=>False) ?_ ?_ (cT _) rfl (by simp[eH]) C) ?_
 ·rintro c⟨p,s⟩k g e;dsimp only at g e ⊢;subst g;subst e;rw[iB k,aN];have j:b[c]? =O b[c]:=aM k;have f:=AQ<|eH (a.map sp)++eH ((b.take c).map sp)
  rw[cK,mN,mN,dR,dR,cQ]at f;have u:=Hl (nz<|eH (a.map sp)++eH ((b.take c).map sp)) b[c].from_;refine fy j<|fy j<|dy (Ez (sH _) C m)<|dy (Ez (AP<|sH _) C m)<|fx ⟨bM C,?_⟩
  rw[dQ k,fY,BS,<-eM];exact(DU _ _ _).symm
 ·rintro⟨p,s⟩g e;dsimp only at g e ⊢;subst g;rw[nG,aR];exact ga (by rw[fz]at e;exact e)
 intro t n;refine gf n ?_<|λl i=>i.elim
 rintro⟨f,r⟩r;dsimp only at r ⊢;have u:=MX (a.map sp)<|b.map sp
 rw[<-r,dR,dR]at u;rw[<-r];clear r;refine v (kg (n:=max 1 (Z f)) (λh=>h.2) (λc d=>1<=c/\d.1.map sp=qS (zj w) (a.map sp) (b.map sp) ((nE f).take<|c - 1) []) (Go:=λd=>d.1.map sp=qS (zj w) (a.map sp) (b.map sp) (nE f) []) (Rt:=λ_=>False) ?_ ?_ (k0:=1) C rfl ⟨du _,rfl⟩ C) ?_
 ·rintro c⟨p,s⟩k g⟨k,e⟩;dsimp only at g e ⊢;subst g;have r:c<Z f:=C
  rw[iB r,aN,kn k C];have j:f[c - 1]? =O (f[c - 1]' C):=aM _;have u:f[c]? =O f[c]:=aM r;have r:=Le f (c - 1) C;have r:(nE f).take c=(nE f).take (c - 1)++[(f[c - 1]' C,f[c])]:=by
   grind [nE,tA,dQ,aM]
  have x:Z p<=Z f:=by
   grind [F5,zj,nE,dR,cQ,tA,List.length_nil]
  refine fy j<|fy j<|dy (Ie C m)<|dy (Ie C m) ?_
  refine v (P:=λl:aG aI=>l.map sp=qS (zj w) (a.map sp) (b.map sp) ((nE f).take c) []) (jn (λq=>?_)<|λq=>?_)<|λl i=>fx ⟨bM C,C,by rw[yY];exact i⟩
  ·refine fy j<|fy u<|v (MV C m)<|λl i=>o ?_
   rw[i,e,r,IU,aL (show zj w _ _=aA from q)];rfl
  ·refine o ?_;rw[e,r,IU,aJ (show ¬zj w _ _=aA by rw[mz];exact q)]
 ·rintro⟨p,s⟩g⟨k,e⟩;dsimp only at g e ⊢;subst g;rw[AO C,aR];refine ga ?_;rw[nR (by rw[tA];omega)]at e;exact e
 intro t n;exact gf n (λh c=>o c)<|λl i=>i.elim
def tS(w:Int)(a b:aG z)(y:Int):aG (Int×Int):=qS (zj w) (qd a y) (qd b y) (nE<|IV (qd a y)<|qd b y) []
def Qd(a b:aG (Int×Int)):wa a (IV a b)/\wa b (IV a b):=by
 constructor <;> intro d c <;> constructor <;> refine MU.2<|dS.2 ?_
 ·exact .inl<|List.mem_flatMap.2 ⟨d,c,G⟩
 ·exact .inl<|List.mem_flatMap.2 ⟨d,c,G⟩
 ·exact .inr<|List.mem_flatMap.2 ⟨d,c,G⟩
 ·exact .inr<|List.mem_flatMap.2 ⟨d,c,G⟩
theorem IW{a b:aG z}(c:∀r∈a,r.X0<r.X1)(c:∀r∈b,r.X0<r.X1)(w y:Int):lF (eH<|tS w a b y)/\∀x,lD (tS w a b y) x=zj w (zK a x y) (zK b x y):=by
 obtain⟨c,c⟩:=PK (jI:=zj w) (V7 w) (a:=qd a y) (b:=qd b y) (xs:=IV (qd a y)<|qd b y) (sH _) (Qd _ _).1 (Qd _ _).2
 grind [lD,tS,EB]
theorem RA(w:Int)(a b:aG z)(y:Int):Z (tS w a b y)<=2*Z a+2*Z b:=by
 grind [F5,zj,qd,nE,IV,MX,AR,tA,tS,List.length_nil]
def Qe{a b:aG z}{w:Int}{s:aG aB}(hc:gC (s.map cS))(c:∀x y,CW (s.map cS) x y=zj w (zK a x y) (zK b x y))(c:Z a<=10000000)(c:Z b<=10000000)
  (e:∀r∈a,r.X0<r.X1) (i:∀r∈b,r.X0<r.X1) (hr:Z (bF s)<=1099511627776) (f:nq N):jo N a b w=O (bF s):=by
 refine l_ ?_;unfold jo;refine li H<|li H ?_
 rw[List.nil_append];refine dy (Lb H f) ?_;have c:=V6<|a++b
 rw[cK]at c;have n:=sH<|lE<|a++b
 have c:= @Oh<|a++b
 have g:∀r∈a,r.Y0∈nz (lE<|a++b)/\r.Y1∈nz (lE<|a++b):=λr hr=>c r<|List.mem_append_left _ hr
 have h:∀r∈b,r.Y0∈nz (lE<|a++b)/\r.Y1∈nz (lE<|a++b):=λr hr=>c r<|List.mem_append_right _ hr
 have k:∀y,lF (eH<|tS w a b y)/\Z (eH<|tS w a b y) % 2=0:=λy=>⟨(IW e i w y).1,by simp[mN]⟩;have m:∀y,Z (eH<|tS w a b y)<=80000000:=λy=>by grind [mN,RA]
 obtain⟨j,e⟩:=IJ (f:=λy=>eH (tS w a b y)) k n (λe e y e e=>by grind [tS,MW]) (λy e=>by
  (try dsimp only);unfold tS;rw[Og g e,Og h e];rfl)
 have l:qT (λy=>eH<|tS w a b y) (nE<|nz<|lE<|a++b) []=s.map cS:=BR j hc λx y=>by
  grind [CW,AG,IW]
 clear c g h;generalize nz (lE<|a++b)=g at *;refine v (kg (n:=max 1 (Z g)) (λs=>s.2) (λh d=>1<=h/\d.1.map ED=qT (λy=>eH<|tS w a b y) ((nE g).take<|h - 1) []) (Go:=λd=>d.1.map ED=s.map cS) (Rt:=λ_=>False) ?_ ?_ (k0:=1) C rfl ⟨du _,rfl⟩ C) ?_
 ·rintro h⟨A,q⟩c c⟨j,e⟩;dsimp only at c e ⊢;subst c;have k:h<Z g:=C
  rw[iB k,aN,kn j C];refine oi C<|oi k<|oi C<|oi C<|v (Ob C f) λu h=>v (Ob C f) λB p=>?_
  have t:Z u<=10000000:=by grind [AR,dR]
  have u:Z B<=10000000:=by grind [AR,dR]
  refine v (V8 t u f) λr hr=>v (Lg n (f:=λy=>eH<|tS w a b y) m C C j k e (by(try dsimp only);rw[hr,h,p];rfl) f) λk h=>fx ⟨bM C,C,?_⟩;rw[yY];exact h
 ·rintro⟨A,q⟩c⟨j,e⟩;dsimp only at c e ⊢;subst c;rw[AO C,aR];refine ga ?_;rw[nR (by rw[tA];omega),l]at e;exact e
 intro k h;refine gf h (λd e=>?_)<|λr hr=>hr.elim
 have c:=Ig e;obtain⟨h,j⟩:=xI (f:=λy=>eH<|tS w a b y) m (nE g) [] (λk hc=>by cases hc);refine dy (SS (l:=d.1) ?_ ?_ (by rw[c];exact hr) f)<|o c
 ·have:Z (d.1.map ED)<=Z g:=by rw[e,<-l];have:=tA g;simp only[List.length_nil]at j;omega
  rw[dR]at this;omega
 ·intro b i;have c:=h (ED b) (by rw[l,<-e];exact dH.2 ⟨b,i,rfl⟩);have c:Z (ED b).xs=2*Z b.mm:=by unfold ED;rw[mN,dR]
  omega
def Oi(n:Int):dI N n=O (vc n):=rfl
def Lh{l:aG z}(hl:Z l<=1099511627776)(a:nq N):jR N l=O (qw l):=by
 refine l_ ?_;unfold jR qw
 by_cases a:2000<Z l
 ·grind [bN,o]
 ·rw[bW C,aR,aJ a];refine v (kg (n:=Z l) (λb=>b) (λa b=>∀(d:Nat)c,d<a->l[d]? =O c->pZ c=aQ) (Go:=λb=>l.findSome? pZ=aQ) (Rt:=λe=>l.findSome? pZ=O e) ?_ ?_ (cT _) rfl (λd c d=>C) C) ?_
  ·rintro a d d f g;subst f;rw[iB d,aN];have f:l[a]? =O l[a]:=aM d;have d:∀d,pZ l[a]=O d->l.findSome? pZ=O d:=λd d=>by
    rw[List.findSome?_eq_some_iff];refine⟨l.take a,l[a],l.drop<|a+1,?_,d,λc c=>?_⟩
    ·rw[List.getElem_cons_drop,List.take_append_drop]
    grind [dM,bR,cQ,List.getElem?_take_of_lt]
   refine fy f ?_;have c:(D (dI N l[a].X0) λc=>bif(!c)then O aA else(D (dI N l[a].Y0) λc=>bif(!c)then O aA else(D (dI N l[a].X1) λc=>bif(!c)then O aA else(D (dI N l[a].Y1) λc=>O<|!c))))=O (!dJ l[a]):=by
    rw[Oi,Oi,Oi,Oi];unfold dJ
    grind
   grind [dy,p5,fx,bM,pZ]
  ·grind [ga,List.findSome?_eq_none_iff,dM,bR]
  intro a a;exact gf a (λb a=>o (by rw[a];rfl))<|λe a=>o (by rw[a];rfl)
theorem RB{l:aG z}{s:aG aB}(a:yD l s):N5 l↔bF s=l:=⟨λ⟨d,b,c⟩=>by rw[a.unique b];exact c,λb=>⟨s,a,b⟩⟩
def Cs{l:aG z}(hl:Z l<=1073741824)(h:nq N):g9 N l=O (lu l):=by
 refine l_ ?_;unfold g9;refine dy (Lh C h) ?_;unfold lu;refine jn (λf=>o ?_)<|λf=>?_
 ·grind
 ·have a:qw l=0:=by simpa using f
  rw[aJ C];obtain⟨b,k⟩:=K0 a;have p:∀a b:z,((decide (a.Y0<b.Y0)||((a.Y0==b.Y0)&&decide (a.X0<b.X0)))=aA)↔¬(b.Y0<a.Y0\/(b.Y0=a.Y0/\b.X0<=a.X0)):=λa b=>H
  refine v (od (Go:=λ_=>Z3 l) (Rt:=λg=>g=8/\¬Z3 l) (λe=>∃c:Nat,e=(c:Int)/\1<=c/\∀(d:Nat)a b,d+1<c->l[d]? =O a->l[d+1]? =O b->¬(b.Y0<a.Y0\/(b.Y0=a.Y0/\b.X0<=a.X0))) (λe=>Z l - e.toNat) ?_ ⟨1,rfl,du _,λd a b q=>C⟩ (by simp;omega)) ?_
  ·rintro e⟨c,rfl,m,i⟩;refine jn (λf=>?_)<|λf=>ga λd a b j f=>i d a b ?_ j f
   ·have i:c<Z l:=H
    rw[kn m C];have m:l[c - 1]? =O (l[c - 1]' C):=aM _;have n:l[c]? =O l[c]:=aM i;refine fy m<|fy n ?_
    unfold ke;rw[w];refine jn (λf=>p5 ⟨rfl,λi=>?_⟩)<|λf=>fx ⟨⟨c+1,by grind [bM],C,λd a b q j a=>?_⟩,by grind [bM,cN]⟩
    ·have:=(p _ _).2<|i (c - 1) _ _ m (by rw[show c - 1+1=c by omega];exact n)
     grind
    grind
   grind
  ·rintro a a;refine gf a (λe i=>?_)<|λg b=>o H
   rw[aL i];obtain⟨e,_,a⟩:=vI (N:=N) (l:=l) C k C;obtain⟨c,c,c⟩:=a.PV;have c:2*Z l*(2*Z l)<=4000*4000:=Nat.mul_le_mul C C;refine dy (B0 a.can a.cover C (λg b=>(k g b).x) C h)<|dy (Oe C h) ?_
   grind [RB,o,bF]
end
def Hn:∀{xs:aG Int},lF xs->(KJ xs).Pairwise (λb a=>b.2<a.1)
 | [],_=>kW
 | [c],_=>kW
 |c::d::e,b=>by
  unfold KJ;rw[lz];exact⟨λa c=>b.tail.head a.1 (N0 a c).1,Hn b.tail.tail⟩
def DW(a b:z):Prop:=a.Y1<=b.Y0\/(a.Y0=b.Y0/\a.Y1=b.Y1/\a.X1<b.X0)
def xJ:∀{s:aG aB},gC (s.map cS)->(bF s).Pairwise DW
 | [],_=>kW
 |c::s,a=>by
  rw[rX,fZ];refine⟨?_,xJ a.tail,λb b d e=>?_⟩
  ·unfold rW;rw[List.pairwise_map];exact List.Pairwise.imp (λd=> .inr ⟨rfl,rfl,d⟩)<|Hn (a.each (cS c) G).2.2.1
  ·unfold rW at b;obtain⟨c,_,rfl⟩:=dH.1 b;obtain⟨b,c,d,_,rfl⟩:=xP e;exact .inl<|a.KD (cS b)<|dH.2 ⟨b,c,rfl⟩
def AU{s:aG aB}(h:gC (s.map cS)):∀r∈bF s,r.X0<r.X1/\r.Y0<r.Y1:=λr b=>by
 obtain⟨a,c,e,d,rfl⟩:=xP b;have b:=h.each (cS a)<|dH.2 ⟨a,c,rfl⟩
 exact⟨Rl b.2.2.1 e d,b.1⟩
def Qg{s:aG aB}(h:gC (s.map cS)):(bF s).Nodup:=by
 have d:=xJ h;have e:=AU h;refine List.Pairwise.imp_of_mem (λ{a b}f c g c=>?_) d;subst c;have:=e a f
 rcases g with h|h <;> omega
def AV(s:aG Bd):Nat:=(s.map<|λb=>Z b.xs / 2).sum
theorem Qh(s t:aG Bd):AV (s++t)=AV s+AV t:=by simp[AV,fY,List.sum_append]
def TV(s:aG Bd)(b:Bd):AV (mb s b)<=AV s+Z b.xs / 2:=by
 unfold mb
 grind [yA,AV,Qh]
structure Low (t:aG Bd):Prop where
 each:∀b∈t,b.y0<b.y1/\lF b.xs/\Z b.xs % 2=0
 ord:t.Pairwise (λb c=>b.y1<=c.y0)
def sa:∀(t a:aG Bd),Low t->gC a->(∀c∈a,∀b∈t,c.y1<=b.y0)->gC (t.foldl mb a)/\AV (t.foldl mb a)<=AV a+AV t/\
  ∀y,d_ (t.foldl mb a) y=if(∃b∈t,b.y0<=y/\y<b.y1)then d_ t y else d_ a y
 | [],a,_,f,_=>⟨f,by simp[AV],λy=>G⟩
 |b::t,a,g,f,j=>by
  have e:=g.each b G;have i:=lz.1 g.ord;have h:∀c∈a,c.y1<=b.y0:=λc d=>j c d b G;have l:=Eo f h e.2.1 e.2.2;have e:=Ep h (show b.y0<=b.y1 by omega);obtain⟨j,e,k⟩:=sa t (mb a b) ⟨λc e=>g.each c<|ku _ e,i.2⟩ l (λc e g g=>H);refine⟨j,?_,λy=>?_⟩
  ·have:=TV a b;have a:AV (b::t)=Z b.xs / 2+AV t:=by simp[AV]
   rw[List.foldl_cons,a];omega
  ·rw[List.foldl_cons,k y,En h (λc e=>(f.each c e).1)<|λd=>absurd d C,rT]
   by_cases a:b.y0<=y/\y<b.y1
   ·have f:¬∃c∈t,c.y0<=y/\y<c.y1:=λ⟨c,e,d⟩=>by have:=i.1 c e;omega
    rw[aJ f,aL a,aL ⟨b,G,a⟩,aL a]
   ·rw[aJ a]
    by_cases d:∃c∈t,c.y0<=y/\y<c.y1
    ·obtain⟨c,e,d⟩:=d;rw[aL ⟨c,e,d⟩,aL ⟨c,ku _ e,d⟩,aJ a]
    ·rw[aJ d,aJ a,aJ (show ¬∃c∈b::t,c.y0<=y/\y<c.y1 from λ⟨c,e,a⟩=>H)]
noncomputable def xc(C:aG z)(b:aB):Bd:=⟨b.Y0,b.Y1,eH<|(KJ b.Xs).filter<|λp=>decide<|(⟨p.1,b.Y0,p.2,b.Y1⟩:z)∈C⟩
def TW{l m:aG (Int×Int)}(h:l.Sublist m):(eH l).Sublist (eH m):=by
 induction h with
 |slnil=>exact List.Sublist.refl _
 |cons a _ b=>grind [ml]
 |cons_cons a _ b=>grind [ml]
def Li(l:aG (Int×Int)):Z (eH l) % 2=0/\Z (eH l) / 2=Z l:=by simp[mN]
def TX{s p:aG aB}{C:aG z}(i:gC (s.map cS))(L:gC (p.map cS))(D:∀r∈C,r∈bF s)(I:∀x y,CW (p.map cS) x y=zK C x y):Z (bF p)<=Z C:=by
 have n:∀a∈s,lF (xc C a).xs:=λa d=>by
  have h:=SM i a d;have e:=TW<|List.filter_sublist (l:=KJ a.Xs) (p:=λp=>decide<|(⟨p.1,a.Y0,p.2,a.Y1⟩:z)∈C)
  rw[KK<|AL i a d]at e;exact List.Pairwise.sublist e h
 have K:Low (s.map<|xc C):=by
  refine⟨λa d=>?_,?_⟩
  ·obtain⟨c,f,rfl⟩:=dH.1 d;exact⟨(i.each (cS c)<|dH.2 ⟨c,f,rfl⟩).1,n c f,(Li _).1⟩
  ·have:=i.ord;rw[List.pairwise_map]at this ⊢;exact List.Pairwise.imp (λb=>b.1) this
 obtain⟨w,R,A⟩:=sa (s.map<|xc C) [] K gC.nil (λc f=>by cases f);have M:∀{t:aG aB},(∀a∈t,a∈s)->∀x y,vk (d_ (t.map<|xc C) y) x=aA->zK C x y=true:=by
  intro t o x y b
  induction t with
  |nil=>cases b
  |cons a t j=>
   rw[gQ,rT]at b;split at b
   ·rename_i l;have E:=o a G;have h:=n a E;have b:vk (eH<|(KJ a.Xs).filter<|λp=>decide<|(⟨p.1,a.Y0,p.2,a.Y1⟩:z)∈C) x=true:=b;rw[AG h,AF]at b;obtain⟨q,k,e⟩:=b;have k:=nc.1 k;exact mD.2 ⟨_,of_decide_eq_true k.2,e,l⟩
   grind
 have N:∀x y,zK C x y=aA->vk (d_ (s.map<|xc C) y) x=true:=by
  intro x y b;obtain⟨r,m,h,e⟩:=mD.1 b;obtain⟨a,d,q,k,rfl⟩:=xP<|D r m
  dsimp only at h e;have P:∀{t:aG aB},(∀c∈t,c∈s)->gC (t.map cS)->a∈t->d_ (t.map<|xc C) y=(xc C a).xs:=by
   intro t o f g
   induction t with
   |nil=>cases g
   |cons c t j=>
    rw[gQ,rT]
    by_cases l:c.Y0<=y/\y<c.Y1
    ·rw[aL (show(xc C c).y0<=y/\y<(xc C c).y1 from l)]
     rcases eO.1 g with rfl|g
     ·rfl
     ·have:=f.KD (cS a)<|dH.2 ⟨a,g,rfl⟩
      grind [cS]
    ·rw[aJ (show ¬((xc C c).y0<=y/\y<(xc C c).y1)from l)]
     rcases eO.1 g with rfl|g
     ·exact absurd e l
     ·exact j (λu J=>o u<|ku _ J) f.tail g
  rw[P (λc f=>f) i d];have B:=n a d;show vk (eH<|(KJ a.Xs).filter<|λp=>decide<|(⟨p.1,a.Y0,p.2,a.Y1⟩:z)∈C) x=aA;rw[AG B,AF];exact⟨q,nc.2 ⟨k,bN m⟩,h⟩
 have O:p.map cS=(s.map<|xc C).foldl mb []:=BR L w λx y=>by
  rw[I,iK];have v:d_ ((s.map<|xc C).foldl mb []) y=d_ (s.map<|xc C) y:=by
   rw[A]
   by_cases b:∃a∈s.map (xc C),a.y0<=y/\y<a.y1
   ·rw[aL b]
   ·rw[aJ b]
    exact(pX λa d=>by
     have:¬(a.y0<=y/\y<a.y1):=λe=>b ⟨a,d,e⟩
     omega).symm
  unfold CW;rw[v];exact⟨N x y,M (λa d=>d) x y⟩
 have F:Z (bF p)=AV (p.map cS):=by
  have:∀p:aG aB,Z (bF p)=AV (p.map cS):=λp=>by
   induction p with
   |nil=>rfl
   |cons a p j=>rw[rX,cK,vJ,j];unfold AV;rw[gQ,gQ,List.sum_cons];rfl
  exact this p
 have H:∀s:aG aB,AV (s.map<|xc C)=Z ((bF s).filter<|λr=>decide<|r∈C):=λs=>by
  induction s with
  |nil=>rfl
  |cons a s j=>
   rw[rX,List.filter_append,cK,<-j];unfold AV;rw[gQ,gQ,List.sum_cons];congr 1;show Z (eH _) / 2=_;rw[(Li _).2];unfold rW;rw[List.filter_map,dR];rfl
 have S:Z ((bF s).filter<|λr=>decide<|r∈C)<=Z C:=iw (List.Nodup.sublist List.filter_sublist<|Qg i) λr m=>of_decide_eq_true (nc.1 m).2;rw[F,O];have Q:AV ([]:aG Bd)=0:=rfl;have:=H s;omega
end Go.Gk
namespace Go.Gk
open Go IntKind
end Go.Gk
namespace Go.Gk
open Go IntKind Classical
section
variable {N:Nat}
def SU{r d:aG z}{s:aG aB}(h1:∀x∈r,dJ x=aA)(h2:∀x∈d,dJ x=aA)(hc:gC (s.map cS))(hl:Gf (AH r++AH d) (lE r++lE d) (s.map cS)):∀q∈bF s,dJ q=aA/\q.X0<q.X1/\q.Y0<q.Y1:=by
 intro q b;have j:=AU hc q b;obtain⟨a,c,g,f,rfl⟩:=xP b;have e:=hl (cS a)<|dH.2 ⟨a,c,rfl⟩
 have i:=N0 g f;have bx:∀b∈AH r++AH d,-1000000<=b/\b<=1000000:=λb f=>by
  rcases dS.1 f with a|a
  ·obtain⟨x,c,a⟩:=AJ.1 a;have:=ks<|h1 x c
   omega
  ·obtain⟨x,c,a⟩:=AJ.1 a;have:=ks<|h2 x c
   omega
 have h:∀b∈lE r++lE d,-1000000<=b/\b<=1000000:=λb f=>by
  rcases dS.1 f with a|a
  ·obtain⟨x,c,a⟩:=rV.1 a;have:=ks<|h1 x c
   omega
  ·obtain⟨x,c,a⟩:=rV.1 a;have:=ks<|h2 x c
   omega
 have a:=bx _<|e.2.2 g.1 i.1
 have b:=bx _<|e.2.2 g.2 i.2
 have c:=h _ e.1
 have d:=h _ e.2.1
 exact⟨KZ ⟨a,c,b,d⟩,j⟩
structure zO (r hs:aG z) (s:aG aB) (u:Nat->Nat) (ps:aG (aG aB)):Prop where
 r1:∀x∈r,dJ x=aA
 r2:∀x∈hs,dJ x=aA
 k1:∀x∈r,LQ x
 k2:∀x∈hs,LQ x
 dr:BV r hs s
 pt:zf s u ps
 CX:Z (bF s)<=2000
def zO.part{r b:aG z}{s:aG aB}{u:Nat->Nat}{a:aG (aG aB)}(h:zO r b s u a){p:aG aB}(d:p∈a):gC (p.map cS)/\Z (bF p)<=2000/\∀q∈bF p,dJ q=aA/\q.X0<q.X1/\q.Y0<q.Y1:=by
 obtain⟨c,f⟩:=h.dr.small h.k1 h.k2;obtain⟨a,e,a,a,a,b⟩:=K5 h.pt h.dr.can h.dr.lim c f d
 have:=TX h.dr.can a.can (λd d=>by
  grind [rZ,eR]) a.cover
 have d:=KS (bF s) (Z (bF s)) u e;have:=h.CX;exact⟨a.can,C,SU h.r1 h.r2 a.can b⟩
def zO.cE{r a:aG z}{s:aG aB}{u:Nat->Nat}{b:aG (aG aB)}(h:zO r a s u b):∀i,i<Z (bF s)->u i∈Gk.cE (Z (bF s)) u:=λi a=>kQ.2 ⟨by have:=h.pt.join.le i a;omega,h.pt.join.rr i a⟩
def IX{a:aG (aG aB)}{x y:Int}:zK (a.flatMap bF) x y=aA↔∃p∈a,zK (bF p) x y=true:=by
 grind [mD]
def zO.cover{r a:aG z}{s:aG aB}{u:Nat->Nat}{f:aG (aG aB)}(h:zO r a s u f)(x y:Int):zK (f.flatMap bF) x y=CW (s.map cS) x y:=by
 rw[<-ux h.dr.can,iK,IX];constructor
 ·rintro⟨b,d,e⟩;obtain⟨b,c⟩:=dM d;have d:=(bR.1 c).1;have g:(Gk.cE (Z (bF s)) u)[b]? =O ((Gk.cE (Z (bF s)) u)[b]'(by rw[<-h.pt.len];exact d)):=aM _;have a:=h.pt.each b _ _ g c;rw[ux a.can,a.cover]at e
  grind [mD,rZ,eR]
 ·intro e;obtain⟨g,g,i⟩:=mD.1 e;obtain⟨i,e⟩:=dM g;have g:=(bR.1 e).1;obtain⟨b,c⟩:=dM<|h.cE i g
  have d:b<Z f:=by rw[h.pt.len];grind
  have a:=h.pt.each b _ _ c<|aM d
  refine⟨_,cH d,?_⟩;rw[ux a.can,a.cover]
  grind [mD,rZ]
section
variable {a:ir}{d:aG (aG aB)}{c:aG (aG (aG aB))}{r:Nat->Nat}{gs:aG bL}{ofP ofB nF:aG Int}{ny:aG gL}
def IY(b:mE a d c r gs ofP ofB nF ny){i:Nat}(hi:i<Z a.aS):∃s e u,d[i]? =O s/\c[i]? =O e/\zO a.aS[i] (nv a.aX (i:Int)) s u e:=by
 have g:d[i]? =O (d[i]'(by rw[b.dr.len];exact hi)):=aM _;have e:c[i]? =O (c[i]'(by rw[b.dr.H9];exact hi)):=aM _;have j:=b.dr.dr i _ _ hi (aM hi) g;obtain⟨u,k⟩:=b.dr.pt i _ _ hi g e;have h:=wA.1<|b.Hk.reg _<|cH hi
 exact⟨_,_,u,g,e,λf e=>((zM.1 h.1).2 f e).1,λf e=>(yF b.Hk.gb _ f e).2,(K0 h.1).2,λf e=>(yF b.Hk.gb _ f e).1,j,k,b.CX.1 _<|eR g⟩
end
end
def Lj(a b:z):Prop:=(0<min a.X1 b.X1 - max a.X0 b.X0/\0<=min a.Y1 b.Y1 - max a.Y0 b.Y0)\/(0<=min a.X1 b.X1 - max a.X0 b.X0/\0<min a.Y1 b.Y1 - max a.Y0 b.Y0)
def TY{b:aG z}(d:b.Pairwise DW)(d:∀r∈b,r.X0<r.X1/\r.Y0<r.Y1){i j:Nat}{a c:z}(e:b[i]? =O a)(hc:b[j]? =O c):Lj a c↔i=j\/Hz b i j\/Hz b j i:=by
 have d:Hz b i j↔N3 a c:=⟨λ⟨f,g,h,k,d⟩=>H,λd=>⟨a,c,e,hc,d⟩⟩;have l:Hz b j i↔N3 c a:=⟨λ⟨f,g,h,k,d⟩=>H,λd=>⟨c,a,hc,e,d⟩⟩
 grind [eR,bR,Lj,N3,Nat.lt_trichotomy,jW,DW]
def Ih{α:Type}{q a:aG α}(h:q <+:a){t:Nat}{x:α}(hx:q[t]? =O x):a[t]? =O x:=by
 obtain⟨a,rfl⟩:=h
 grind
def B1(f:Int->Int->Bool)(x y:Int):Prop:=f x y=aA/\∀b a,f b a=aA->y<a\/(y=a/\x<=b)
def B1.unique{f:Int->Int->Bool}{x y b c:Int}(h:B1 f x y)(a:B1 f b c):x=b/\y=c:=by
 have b:=h.2 _ _ a.1;have b:=a.2 _ _ h.1;omega
def RD{a:z}{l:aG z}(b:∀r∈a::l,r.X0<r.X1/\r.Y0<r.Y1)(c:∀r∈l,DW a r):B1 (zK<|a::l) a.X0 a.Y0:=by
 have c:=b a G;refine⟨mD.2 ⟨a,G,C,C⟩,λb b b=>?_⟩
 grind [mD,DW]
def RE{s:aG aB}(hc:gC (s.map cS))(u:s≠[]):∃r t,bF s=r::t/\B1 (λk m=>CW (s.map cS) k m) r.X0 r.Y0/\SQ s= ⟨r.X0,r.Y0⟩:=by
 cases s with
 |nil=>grind
 |cons a s=>
  have h:=hc.each (cS a) G;have v:a.Xs≠[]:=h.2.1;have q:Z a.Xs % 2=0:=h.2.2.2;obtain⟨b,c,d,j⟩:∃b c d,a.Xs=b::c::d:=by
   match p:a.Xs with
   | []=>grind
   | [b]=>grind
   |b::c::d=>simp
  have e:bF (a::s)= ⟨b,a.Y0,c,a.Y1⟩::((KJ d).map (λi=>(⟨i.1,a.Y0,i.2,a.Y1⟩:z))++bF s):=by
   rw[rX];unfold rW;rw[j];rfl
  have f:=xJ hc;have g:=AU hc;rw[e]at f g;refine⟨_,_,e,?_,by grind [SQ]⟩;have:=RD g (lz.1 f).1;rw[<-e]at this;refine⟨?_,λl n o=>this.2 l n ?_⟩
  ·show CW _ _ _=aA;rw[<-ux hc];exact this.1
  grind [ux]
def MY{b:aG z}{u:Nat->Nat}(c:b.Pairwise DW)(e:∀r∈b,r.X0<r.X1/\r.Y0<r.Y1)(d:Joined b u){h:Nat}{a:z}(c:b[h]? =O a)(f:u h=h):B1 (zK<|uE b (Z b) u h) a.X0 a.Y0:=by
 obtain⟨b,g⟩:=bR.1 c;have g:=e a<|eR c
 refine⟨mD.2 ⟨a,rZ.2 ⟨h,b,f,c⟩,C,C⟩,λb b b=>?_⟩;obtain⟨r,c,e,e⟩:=mD.1 b;obtain⟨e,b,f,f⟩:=rZ.1 c;have lm:=d.le e b
 grind [bR,jW,DW]
def B2{u:Nat->Nat}:∀(d i:Nat),∃t,cE (i+d) u=cE i u++t
 | 0,i=>⟨[],G⟩
 |d+1,i=>by
  obtain⟨t,a⟩:=B2 (u:=u) d i;rw[<-Nat.add_assoc,jf,a];split
  ·exact⟨t++[i+d],G⟩
  ·exact⟨t,rfl⟩
def V9{u:Nat->Nat}{i n:Nat}(hi:i<n)(a:u i=i):(cE n u)[Z (cE i u)]? =O i:=by
 obtain⟨a,a⟩:=B2 (u:=u) (n -(i+1))<|i+1
 rw[show i+1+(n -(i+1))=n by omega]at a
 grind [jf]
section
variable {N:Nat}
def TZ{a b:z}(c:LQ a)(d:LQ b):kN N a b=O (decide<|Lj a b):=by
 have e:=c.s1;have f:=c.s2;have g:=c.s3;have h:=c.s4;have c:=d.s1;have i:=d.s2;have j:=d.s3;have k:=d.s4;unfold i_ at e f g h c i j k;unfold kN;rw[EA,EA,vf,vf,fG (x:=min a.X1 b.X1 - max a.X0 b.X0) C C,fG (x:=min a.Y1 b.Y1 - max a.Y0 b.Y0) C C]
 grind [Lj,gt_iff_lt,ge_iff_le]
def wb{l:aG (aG z)}{a:z}{t:aG z}(hl:Z l<=1000000)(b:nq N)(h:∀x,l[Z l - 1]? =O x->∃b d,x=b::d/\¬(a.Y0<b.Y0\/(a.Y0=b.Y0/\a.X0<b.X0))):lM N l (a::t)=O (l++[a::t]):=by
 refine l_ ?_;unfold lM;refine v (od (Go:=λc=>c=(Z l:Int)) (Rt:=λ_=>False) (λc=>c=(Z l:Int)) (λc=>0) ?_ rfl C) ?_
 ·rintro c rfl
  by_cases c:Z l=0
  ·grind [bW,w,ga]
  ·rw[bN C,aN,kn C C];have e:l[Z l - 1]? =O (l[Z l - 1]' C):=aM _;obtain⟨b,d,c,d⟩:=h _ e;have d:A (a::t) 0=O a:=rfl;have a:A (l[Z l - 1]' C) 0=O b:=by rw[c];rfl
   grind [w,bS,ke,decide,ga]
 intro a a;refine gf a ?_<|λa a=>a.elim
 grind [dy,pd,li,ti,o]
structure BI (all:aG z) (u:Nat->Nat) (i:Nat) (q:aG Nat) (done:aG Bool) (own:aG z):Prop where
 len:Z done=Z all
 nd:q.Nodup
 lt:∀k∈q,k<Z all/\u k=i
 hd:i∈q
 dn:∀k,k<Z all->done[k]? =O (decide<|u k<i\/k∈q)
 ow:own.map O=q.map (λk=>all[k]?)
def BI.acK{a:aG z}{u:Nat->Nat}{i:Nat}{q:aG Nat}{done:aG Bool}{own:aG z}(h:BI a u i q done own):own.length=Z q:=by
 have:=congrArg List.length h.ow
 grind
def BI.CX{a:aG z}{u:Nat->Nat}{i:Nat}{q:aG Nat}{done:aG Bool}{own:aG z}(h:BI a u i q done own):Z q<=Z a:=by
 have:=iw h.nd (m:=List.range (Z a)) (λb a=>by rw[A3];exact(h.lt b a).1)
 grind
def BI.at_{a:aG z}{u:Nat->Nat}{i:Nat}{q:aG Nat}{done:aG Bool}{own:aG z}(h:BI a u i q done own){p k:Nat}(b:q[p]? =O k):own[p]? =a[k]? :=by
 have a:=congrArg (λa=>a[p]?) h.ow
 grind
def BI.mem{a:aG z}{u:Nat->Nat}{i:Nat}{q:aG Nat}{done:aG Bool}{own:aG z}(h:BI a u i q done own){r:z}:r∈own↔∃k∈q,a[k]? =O r:=by
 have:r∈own↔O r∈own.map some:=G
 rw[this,h.ow,dH]
def Qi{s:aG aB}{u:Nat->Nat}{B:aG (aG aB)}(hc:gC (s.map cS))(Y:zf s u B)(hn:Z (bF s)<=2000)(av:∀r∈bF s,LQ r)(bg:∀p∈B,Z (bF p)<=2000)(hN:nq N):
  ik N (bF s)=O (B.map bF):=by
 refine l_ ?_;have X:=xJ hc;have V:=AU hc;have K:=Y.join;have ar:=Y.len;have an:=Y.each;clear Y hc;generalize bF s=b at *;unfold ik;refine dy (vW aK C) ?_;have ak:∀m y,(Hz b m y\/Hz b y m)->u m=u y:=λm y f=>f.elim (λf=>K.co m y f)<|λf=>(K.co y m f).symm
 refine v (kg (n:=Z b) (λd=>d.2.2) (λa d=>Z d.1=Z b/\(∀c,c<Z b->d.1[c]? =O (decide (u c<a)))/\d.2.1=(B.take (Z (cE a u))).map bF) (Go:=λd=>d.2.1=B.map bF) (Rt:=λ_=>False) ?_ ?_ (cT _) rfl
  ⟨G,λc e=>by simp[e],by simp[cE]⟩ C) ?_
 ·rintro a⟨done,a1,ii⟩F h⟨ab,S,I⟩;dsimp only at h ab S I ⊢;subst h;rw[iB F,aN];refine fy (S a F)<|jn (λq=>?_)<|λq=>?_
  ·have ah:u a<a:=of_decide_eq_true q;refine fx ⟨bM C,ab,λc e=>?_,?_⟩
   ·rw[S c e];congr 1;rw[decide_eq_decide];have au:u c≠a:=λh=>by have:=K.rr c e;grind
    omega
   grind [jf]
  ·have bt:¬u a<a:=of_decide_eq_false q;have ad:u a=a:=by have:=K.le a F;omega
   have hx:b[a]? =O b[a]:=aM F;refine fy (S a F)<|fy hx ?_
   refine v (od (Go:=λd=>Z d.1=Z b/\(∀c,c<Z b->d.1[c]? =O (decide (u c<a+1)))/\(∀r,r∈d.2.1↔r∈uE b (Z b) u a)/\Z d.2.1<=Z b) (Rt:=λ_=>False)
    (λd=>∃(j:aG Nat)(i:Nat),d.2.2=((i:Nat):Int)/\i<=Z j/\BI b u a j d.1 d.2.1/\∀(p c g:Nat),p<i->j[p]? =O c->g<Z b->(Hz b c g\/Hz b g c)->g∈j)
    (λd=>Z b+1 - d.2.2.toNat) ?_ ⟨[a],0,rfl,G,?_,λp c g H=>C⟩ (by simp;omega)) ?_
   ·rintro⟨d1,o1,t'⟩⟨j,i,h,ht,E,ag⟩;dsimp only at h E ⊢;subst h;have bi:=E.CX;have aw:=E.acK
    by_cases ah:i<Z j
    ·rw[iB (by omega:i<Z o1),aN];have aE:j[i]? =O j[i]:=aM ah;have T:=E.lt _<|cH ah
     have aZ:b[j[i]]? =O b[j[i]]:=aM T.1
     refine v (kg (n:=Z b) (λd=>d.2.2) (λg d=>∃l,j <+:l/\BI b u a l d.1 d.2.1/\∀k,k<g->(Hz b j[i] k\/Hz b k j[i])->k∈l)
      (Go:=λd=>∃l,j <+:l/\BI b u a l d.1 d.2.1/\∀k,k<Z b->(Hz b j[i] k\/Hz b k j[i])->k∈l) (Rt:=λ_=>False) ?_ ?_ (cT _) rfl ⟨j,List.prefix_refl _,E,λk x=>C⟩ C) ?_
     ·rintro g⟨d2,o2,jj⟩x h⟨l,J,n,aa⟩;dsimp only at h n ⊢;subst h;rw[iB x,aN];have bh:l[i]? =O j[i]:=by rw[Ih J aE]
      have bn:o2[i]? =O b[j[i]]:=by rw[n.at_ bh];exact aZ
      have hz:b[g]? =O b[g]:=aM x;have aS:=TY X V aZ hz;have a4:(D (A d2 ((g:Nat):Int)) λbo=>bif(!bo)then(D (A o2 ((i:Nat):Int)) λbp=>D (A b ((g:Nat):Int)) λbq=>D (kN N bp bq) λbr=>O br)else O aK)=O (!decide (u g<a\/g∈l)&&decide (Lj b[j[i]] b[g])):=by
       rw[bS<|n.dn g x,w]
       cases decide (u g<a\/g∈l)with
       |true=>rfl
       |false=>rw[lU,aN,bS bn,w,bS hz,w,TZ (av _ (cH T.1)) (av _ (cH x)),w,Bool.true_and]
      refine dy a4 ?_;refine v (P:=λd:aG Bool×aG z=>∃l,j <+:l/\BI b u a l d.1 d.2/\∀k,k<g+1->(Hz b j[i] k\/Hz b k j[i])->k∈l) (jn (λq=>?_)<|λq=>?_)<|λd bj=>fx ⟨bM C,bj⟩
      ·rw[dE,Bool.not_eq_true',decide_eq_false_iff_not,dZ]at q;have ba:u g=a:=by
        rcases aS.1 q.2 with f|f
        ·rw[<-f];exact T.2
        ·rw[<-ak _ _ f];exact T.2
       have a9:g∉l:=λf=>q.1<|.inr f
       have bw:=n.acK;have b0:=n.CX;refine fy (n.dn g x)<|fy hz<|li (by simp only[eK,List.length_nil];omega)<|o ⟨l++[g],J.trans<|List.prefix_append _ _,⟨?_,?_,?_,?_,?_,?_⟩,?_⟩
       ·rw[jD];exact n.len
       ·rw[List.nodup_append];exact⟨n.nd,G,λm t y q=>by simp at q;subst q;exact λh=>a9<|h▸t⟩
       ·intro c e
        rcases dS.1 e with e|e
        ·exact n.lt c e
        ·simp at e;subst e;exact⟨x,ba⟩
       ·exact List.mem_append_left _ n.hd
       ·intro c e;rw[cN,kX]
        by_cases h:g=c
        ·subst h;rw[aL rfl,aL (by rw[n.len];exact x)];congr 1;exact(bN<|.inr G).symm
        ·rw[aJ h,n.dn c e];congr 1;rw[decide_eq_decide,dS];simp only[ng];constructor
         ·exact λf=>f.elim .inl<|λf=> .inr<|.inl f
         ·exact λf=>f.elim .inl<|λf=>f.elim .inr<|λf=>absurd f.symm h
       ·rw[fY,fY,n.ow];simp[hz]
       ·intro k a8 t
        by_cases h:k=g
        ·subst h;simp
        ·exact List.mem_append_left _<|aa k C t
      ·refine o ⟨l,J,n,λk a8 t=>?_⟩
       by_cases h:k=g
       ·subst h;have bv:u k=a:=by rw[<-ak _ _ t];exact T.2
        rw[bN<|aS.2<|.inr t,Bool.and_true,Bool.not_eq_false',dZ]at q
        rcases q with q|q
        ·omega
        ·exact q
       ·exact aa k C t
     ·rintro⟨d2,o2,jj⟩h aj;dsimp only at h aj ⊢;subst h;rw[nG,aR];exact ga aj
     intro a0 U;refine gf U ?_<|λr L=>L.elim
     rintro⟨d2,o2,jj⟩⟨l,J,n,aa⟩;dsimp only at n ⊢;refine fx ⟨⟨l,i+1,bM C,?_,n,λp c g H e x t=>?_⟩,?_⟩
     ·have:=J.length_le;omega
     ·by_cases h:p=i
      ·subst h;rw[Ih J aE]at e;injection e with e;subst e
       exact aa g x t
      ·have aD:j[p]? =O (j[p]' C):=aM _;rw[Ih J aD]at e;injection e with e;subst e
       exact J.subset<|ag p _ g C aD x t
     ·rw[bM C];simp only[cN];omega
    ·rw[AO (by omega:Z o1<=i),aR];have aX:i=Z j:=C
     have am:∀c,c<Z b->(c∈j↔u c=a):=λc e=>⟨λf=>(E.lt c f).2,λf=>by
      have bl:∀m y,Hz b m y->(m∈j↔y∈j):=λm y af=>by
       have a3:=af;obtain⟨ra,rb,M,P,_⟩:=a3;have bb:=(bR.1 M).1;have be:=(bR.1 P).1;constructor
       ·intro h';obtain⟨p,H⟩:=dM h';exact ag p m y (by rw[aX];exact(bR.1 H).1) H be<|.inl af
       ·intro h';obtain⟨p,H⟩:=dM h';exact ag p y m (by rw[aX];exact(bR.1 H).1) H bb<|.inr af
      exact K.fi (λc=>c∈j) bl a c F e (by rw[ad,f]) E.hd⟩
     refine ga ⟨E.len,λc e=>?_,λr=>?_,by rw[aw];exact bi⟩
     ·rw[E.dn c e];congr 1;rw[decide_eq_decide,am c e];omega
     ·rw[E.mem,rZ];constructor
      ·rintro⟨c,e,f⟩;exact⟨c,(E.lt c e).1,(E.lt c e).2,f⟩
      ·rintro⟨c,e,h1,h2⟩;exact⟨c,(am c e).2 h1,h2⟩
   ·refine⟨by rw[jD];exact ab,G,λc e=>by simp at e;subst e;exact⟨F,ad⟩,G,λc e=>?_,by simp[hx]⟩;rw[cN,kX]
    by_cases h:a=c
    ·subst h;rw[aL rfl,aL (by rw[ab];exact F)];congr 1;exact(bN<|.inr G).symm
    ·rw[aJ h,S c e];congr 1;rw[decide_eq_decide];simp only[ng];omega
   intro a0 U;refine gf U ?_<|λr L=>L.elim
   rintro⟨d1,o1,t'⟩⟨g1,g2,g3,g4⟩;dsimp only at g1 g2 g3 g4 ⊢;have hh:=V9 F ad;have ai:Z (cE a u)<Z B:=by rw[ar];exact(bR.1 hh).1
   have ay:B[Z (cE a u)]? =O B[Z (cE a u)]:=aM ai;have r7:=an _ _ _ hh ay;have a5:∀W ae,CW (B[Z (cE a u)].map cS) W ae=zK o1 W ae:=λW ae=>by rw[r7.cover];exact(Xp g3 W ae).symm
   have bz:=bg _<|cH ai
   refine dy (B0 r7.can a5 C (λr L=>?_) C hN) ?_
   ·obtain⟨c,_,_,e⟩:=rZ.1<|(g3 r).1 L
    exact(V r<|eR e).1
   have ao:∀(g f:Nat)p,(cE (Z b) u)[g]? =O f->B[g]? =O p->∃r i m,bF p=r::i/\b[f]? =O m/\r.X0=m.X0/\r.Y0=m.Y0:=λg f p x H=>by
    have Q:=an g f p x H;obtain⟨a7,aq⟩:=kQ.1<|eR x
    have t:b[f]? =O b[f]:=aM a7;have au:p≠[]:=λh=>by
     have hL:=(MY X V K t aq).1;rw[<-Q.cover,h]at hL
     cases hL
    obtain⟨r,i,M,P,_⟩:=RE Q.can au;have a2:B1 (zK<|uE b (Z b) u f) r.X0 r.Y0:=⟨by rw[<-Q.cover];exact P.1,λx' y' bm=>P.2 x' y' (by simp only;rw[Q.cover];exact bm)⟩;obtain⟨e3,e4⟩:=a2.unique<|MY X V K t aq
    exact⟨r,i,b[f],M,t,e3,e4⟩
   obtain⟨r,i,m,M,P,e3,e4⟩:=ao _ _ _ hh ay;have bu:Z (cE a u)<=a:=nO a u;rw[M];refine dy (wb (by rw[I,dR,cQ];omega) hN<|λW R=>?_)<|fx ⟨bM C,g1,g2,?_⟩
   ·have aw:Z a1=Z (cE a u):=by rw[I,dR,cQ];omega
    have bZ:0<Z (cE a u):=by
     have:=(bR.1 R).1;omega
    rw[I,nQ,dR,cQ,show min (Z (cE a u)) (Z B)=Z (cE a u) by omega,List.getElem?_take_of_lt C]at R;have ax:B[Z (cE a u) - 1]? =O (B[Z (cE a u) - 1]' C):=aM _;rw[ax]at R;injection R with R
    have ap:(cE a u)[Z (cE a u) - 1]? =O ((cE a u)[Z (cE a u) - 1]' C):=aM _;have bf:=kQ.1<|eR ap
    obtain⟨tl,aV⟩:=B2 (u:=u) (Z b - a) a;rw[show a+(Z b - a)=Z b by omega]at aV;have a6:(cE (Z b) u)[Z (cE a u) - 1]? =O ((cE a u)[Z (cE a u) - 1]' C):=by rw[aV,my C];exact ap
    obtain⟨r',t',a',f1,f2,f3,f4⟩:=ao _ _ _ a6 ax;refine⟨r',t',by rw[<-R];exact f1,?_⟩;obtain⟨l1,q1⟩:=bR.1 f2;obtain⟨l2,q2⟩:=bR.1 P;have al:=jW.1 X _ _ l1 l2 bf.1;rw[q1,q2]at al;have p1:=V a'<|eR f2
    unfold DW at al;rw[e3,e4,f3,f4];omega
   ·dsimp only;rw[jf,aL ad,cK,I];simp only[eK,List.length_nil];rw[dQ ai,fY,gQ,List.map_nil,M]
 ·rintro⟨done,a1,ii⟩h⟨_,_,I⟩;dsimp only at h I ⊢;subst h;rw[nG,aR];refine ga ?_;dsimp only;rw[I,nR (by rw[ar];omega)]
 intro a0 U;exact gf U (λs Q=>o Q)<|λr L=>L.elim
end
end Go.Gk
namespace Go.Gk
open Go IntKind
section
variable {α β:Type}
def Wa{N:Nat}{l:aG α}{s:β}{φ:α->β->aP Int}(c:α->Int)(B:∀x∈l,φ x s=O (c x))(z:∀(i j:Nat)(x y:α),i<j->l[i]? =O x->l[j]? =O y->0<=c x->0<c y)
  (hl:Z l<=1048576) (K:4194304<=N):∃r,L5 N l s φ=O r/\r.2=l.any (λx=>c x==0)/\(r.2=aA->r.1=OI l (λx=>c x==0)):=by
 show Ok (L5 N l s φ) (λr=>r.2=l.any (λx=>c x==0)/\(r.2=aA->r.1=OI l (λx=>c x==0)));unfold L5
 refine v (od (Go:=λd:Int×Int=>∃a:Nat,d.1=(a:Int)/\a<=Z l/\(∀j x,j<a->l[j]? =O x->c x<0)/\(∀j x,a<=j->l[j]? =O x->0<=c x)) (Rt:=λ_=>True)
  (λd=>∃a b:Nat,d=((a:Int),(b:Int))/\a<=b/\b<=Z l/\(∀j x,j<a->l[j]? =O x->c x<0)/\(∀j x,b<=j->l[j]? =O x->0<=c x))
  (λd=>(d.2 - d.1).toNat) ?_ ⟨0,Z l,rfl,C,du _,λj x e=>C,λj x e g=>H⟩ C) ?_
 ·rintro d⟨a,b,rfl,L,h,k,n⟩;dsimp only
  by_cases p:a<b
  ·have G:(a+b) / 2<Z l:=C
   have g:l[(a+b) / 2]? =O l[(a+b) / 2]:=aM G;rw[show decide ((a:Int)<(b:Int))=aA by grind,aN,MI p C];refine fy g<|dy (B _<|cH _) ?_
   by_cases t:c l[(a+b) / 2]<0
   ·rw[bN t,aN,w];refine fx ⟨⟨(a+b) / 2+1,b,?_,C,h,λj x e f=>?_,n⟩,?_⟩
    ·rw[bM C]
    ·by_cases m:j=(a+b) / 2
     ·subst m;rw[g]at f;injection f with f;rw[<-f];exact t
     ·by_cases D:c x<0
      ·exact D
      ·have:=z j _ x _ C f g C;omega
    ·rw[bM C];simp only;omega
   ·rw[bW t,aR,w];refine fx ⟨⟨a,(a+b) / 2,rfl,C,C,k,λj x e f=>?_⟩,by simp only;omega⟩
    by_cases m:j=(a+b) / 2
    ·subst m;rw[g]at f;injection f with f;rw[<-f];omega
    ·have:=z _ j _ x C g f C;omega
  ·rw[show decide ((a:Int)<(b:Int))=aK by rw[decide_eq_false_iff_not];omega,aR];exact ga ⟨a,rfl,C,k,λj x e g=>n j x C g⟩
 intro P I;refine gf I ?_<|λr M=>r.elim
 rintro⟨Q,R⟩⟨a,A,lm,k,n⟩;dsimp only at A ⊢;subst A
 by_cases p:a<Z l
 ·have g:l[a]? =O l[a]:=aM p;rw[show decide ((a:Int)<((Z l:Nat):Int))=aA by rw[dZ];omega,aN,bS g,w,B _<|cH _,w,w];refine o ?_
  by_cases u:c l[a]=0
  ·have h:(c l[a]==0)=true:=by rw[beq_iff_eq];exact u
   rw[h];refine⟨(ky.2 ⟨_,cH p,h⟩).symm,λ_=>?_⟩;rw[Kp g h (λj y e J=>by have:=k j y e J;rw[beq_eq_false_iff_ne];omega)]
  ·have h:(c l[a]==0)=false:=by rw[beq_eq_false_iff_ne];exact u
   rw[h];refine⟨?_,λq=>by cases q⟩;symm;rw[List.any_eq_false];intro x f;obtain⟨j,e⟩:=dM f;rw[mz,beq_eq_false_iff_ne]
   by_cases F:j<a
   ·have:=k j x F e;omega
   ·by_cases m:j=a
    ·subst m;rw[g]at e;injection e with e;rw[<-e];exact u
    ·have E:=n a _ (du _) g;have:=z a j _ x C g e E;omega
 ·rw[show decide ((a:Int)<((Z l:Nat):Int))=aK by rw[decide_eq_false_iff_not];omega,aR,w];refine o ⟨?_,λq=>by cases q⟩;symm;rw[List.any_eq_false];intro x f;obtain⟨j,e⟩:=dM f;have:=(bR.1 e).1;have:=k j x C e;rw[mz,beq_eq_false_iff_ne];omega
end
end Go.Gk
namespace Go.Gk
open Go IntKind Classical
def yJ(p q:bX):Prop:=cU.lt p.Part q.Part\/(p.Part=q.Part/\cU.lt p.bX q.bX)
theorem SV{p q:bX}(h1:p.Part=q.Part)(h2:p.bX=q.bX):p=q:=by cases p;simp_all
theorem yJ.irrefl(p:bX):¬yJ p p:=λa=>by
 rcases a with a|⟨_,a⟩
 ·exact cU.lt_irrefl _ a
 ·exact cU.lt_irrefl _ a
theorem yJ.trans{p q r:bX}(h1:yJ p q)(h2:yJ q r):yJ p r:=by
 rcases h1 with h1|⟨a,h1⟩ <;> rcases h2 with h2|⟨b,h2⟩
 ·exact .inl<|cU.lt_trans h1 h2
 ·exact .inl H
 ·exact .inl H
 ·exact .inr ⟨a.trans b,cU.lt_trans h1 h2⟩
theorem yJ.total(p q:bX):yJ p q\/p=q\/yJ q p:=by
 rcases cU.GO p.Part q.Part with a|a|a
 ·exact .inl<|.inl a
 ·rcases cU.GO p.bX q.bX with b|b|b
  ·exact .inl<|.inr ⟨a,b⟩
  ·grind [SV]
  ·exact .inr<|.inr<|.inr ⟨a.symm,b⟩
 ·exact .inr<|.inr<|.inl a
def yJ.asymm{p q:bX}(h:yJ p q):¬yJ q p:=λa=>yJ.irrefl p<|h.trans a
def yJ.ne{p q:bX}(h:yJ p q):p≠q:=by grind [yJ.irrefl]
theorem Ii{a b:cU}:Lib.compareBytes a.eI b.eI=0↔a=b:=by grind [cU.ext',tP]
theorem qe{p q:bX}:iQ p q=0↔p=q:=by
 grind [iQ,Lib.compareBytes,Ii,SV]
theorem vK{p q:bX}:iQ p q<0↔yJ p q:=by
 unfold iQ yJ
 by_cases b:Lib.compareBytes p.Part.eI q.Part.eI=0
 ·rw[aJ (by simpa using b),vD];have c:=Ii.1 b;constructor
  ·exact λa=> .inr ⟨c,a⟩
  ·rintro(a|⟨_,a⟩)
   ·grind [cU.lt_irrefl]
   ·exact a
 ·rw[aL b,vD];constructor
  ·exact λa=> .inl a
  ·rintro(a|⟨c,_⟩)
   ·exact a
   grind [Ii]
theorem F6{p q:bX}:0<iQ p q↔yJ q p:=by
 constructor
 ·intro a
  rcases yJ.total p q with b|b|b
  ·have:=vK.2 b;omega
  all_goals grind [qe]
 ·intro a
  by_cases b:iQ p q<0
  ·exact absurd (vK.1 b) a.asymm
  ·by_cases b:iQ p q=0
   ·exact absurd (qe.1 b).symm a.ne
   ·omega
section
variable {N:Nat}
structure RF (a:ir) (x:dD):Prop where
 name:lR x.Part=aA/\fd x.bX=aA
 acF:0<=x.cR/\x.cR<(Z a.aS:Int)
 at_:w6 x.At=aA
structure pA (a:ir):Prop where
 CX:Z a.cA<=1000
 each:∀x∈a.cA,RF a x
 up:a.cA.Pairwise (λx y=>yJ (lx x)<|lx y)
def Oj{a:ir}{k:Nat}{x:dD}(hx:a.cA[k]? =O x)(h:nu a k=aQ):RF a x/\∀y,0<k->a.cA[k - 1]? =O y->yJ (lx y) (lx x):=by
 unfold nu at h;rw[hx,Option.bind_some]at h;split at h
 ·rename_i c;split at h
  ·rename_i b;split at h
   ·cases h
   ·rename_i d;rw[dE]at c b;unfold iP at b;rw[dE,dZ,dZ]at b;refine⟨⟨c,⟨C,C⟩,b.2⟩,λy e f=>?_⟩
    grind [iQ,F6]
  ·cases h
 ·cases h
theorem Ll{a:ir}{k:Nat}{e:Int}(h:nu a k=O e):e≠0:=by
 unfold nu at h
 cases b:a.cA[k]? with
 |none=>grind
 |some c=>
  rw[b,Option.bind_some]at h
  repeat' split at h
  all_goals grind
def T0{a:ir}(h:qx a=0):pA a:=by
 unfold qx at h;split at h
 ·omega
 rename_i v;have j:pR (Z a.cA) (nu a)=none:=by
  cases t:pR (Z a.cA) (nu a)with
  |none=>rfl
  |some s=>
   grind [mM,Ll]
 rw[nN]at j;have l:∀(g:Nat)c,a.cA[g]? =O c->RF a c/\∀d,0<g->a.cA[g - 1]? =O d->yJ (lx d) (lx c):=λg c f=>Oj f<|j g (bR.1 f).1
 refine⟨C,λc f=>?_,?_⟩
 ·grind [dM]
 ·have o:∀(e b:Nat)c d,a.cA[b]? =O c->a.cA[b+e+1]? =O d->yJ (lx c) (lx d):=by
   intro e
   induction e with
   |zero=>grind
   |succ e r=>
    intro b c d f p;have q:b+e+1<Z a.cA:=H
    have k:=r b c _ f<|aM q
    exact k.trans<|(l (b+(e+1)+1) d p).2 _ C H
  rw[jW];intro b i m n u;exact o (i - b - 1) b _ _ (aM m) (by rw[show b+(i - b - 1)+1=i by omega];exact aM n)
def pA.inj{a:ir}(h:pA a){i j:Nat}{x y:dD}(hx:a.cA[i]? =O x)(hy:a.cA[j]? =O y)(e:lx x=lx y):i=j:=by
 obtain⟨c,rfl⟩:=bR.1 hx;obtain⟨d,rfl⟩:=bR.1 hy;have f:=jW.1 h.up
 rcases Nat.lt_trichotomy i j with b|b|b
 ·exact absurd e (f i j c d b).ne
 ·exact b
 ·exact absurd e.symm (f j i d c b).ne
def Qj{l:aG dD}{p:bX}(h:l.Pairwise (λx b=>yJ (lx x)<|lx b))(hl:Z l<=1048576)(e:4194304<=N){φ:dD->bX->aP Int}(k:∀x,φ x p=O (iQ (lx x) p)):
  ∃r,L5 N l p φ=O r/\(bif(!r.2)then O (-1)else O r.1)=O (OI l<|λx=>decide<|lx x=p):=by
 obtain⟨r,q,s,t⟩:=Wa (N:=N) (l:=l) (s:=p) (φ:=φ) (λx=>iQ (lx x) p) (λx _=>k x) (λa m x b f i j u=>by
  obtain⟨c,rfl⟩:=bR.1 i;obtain⟨d,rfl⟩:=bR.1 j;have g:=jW.1 h a m c d f;refine F6.2 ?_
  by_cases o:iQ (lx l[a]) p=0
  ·grind [qe]
  ·exact(F6.1 C).trans g) hl e
 have n:(λx=>iQ (lx x) p==0)=(λx=>decide<|lx x=p):=by
  grind [qe]
 grind [iL,lU,GS]
def jZ(a:ir)(p:bX):Int:=OI a.cA<|λx=>decide<|lx x=p
theorem Qk(a:ir)(p:bX):(jZ a p = -1/\∀x∈a.cA,lx x≠p)\/∃(k:Nat)(x:dD),jZ a p=(k:Int)/\a.cA[k]? =O x/\lx x=p:=by
 rcases qI a.cA (λx=>decide<|lx x=p)with⟨b,c⟩|⟨k,x,b,c,d,_⟩
 ·exact .inl ⟨b,λx e=>of_decide_eq_false<|c x e⟩
 ·exact .inr ⟨k,x,b,c,of_decide_eq_true d⟩
end
theorem DX{α β:Type}{l:aG α}{f:α->aP β}{k:Nat}{x:α}{c:β}(hx:l[k]? =O x)(a:∀(j:Nat)y,j<k->l[j]? =O y->f y=aQ)(hc:f x=O c):l.findSome? f=O c:=by
 obtain⟨a,rfl⟩:=bR.1 hx;rw[List.findSome?_eq_some_iff];refine⟨l.take k,l[k],l.drop<|k+1,?_,hc,λy a=>?_⟩
 ·rw[List.getElem_cons_drop,List.take_append_drop]
 grind [dM,bR,cQ,List.getElem?_take_of_lt]
theorem IZ{α β:Type}{l:aG α}{f:α->aP β}(h:∀(j:Nat)y,j<Z l->l[j]? =O y->f y=aQ):l.findSome? f=none:=by
 grind [List.findSome?_eq_none_iff,dM,bR]
section
variable {N:Nat}
theorem acL(c:UInt8):(bif(!(((decide ((c.toNat:Int)>=97)&&decide ((c.toNat:Int)<=122))||(decide ((c.toNat:Int)>=65)&&decide ((c.toNat:Int)<=90)))||(decide ((c.toNat:Int)>=48)&&decide ((c.toNat:Int)<=57))))then(D (iM N (⟨[95,43,45,35]⟩) (c.toNat:Int)) λa=>O<|decide<|a<0)else O aK)=O (KU c):=by
 grind [BU,w,KU,decide,Lib.indexByte]
theorem I0{s:cU}(h:Z s.eI<=2097152)(a:4194304<=N):i7 N s=O (fd s):=by
 refine l_ ?_;unfold i7 fd;refine v (kg (n:=Z s.eI) (λs=>s) (λc _=>∀(a:Nat)b,a<c->s.eI[a]? =O b->KU b=aK) (Go:=λ_=>s.eI.any KU=aK) (Rt:=λd=>d=aK/\s.eI.any KU=aA) ?_ ?_ (cT _) rfl (λa b a=>C) C) ?_
 ·rintro c a b a c;subst a;rw[iB b,aN]
  grind [dy,Kl,acL,p5,ky,cH,fx,bM]
 ·grind [ga,List.any_eq_false,dM,bR]
 intro a a;refine gf a (λa a=>?_)<|λd b=>o H
 rw[a];show Ok (D (O _) _) _
 grind [o,lU]
def Ql{s:cU}(h:Z s.eI<=2097152)(a:4194304<=N):lL N s=O (lR s):=by
 refine l_ ?_;unfold lL lR;refine dy (KY 47 h a) ?_;have a:=H6 s 47;refine v (kg (n:=Z (qU s 47)) (λs=>s) (λa _=>∀(b:Nat)c,b<a->(qU s 47)[b]? =O c->fd c=aA) (Go:=λ_=>(qU s 47).all fd=aA) (Rt:=λd=>d=aK/\(qU s 47).all fd=aK) ?_ ?_ (cT _) rfl (λb c b=>C) C) ?_
 ·rintro a b b c e;subst c;rw[iB b,aN];have c:(qU s 47)[a]? =O (qU s 47)[a]:=aM b;have a:=H5<|cH b
  grind [fy,dy,I0,p5,fx,bM]
 ·grind [ga,qX,dM,bR]
 intro a a;refine gf a (λa a=>o ?_)<|λd a=>o H
 grind
def zk(n lo hi:Int):fD N n lo hi=O (iP n lo hi):=rfl
theorem tB{b:cM}(h:w7 b=aA):dA N b=O (DL b):=r5 (N:=N) h
def Ij{b:cM}:jw N b=O (rk b).2:=by
 have c:(bif(!(iP b.gK 1 10000))then O aA else O (!(w6 b.At)))=O (!w7 b):=by unfold w7;cases iP b.gK 1 10000 <;> rfl
 have d:∀a,dI N a=O (vc a):=λ_=>rfl;unfold jw rk;rw[zk,w,IL,w,c,w]
 cases a:w7 b with
 |false=>rfl
 |true=>
  rw[iL,aR,tB a,w];simp only[d,w];unfold dJ
  cases vc (DL b).X0 <;> cases vc (DL b).Y0 <;> cases vc (DL b).X1 <;> cases vc (DL b).Y1 <;> rfl
def ZH{x y:dD}:(x.Part.v7 y.Part||(x.Part.sU y.Part&&(x.bX.v7 y.bX||x.bX.sU y.bX)))=decide (iQ (lx x) (lx y)<=0):=by
 have lm:iQ (lx x) (lx y)<=0↔yJ (lx x) (lx y)\/lx x=lx y:=by
  rw[<-vK,<-qe];omega
 rw[iK,dZ,lm,jk,dE,jk,tG,tG];unfold yJ lx;simp only[bX.mk.injEq];constructor
 ·rintro(c|⟨b,a|a⟩)
  ·exact .inl<|.inl c
  ·exact .inl<|.inr ⟨b,a⟩
  grind
 ·rintro((c|⟨b,a⟩)|⟨b,a⟩)
  ·exact .inl c
  ·exact .inr ⟨b, .inl a⟩
  grind
def Lm{a:ir}(hc:Z a.aS<=1073741824)(hl:Z a.cA<=1073741824){k:Nat}{x:dD}(hx:a.cA[k]? =O x)(c:Z x.Part.eI<=2097152/\Z x.bX.eI<=2097152)(b:4194304<=N):kh N a (k:Int)=O ((nu a k).getD 0):=by
 have d:=(bR.1 hx).1;have d:wrap .i64 ((Z a.aS:Int) - 1)=(Z a.aS:Int) - 1:=fG C C;unfold kh nu;rw[bS hx,w,Ql c.1 b,w,hx,Option.bind_some];have b:(bif(!(lR x.Part))then O aA else(D (i7 N x.bX) λc=>O<|!c))=O (!(lR x.Part&&fd x.bX)):=by
  grind [I0,w,lR]
 rw[b,w]
 cases b:(lR x.Part&&fd x.bX)with
 |false=>rfl
 |true=>
  rw[iL,aR,aL rfl,d,zk,w];have b:(bif(!(iP x.cR 0<|(Z a.aS:Int) - 1))then O aA else(D (iG N x.At) λc=>O<|!c))=O (!(iP x.cR 0 ((Z a.aS:Int) - 1)&&w6 x.At)):=by
   grind [IL,w]
  rw[b,w]
  cases b:(iP x.cR 0 ((Z a.aS:Int) - 1)&&w6 x.At)with
  |false=>rfl
  |true=>
   rw[iL,aR,aL rfl]
   by_cases b:0<k
   ·have d:a.cA[k - 1]? =O (a.cA[k - 1]' C):=aM _;rw[bN C,aN,kn b C,bS d,w,ZH]
    by_cases c:iQ (lx x) (lx<|a.cA[k - 1]' C)<=0
    ·rw[bN c,aN,aL ⟨b,_,d,c⟩];rfl
    grind
   grind
noncomputable def qz(a:ir):Int:=if Z a.aS=0 then 9 else if 16<Z a.aS then 2 else match a.aS.findSome? DS with
 |some e=>e
 |none=>if lu a.cZ≠0 then lu a.cZ else if 2000<Z a.cZ+(a.aS.map List.length).sum then 2 else if kL a≠0 then kL a else qx a
def Qm(a:ir):mx a=if qz a≠0 then qz a else if w8 a then 12 else 0:=by
 unfold mx qz TO Oa
 by_cases e:Z a.aS=0
 ·rw[aL e,aL e,aL I]
 rw[aJ e,aJ e]
 by_cases f:16<Z a.aS
 ·rw[aL f,aL f,aL I]
 rw[aJ f,aJ f]
 cases k:a.aS.findSome? DS with
 |some h=>
  have j:h≠0:=by
   obtain⟨_,l,_,_,b,_⟩:=List.findSome?_eq_some_iff.1 k;unfold DS at b;split at b
   ·rename_i i;injection b with b;rw[<-b];exact i
   ·cases b
  dsimp only;rw[aL j]
 |none=>
  dsimp only
  by_cases c:lu a.cZ≠0
  ·rw[aL c,aL c,aL c]
  rw[aJ c,aJ c]
  by_cases g:2000<Z a.cZ+(a.aS.map List.length).sum
  ·rw[aL g,aL g,aL I]
  rw[aJ g,aJ g]
  by_cases d:kL a≠0
  ·rw[aL d,aL d,aL d]
  rw[aJ d,aJ d]
def Ln{a:ir}(h:qz a=0):kL a=0:=by
 grind [qz,DS,List.findSome?_eq_some_iff,lu,List.length,kL]
def Jt{a:ir}(n:AN a)(z:nq N):jS N a=O (qz a):=by
 refine l_ ?_;have Y:=n.cs;have c2:=n.out;have c3:=n.bs;have c4:=n.ls;unfold jS qz;refine jn (λd=>o ?_)<|λd=>?_
 ·grind
 have K:¬(Z a.aS)=0:=H
 rw[aJ K];refine jn (λd=>o ?_)<|λd=>?_
 ·grind
 have L:¬16<Z a.aS:=H
 rw[aJ L];have V:∀b,b<=Z a.aS->((a.aS.take b).map List.length).sum<=b*1048576:=by
  intro b
  induction b with
  |zero=>intro _;simp
  |succ b T=>
   intro h;have:=T C;have p:=n.each _<|cH (show b<Z a.aS by omega)
   grind [dQ]
 refine v (kg (n:=Z a.aS) (λk=>k.2) (λb k=>k.1=((Z a.cZ+((a.aS.take b).map List.length).sum:Nat):Int)/\∀(e:Nat)g,e<b->a.aS[e]? =O g->DS g=aQ)
  (Go:=λk=>k.1=((Z a.cZ+(a.aS.map List.length).sum:Nat):Int)/\a.aS.findSome? DS=aQ) (Rt:=λg=>a.aS.findSome? DS=O g) ?_ ?_ (cT _) rfl ⟨G,λe g s=>C⟩ C) ?_
 ·rintro b⟨U,y⟩h f⟨u,i⟩;dsimp only at f u ⊢;subst f;subst u;have j:a.aS[b]? =O a.aS[b]:=aM h;have he:=n.each _<|cH h
  have aa:=V b C;rw[iB h,aN];refine fy j<|dy (Cs C z)<|jn (λc=>p5 ?_)<|λc=>fy j<|fx ⟨bM C,?_,λe g s m=>?_⟩
  ·grind [DX,DS]
  ·dsimp only;rw[ed C,dQ h,fY,List.sum_append]
   grind
  grind [DS]
 ·grind [fz,ga,IZ]
 intro B x;refine gf x ?_<|λg m=>o (by rw[m])
 rintro⟨U,y⟩⟨u,Q⟩;dsimp only at u ⊢;subst u;rw[Q];dsimp only;refine dy (Cs C z)<|jn (λd=>o ?_)<|λd=>?_
 ·rw[aL (by simpa using d)]
 rw[aJ (by simpa using d)];have R:Ok (bif decide (((Z a.cZ+(a.aS.map List.length).sum:Nat):Int)>2000)then O aA else O (decide<|(Z a.aX:Int)>500)) (λl=>l=decide (2000<Z a.cZ+(a.aS.map List.length).sum\/500<Z a.aX)):=by
  by_cases p:2000<Z a.cZ+(a.aS.map List.length).sum
  ·rw[bN C,aN];exact o (bN<|.inl p).symm
  ·rw[bW C,aR];refine o ?_;rw[decide_eq_decide];omega
 refine v R λl c=>?_;subst c;refine jn (λd=>o ?_)<|λd=>?_
 ·have d:=of_decide_eq_true d
  by_cases p:2000<Z a.cZ+(a.aS.map List.length).sum
  ·rw[aL p]
  ·rw[aJ p];have c:kL a=2:=by unfold kL;rw[aL C]
   rw[c,aL I]
 have d:=of_decide_eq_false d;rw[aJ C];have A:kL a=(a.aX.findSome?<|qc (Z a.aS)).getD 0:=by unfold kL;rw[aJ C]
 have S:wrap .i64 ((Z a.aS:Int) - 1)=(Z a.aS:Int) - 1:=fG C C;refine v (kg (n:=Z a.aX) (λk=>k) (λb _=>∀(e:Nat)l,e<b->a.aX[e]? =O l->qc (Z a.aS) l=aQ) (Go:=λ_=>a.aX.findSome? (qc (Z a.aS))=aQ) (Rt:=λg=>a.aX.findSome? (qc (Z a.aS))=O g/\g≠0) ?_ ?_ (cT _) rfl (λe l s=>C) C) ?_
 ·rintro b y h f i;subst f;rw[iB h,aN];have j:a.aX[b]? =O a.aX[b]:=aM h;refine fy j<|dy Ij<|jn (λc=>p5 ?_)<|λc=>?_
  ·have c:(rk a.aX[b]).2≠0:=by simpa using c
   exact⟨DX j i (by unfold qc;rw[aL c]),c⟩
  ·have c:¬(rk a.aX[b]).2≠0:=by simpa using c
   rw[S];have E:(D (fD N a.aX[b].dC 0<|(Z a.aS:Int) - 1) λW=>bif(!W)then O aA else(D (fD N a.aX[b].To a.aX[b].dC<|(Z a.aS:Int) - 1) λX=>O<|!X))=O (!(iP a.aX[b].dC 0 ((Z a.aS:Int) - 1)&&iP a.aX[b].To a.aX[b].dC ((Z a.aS:Int) - 1))):=by
    rw[zk,w,zk,w]
    cases iP a.aX[b].dC 0 ((Z a.aS:Int) - 1) <;> rfl
   refine dy E<|jn (λq=>p5 ⟨DX j i ?_,I⟩)<|λq=>fx ⟨bM C,λe l s r=>?_⟩
   ·unfold qc;rw[aJ c,aJ (by rintro⟨F,J⟩;rw[F,J]at q;cases q)]
   ·by_cases f:e=b
    ·subst f;rw[j]at r;injection r with r;rw[<-r]
     rw[Bool.not_eq_false',dE]at q;unfold qc;rw[aJ c,aL q]
    ·exact i e l C r
 ·rintro y f i;subst f;rw[nG,aR];exact ga<|IZ i
 intro B x;refine gf x ?_<|λg m=>o ?_
 rotate_left
 ·rw[A,m.1,Option.getD_some,aL m.2]
 intro _ P;rw[A,P,Option.getD_none,aJ I];unfold qx;refine jn (λd=>o ?_)<|λd=>?_
 ·rw[aL (by have:=of_decide_eq_true d;omega)]
 have M:¬1000<Z a.cA:=by have:=of_decide_eq_false d;omega
 rw[aJ M];refine v (kg (n:=Z a.cA) (λk=>k) (λb _=>∀e,e<b->nu a e=aQ) (Go:=λ_=>pR (Z a.cA) (nu a)=aQ) (Rt:=λg=>pR (Z a.cA) (nu a)=O g) ?_ ?_ (cT _) rfl (λe s=>C) C) ?_
 ·rintro b y h f i;subst f;rw[iB h,aN];have j:a.cA[b]? =O a.cA[b]:=aM h;refine dy (Lm C C j (n.nm _<|cH h) C)<|jn (λc=>p5 ?_)<|λc=>fx ⟨bM C,λe s=>?_⟩
  ·cases t:nu a b with
   |none=>rw[t]at c;cases c
   |some f=>exact mM.2 ⟨b,h,t,i⟩
  ·by_cases f:e=b
   ·subst f
    cases t:nu a e with
    |none=>rfl
    |some f=>rw[t]at c;exact absurd (by simpa using c) (Ll t)
   ·exact i e C
 ·rintro y f i;subst f;rw[nG,aR];exact ga<|nN.2 i
 intro B x;exact gf x (λ_ d=>o (by rw[d];rfl))<|λg m=>o (by rw[m];rfl)
def B3(b:cM)(k:Int):gI N b k=O (qy b k):=rfl
def DY{a:ir}{i:Nat}{r:aG z}{s:aG aB}(f:nP a.aX)(hr:a.aS[i]? =O r)(b:Z r<=2000)(k:∀x∈r,LQ x)(hd:BV r (nv a.aX (i:Int)) s)(h:nq N):iT N a (i:Int)=O (bF s):=by
 refine l_ ?_;have b:=f.len;have b:=H8 f (i:Int);have j:=yF f (i:Int);unfold iT;refine v (kg (n:=Z a.aX) (λs=>s.2) (λb d=>d.1=nv (a.aX.take b) (i:Int)) (Go:=λd=>d.1=nv a.aX (i:Int)) (Rt:=λ_=>False) ?_ ?_ (cT _) rfl rfl C) ?_
 ·rintro b⟨c,n⟩g c e;dsimp only at c e ⊢;subst c;subst e;have c:a.aX[b]? =O a.aX[b]:=aM g;have m:nv (a.aX.take<|b+1) (i:Int)=if qy a.aX[b] (i:Int)=aA then nv (a.aX.take b) (i:Int)++[DL a.aX[b]]else nv (a.aX.take b) (i:Int):=by
   grind [nv,dQ]
  have l:Z (nv (a.aX.take b) (i:Int))<=b:=by
   unfold nv
   grind
  rw[iB g,aN];refine fy c<|dy (B3 _ _)<|v (P:=λd:aG z=>d=nv (a.aX.take<|b+1) (i:Int)) (jn (λb=>?_)<|λb=>o ?_)<|λd l=>fx ⟨bM C,l⟩
  ·refine fy c<|dy (tB (f.ok _<|cH g).1)<|li H<|o ?_
   rw[m,aL b]
  grind
 ·simp[nG,aR,ga,fz]
 intro b b;refine gf b ?_<|λr hr=>hr.elim
 rintro⟨b,n⟩e;dsimp only at e ⊢;subst e;obtain⟨e,_,b⟩:=vI (N:=N) (l:=nv a.aX (i:Int)) C (λx c=>(j x c).1) C;obtain⟨f,f,f⟩:=b.PV;have f:2*Z (nv a.aX (i:Int))*(2*Z (nv a.aX (i:Int)))<=1000*1000:=Nat.mul_le_mul C C;refine fy hr<|dy (B0 b.can b.cover C (λx c=>(j x c).1.x) C h) ?_
 unfold nj;have f:=(Ex (A:=5000) hd.can hd.lim (by grind [cK,yC]) (by grind [cK,qu])).2.2
 have f:jo N r (bF e) 3=O (bF s):=Qe hd.can (λx e=>by
  rw[hd.cover,ux b.can,b.cover];rfl) C C (λx c=>(k x c).x) (λx c=>(AU b.can x c).1) C h
 grind [w,o]
theorem Ik:∀(a:aG (aG<|aG aB))(k:Nat),Z (cG k a)=(a.map List.length).sum
 | [],k=>rfl
 |b::a,k=>by
  show Z (b.map _++cG (k+1) a)=_;rw[cK,dR,Ik a<|k+1,gQ,List.sum_cons]
def T1{a:ir}{d:aG (aG aB)}{b:aG (aG<|aG aB)}(hg:v5 a)(c:DO a.aS a.aX (Z a.aS) d b){i:Nat}{s:aG aB}(hi:i<Z a.aS)(hd:d[i]? =O s)(g:Z (bF s)<=2000):∃d u,b[i]? =O d/\zO a.aS[i] (nv a.aX (i:Int)) s u d:=by
 have d:b[i]? =O (b[i]'(by rw[c.H9];exact hi)):=aM _;have f:=c.dr i _ _ hi (aM hi) hd;obtain⟨u,h⟩:=c.pt i _ _ hi hd d;have e:=wA.1<|hg.reg _<|cH hi
 exact⟨_,u,d,λc b=>((zM.1 e.1).2 c b).1,λc b=>(yF hg.gb _ c b).2,(K0 e.1).2,λc b=>(yF hg.gb _ c b).1,f,h,g⟩
def zO.pieces{r b:aG z}{s:aG aB}{u:Nat->Nat}{a:aG (aG aB)}(h:zO r b s u a)(b:nq N):ik N (bF s)=O (a.map bF):=by
 refine Qi h.dr.can h.pt h.CX (λd c=>?_) (λa a=>(h.part a).2.1) b;obtain⟨a,a,a⟩:=SU h.r1 h.r2 h.dr.can h.dr.lim d c
 grind [N4]
theorem RG{a b:z}(c:a.X0<a.X1/\a.Y0<a.Y1)(c:b.X0<b.X1/\b.Y0<b.Y1):iH N a b=O (P6 a b):=by
 grind [iH,EA,vf,decide,Min.min,Max.max,P5,P6]
theorem xr{b:cM}(h:w7 b=aA):(DL b).X0<(DL b).X1/\(DL b).Y0<(DL b).Y1:=by
 obtain⟨a,_,_⟩:=zg h;simp only[DL];omega
inductive y7 (N:Nat) (a:ir):Prop
 |err (e:Int) (he:e≠0) (h1:jE N a=O (aQ,e)) (h2:gr N a=O e)
 |ok {kT:aG (aG aB)} {dW:aG (aG (aG aB))} {r:Nat->Nat} {gs:aG bL} {ofP ofB nF:aG Int} {ny:aG gL} (b:mE a kT dW r gs ofP ofB nF ny)
  (h1:jE N a=O (O (a.aS,a.cZ,a.aX,a.cA,kT,cG 0 dW,jH a.aX<|cG 0 dW,gs,ofP,ofB,nF,ny),0)) (h2:gr N a=O 0)
def SW{a:ir}(k:nP a.aX)(b:nq N){f:Int->aP Int}{Q:Int->Prop}(hc:w8 a->Q 12)(b:¬w8 a->∀s,Ok (f s) Q):
  Ok (D (gh (λ(b:Int)=>(bif decide (b<(Z a.aX:Int))then(D (gh (λ(c:Int)=>(bif c<b then(D (D (A a.aX b) λn=>D (A a.aX c) λp=>D (ki N n p) λq=>bif q then(D (A a.aX b) λr=>D (dA N r) λt=>D (A a.aX c) λu=>D (dA N u) λx=>D (iH N t x) λy=>O y)else O aK) λd=>bif d then O (.rt 12)else O (.nx<|wrap .i64<|c+1))else(O<|.br c):aP (Fl Int Int))) N 0) λd=>d.cs (λ(c:Int)=>O<|.nx<|wrap .i64<|b+1)<|λg=>O<|.rt g)else(O<|.br b):aP (Fl Int Int))) N 0) λb=>b.cs f<|λg=>O g) Q:=by
 have b:=k.len;refine v (kg (n:=Z a.aX) (λs=>s) (λb _=>∀(h c:Nat)(j d:cM),h<b->c<h->a.aX[h]? =O j->a.aX[c]? =O d->¬yH j d=aA) (Go:=λ_=>¬w8 a) (Rt:=λg=>g=12/\w8 a) ?_ ?_ (cT _) rfl (λh c j d F=>C) C) ?_
 ·rintro b s e i E;subst i;rw[iB e,aN];have l:a.aX[b]? =O a.aX[b]:=aM e;have m:=(k.ok _<|cH e).1;refine v (kg (n:=b) (λs=>s) (λe _=>∀(c:Nat)(d:cM),c<e->a.aX[c]? =O d->¬yH a.aX[b] d=aA) (Go:=λ_=>∀(c:Nat)(d:cM),c<b->a.aX[c]? =O d->¬yH a.aX[b] d=aA) (Rt:=λg=>g=12/\w8 a) ?_ ?_ (cT _) rfl (λc d z=>C) C) ?_
  ·rintro e s B i m;subst i;rw[iB B,aN];have m:a.aX[e]? =O (a.aX[e]' C):=aM _;have G:=(k.ok _<|cH (show e<Z a.aX by omega)).1;have k:(D (A a.aX ((b:Nat):Int)) λn=>D (A a.aX ((e:Nat):Int)) λp=>D (ki N n p) λq=>bif q then(D (A a.aX ((b:Nat):Int)) λr=>D (dA N r) λt=>D (A a.aX ((e:Nat):Int)) λu=>D (dA N u) λx=>D (iH N t x) λy=>O y)else O aK)=O (yH a.aX[b]<|a.aX[e]' C):=by
    rw[bS l,w,bS m,w];unfold ki yH;rw[w]
    cases(decide (a.aX[b].dC<=(a.aX[e]' C).To)&&decide ((a.aX[e]' C).dC<=a.aX[b].To))with
    |false=>rfl
    |true=>grind [w,tB,RG,xr]
   refine dy k<|jn (λk=>p5 ⟨rfl,b,e,_,_,B,l,m,k⟩)<|λk=>fx ⟨bM C,λc d z b=>?_⟩
   grind
  ·grind [ga]
  intro e e;refine gf e (λs e=>fx ⟨bM C,λh c j d F z e b=>?_⟩)<|λg b=>p5 b
  grind
 ·rintro s i E;subst i;rw[nG,aR];refine ga ?_;rintro⟨h,c,j,d,b,l,m,hc⟩
  grind
 grind [gf,o]
def u0{a:ir}(V:AN a)(p:nq N):y7 N a:=by
 obtain⟨aj,D,y⟩:=Ic (N:=N) V p;have g:=Qm a;have M:=Jt (N:=N) V p
 rcases y with⟨R,rfl⟩|⟨J,q,L,n,j,i,y⟩
 ·refine .err _ R D<|l_ ?_
  unfold gr;refine dy M ?_
  by_cases b:qz a≠0
  ·rw[aL b]at g;rw[show(qz a != 0)=aA by simpa using b,aN,g];exact o rfl
  ·rw[aJ b]at g;have w:qz a=0:=by simpa using b
   have r:w8 a:=by
    by_cases r:w8 a
    ·exact r
    ·rw[aJ r]at g;exact absurd g R
   rw[aL r]at g;rw[w,show((0:Int) != 0)=aK by rfl,aR];have A:=Ln w;refine SW ⟨(qK A).1,λH K=>⟨((qK A).2 H K).1,((qK A).2 H K).2.1⟩⟩ p (λ_=>g.symm)<|λb=>absurd r b
 ·have w:qz a=0:=by
   by_cases b:qz a≠0
   ·rw[aL b]at g;rw[g]at J;exact J
   ·simpa using b
  have x:gr N a=O (if Z4 n j then 0 else 2):=by
   refine l_ ?_;unfold gr;refine dy M ?_;rw[w,show((0:Int) != 0)=aK by rfl,aR];refine SW q.gb p (λb=>absurd b L)<|λ_ _=>?_
   have ae:=q.CX.2
   refine v (kg (n:=Z a.aS) (λf=>f.2) (λc d=>d.1=((((j.take c).map List.length).sum:Nat):Int)/\((j.take c).map List.length).sum<=c*2000/\∀(l:Nat)f,l<c->n[l]? =O f->Z (bF f)<=2000)
    (Go:=λd=>d.1=(((j.map List.length).sum:Nat):Int)/\∀f∈n,Z (bF f)<=2000) (Rt:=λE=>E=2/\¬Z4 n j) ?_ ?_ (cT _) rfl ⟨G,G,λl f u=>C⟩ C) ?_
   ·rintro c⟨X,W⟩k m⟨h,aa,z⟩;dsimp only at m h ⊢;subst m;subst h;rw[iB k,aN];have Q:a.aS[c]? =O a.aS[c]:=aM k;have t:n[c]? =O (n[c]'(by rw[i.len];exact k)):=aM _;have P:=q.cs _<|cH k
    refine dy (DY q.gb Q P.1 P.2 (i.dr c _ _ k Q t) p)<|jn (λb=>p5 ⟨rfl,λe=>?_⟩)<|λb=>?_
    ·have:=e.1 _<|eR t
     have:=of_decide_eq_true b;omega
    ·have e:Z (bF<|n[c]'(by rw[i.len];exact k))<=2000:=by have:=of_decide_eq_false b;omega
     obtain⟨ps,ai,S,F⟩:=T1 q i k t e;have ab:=F.pt.CX;have B:c<Z j:=by rw[i.H9];exact k
     have T:j[c]=ps:=by rw[aM B]at S;injection S
     refine dy (F.pieces p)<|fx ⟨bM C,?_,?_,λl f u s=>?_⟩
     ·dsimp only;rw[dR,ed C,dQ B,fY,List.sum_append,T];simp
     ·rw[dQ B,fY,List.sum_append,T];simp only[gQ,List.map_nil,List.sum_cons,List.sum_nil];rw[Nat.add_mul];omega
     ·by_cases m:l=c
      ·subst m;rw[t]at s;injection s with s;rw[<-s];exact e
      ·exact z l f C s
   ·rintro⟨X,W⟩m⟨h,aa,z⟩;dsimp only at m h ⊢;subst m;rw[nG,aR];rw[nR (by rw[i.H9];exact du _)]at h;refine ga ⟨h,λf ad=>?_⟩;obtain⟨l,u⟩:=dM ad;exact z l f (by have:=(bR.1 u).1;rw[i.len]at this;exact this) u
   intro af ho;refine gf ho ?_<|λE U=>o (by rw[U.1,aJ U.2])
   rintro⟨X,W⟩⟨h,e⟩;dsimp only at h ⊢;subst h;have ab:=Ik j 0;refine jn (λb=>o ?_)<|λb=>o ?_
   ·rw[aJ];rintro⟨_,h2⟩;have:=of_decide_eq_true b;omega
   ·rw[aL];exact⟨e,by have:=of_decide_eq_false b;omega⟩
  rcases y with⟨e,rfl⟩|⟨e,E,gs,ah,ag,nF,ny,Y,rfl⟩
  ·rw[aJ e]at x;exact .err 2 I D x
  ·rw[aL e]at x;exact .ok ⟨q,L,i,e,Y⟩ D x
end
def JL:∀{l m:aG Int},lF l->lF m->(∀x,x∈l↔x∈m)->l=m
 | [],[],_,_,_=>rfl
 | [],c::m,_,_,a=>absurd ((a c).2 G) G
 |b::l,[],_,_,a=>absurd ((a b).1 G) G
 |b::l,c::m,g,h,a=>by
  have i:b=c:=by
   have e:=(a b).1 G;have f:=(a c).2 G
   rcases eO.1 e with d|e
   ·exact d
   ·rcases eO.1 f with d|f
    ·exact d.symm
    ·have:=g.head c f;have:=h.head b e;omega
  subst i;rw[JL g.tail h.tail λx=>?_];have b:=a x;rw[eO,eO]at b;constructor
  ·intro c
   rcases b.1 (.inr c)with d|a
   ·have:=g.head x c;omega
   ·exact a
  ·intro c
   rcases b.2 (.inr c)with d|a
   ·have:=h.head x c;omega
   ·exact a
def Qn{l:aG Nat}(h:l.Pairwise (· < ·)):lF (hM l):=by
 grind [lF,hM]
section
variable {N:Nat}
def Lo{l:aG Int}{c:Int}(h:lF l)(hl:Z l<=1000000000)(I:nq N):kl N l c=O (xH l c):=by
 refine l_ ?_;unfold kl
 refine v (od (Go:=λg=>∃a:Nat,g=(a:Int)/\a<=Z l/\(∀(b:Nat)d,a<=b->l[b]? =O d->c<d)/\(∀d,0<a->l[a - 1]? =O d->¬c<d)) (Rt:=λ_=>False)
  (λg=>∃a:Nat,g=(a:Int)/\a<=Z l/\∀(b:Nat)d,a<=b->l[b]? =O d->c<d) (λg=>g.toNat) ?_ ⟨Z l,rfl,du _,λb d e f=>H⟩ C) ?_
 ·rintro g⟨a,rfl,k,j⟩
  by_cases p:0<a
  ·have f:l[a - 1]? =O (l[a - 1]' C):=aM _
   grind [bN,kn,bS,w,fx,cN,of_decide_eq_false,ga]
  grind [bW,w,ga]
 intro L y;refine gf y ?_<|λt z=>z.elim
 rintro g⟨a,rfl,k,j,u⟩;have x:∀(b:Nat)d,b<a->l[b]? =O d->d<=c:=λb d e f=>by
  have s:l[a - 1]? =O (l[a - 1]' C):=aM _;have q:=u _ C s
  by_cases n:b=a - 1
  ·grind
  ·have:=h.lt (i:=b) (j:=a - 1) C f s;omega
 have J:c∉l->xH l c=l.take a++c::l.drop a:=λi=>by
  grind [xH,xG,decide,bN,eR,bW]
 have r:c∉l->Ok (D (wX l 0 (a:Int)) λA=>D (gx 8 ([]:aG Int) A) λB=>D (gx 8 B ([c]:aG Int)) λE=>D (wX l (a:Int) (Z l:Int)) λF=>D (gx 8 E F) λG=>O G) (λt=>t=xH l c):=λi=>by
  have K:Z (l.take a)=a:=H
  refine dy (pd l a k)<|li H<|li H<|dy (ti l a k)<|li ?_<|o ?_
  ·grind
  grind
 by_cases p:0<a
 ·have f:l[a - 1]? =O (l[a - 1]' C):=aM _;rw[bN C,aN,kn p C,bS f,w,w];refine jn (λm=>o ?_)<|λm=>r ?_
  ·grind [xH,eR]
  ·rw[beq_eq_false_iff_ne]at m;intro i;obtain⟨b,e⟩:=dM i
   by_cases q:a<=b
   ·have:=j b c q e;omega
   ·by_cases n:b=a - 1
    ·subst n;rw[f]at e;injection e with e;exact m e
    ·have:=h.lt (i:=b) (j:=a - 1) C e f;have:=x (a - 1) _ C f;omega
 ·rw[bW C,aR,w,aR];refine r λi=>?_;obtain⟨b,e⟩:=dM i;have:=j b c C e;omega
def B4{l:aG Int}{c:Int}(hl:Z l<=1099511627776)(a:nq N):dK N l c=O (decide<|c∈l):=by
 refine l_ ?_;unfold dK;refine v (kg (n:=Z l) (λd=>d) (λa _=>∀(b:Nat)e,b<a->l[b]? =O e->e≠c) (Go:=λ_=>c∉l) (Rt:=λf=>f=aA/\c∈l) ?_ ?_ (cT _) rfl (λb e b=>C) C) ?_
 ·rintro a d b e g;subst e;rw[iB b,aN];have e:l[a]? =O l[a]:=aM b
  grind [fy,p5,fx,bM,cH]
 ·grind [ga,dM,bR]
 intro a a;exact gf a (λd a=>o (bW a).symm)<|λf a=>o H
def Wb{p q:z}(a:p.X0<p.X1/\p.Y0<p.Y1)(hq:q.X0<q.X1/\q.Y0<q.Y1):zh p q=decide ((0<min p.X1 q.X1 - max p.X0 q.X0/\min p.Y1 q.Y1 - max p.Y0 q.Y0=0)\/(min p.X1 q.X1 - max p.X0 q.X0=0/\0<min p.Y1 q.Y1 - max p.Y0 q.Y0)):=by
 unfold zh
 grind
def Xz{l:aG z}{q:z}(hl:Z l<=1000000000)(e:∀r∈l,LQ r)(hq:LQ q)(a:nq N):lq N l q=O (l.any<|λr=>zh r q):=by
 refine l_ ?_;unfold lq;refine v (kg (n:=Z l) (λf=>f) (λa _=>∀(b:Nat)c,b<a->l[b]? =O c->zh c q=aK) (Go:=λ_=>l.any (λr=>zh r q)=aK) (Rt:=λr=>r=aA/\l.any (λr=>zh r q)=aA) ?_ ?_ (cT _) rfl (λb c b=>C) C) ?_
 ·rintro a f d b c;subst b;rw[iB d,aN];have c:l[a]? =O l[a]:=aM d;have b:=e _<|cH d
  have d:=Wb (p:=l[a]) (q:=q) ⟨b.x,b.y⟩ ⟨hq.x,hq.y⟩;have d:=b.s1;have g:=b.s2;have h:=b.s3;have i:=b.s4;have j:=hq.s1;have k:=hq.s2;have m:=hq.s3;have n:=hq.s4;unfold i_ at d g h i j k m n;refine fy c<|fy c<|fy c<|fy c ?_
  rw[EA,EA,vf,vf,fG (x:=min l[a].X1 q.X1 - max l[a].X0 q.X0) C C,fG (x:=min l[a].Y1 q.Y1 - max l[a].Y0 q.Y0) C C]
  grind [decide,Min.min,Max.max,p5,ky,cH,fx,bM]
 ·grind [ga,List.any_eq_false,dM,bR]
 intro a e;exact gf e (λf a=>o a.symm)<|λr b=>o H
theorem Il(r:aG z)(p:dP):IM r p=zK r p.X p.Y:=by
 grind [IM,zK,ge_iff_le]
theorem I1{r:aG z}{p:dP}(hl:Z r<=134217728)(hr:∀x∈r,x.X0<x.X1)(a:nq N):gv N r p=O (IM r p):=by
 refine l_ ?_;unfold gv
 grind [v,Ob,AR,dR,dy,Ie,o,EB,Il]
def Wc(bs:aG cM)(pcs:aG aH)(l:dD):aP gL:=match pcs.findIdx? (oM l)with
 |some k=>O ⟨aK,((k:Nat):Int)⟩
 |none=>(bs.findIdx? (qV l)).map λk=>⟨aA,((k:Nat):Int)⟩
def XA{bs:aG cM}{pcs:aG aH}{l:dD}(hd:∀b∈bs,∀p∈pcs,qV l b=aA->oM l p=aA->False):Wc bs pcs l=wV bs pcs l:=by
 unfold Wc wV
 grind
theorem Lp{α:Type}{l:aG α}{p:α->Bool}{k:Nat}{x:α}(hx:l[k]? =O x)(a:p x=aA)(a:∀(j:Nat)y,j<k->l[j]? =O y->p y=aK):l.findIdx? p=O k:=by
 grind [bR,List.findIdx?_eq_some_iff_getElem,aM]
theorem Lq{α:Type}{l:aG α}{p:α->Bool}(a:∀(j:Nat)y,j<Z l->l[j]? =O y->p y=aK):l.findIdx? p=none:=by
 grind [List.findIdx?_eq_none_iff,dM,bR]
def T2{bs:aG cM}{pcs:aG aH}(i:nP bs)(a:Z pcs<=1000000)(hr:∀p∈pcs,Z p.eG<=1000000/\∀x∈p.eG,x.X0<x.X1)(l:dD)(k:nq N):
  jy N bs (pcs.map aH.cR) (pcs.map aH.eG) l=O ((Wc bs pcs l).getD ⟨aK,0⟩,(Wc bs pcs l).isSome):=by
 refine l_ ?_;have a:=i.len;unfold jy Wc;rw[dR];refine v (kg (n:=Z pcs) (λe=>e) (λa _=>∀(c:Nat)x,c<a->pcs[c]? =O x->oM l x=aK) (Go:=λ_=>pcs.findIdx? (oM l)=aQ) (Rt:=λd=>∃a:Nat,pcs.findIdx? (oM l)=O a/\d=(⟨aK,((a:Nat):Int)⟩,aA)) ?_ ?_ (cT _) rfl (λc x n=>C) C) ?_
 ·rintro a e b f j;subst f;rw[iB b,aN];have h:pcs[a]? =O pcs[a]:=aM b;have g:(pcs.map aH.cR)[a]? =O pcs[a].cR:=H
  have g:(pcs.map aH.eG)[a]? =O pcs[a].eG:=H
  have g:=hr _<|cH b
  have m:(D (A (pcs.map aH.cR) ((a:Nat):Int)) λg=>bif g==l.cR then(D (A (pcs.map aH.eG) ((a:Nat):Int)) λg=>D (gv N g l.At) λg=>O g)else O aK)=O (oM l pcs[a]):=by
   grind [bS,w,I1,oM]
  grind [dy,p5,Lp,fx,bM]
 ·grind [ga,Lq]
 intro r g;refine gf g ?_ (λd hr=>by grind [o]);intro _ q;rw[q];dsimp only;refine v (kg (n:=bs.length) (λe=>e) (λa _=>∀(c:Nat)x,c<a->bs[c]? =O x->qV l x=aK) (Go:=λ_=>bs.findIdx? (qV l)=aQ) (Rt:=λd=>∃a:Nat,bs.findIdx? (qV l)=O a/\d=(⟨aA,((a:Nat):Int)⟩,aA)) ?_ ?_ (cT _) rfl (λc x n=>C) C) ?_
 ·rintro a e b f j;subst f;rw[iB b,aN];have h:bs[a]? =O bs[a]:=aM b;have c:=i.ok _<|cH b
  have m:(D (A bs ((a:Nat):Int)) λb=>bif b.iE then(D (A bs ((a:Nat):Int)) λb=>D (gI N b l.cR) λb=>bif b then(D (A bs ((a:Nat):Int)) λb=>D (dA N b) λb=>D (gv N ([b]:aG z) l.At) λb=>O b)else O aK)else O aK)=O (qV l bs[a]):=by
   rw[bS h,w,w,B3,w,w,tB c.1,w,I1 G (λx h=>by simp_all[xr]) k,w]
   grind [qV]
  grind [dy,p5,Lp,fx,bM]
 ·grind [ga,Lq]
 intro r g;exact gf g (λ_ a=>o (by rw[a];rfl)) (λd hr=>by grind [o])
end
section
variable {N:Nat}{a:ir}{kT:aG (aG aB)}{c:aG (aG (aG aB))}{r:Nat->Nat}{gs:aG bL}{ofP ofB nF:aG Int}{ny:aG gL}
theorem AW(b:mE a kT c r gs ofP ofB nF ny){p:aH}(l:p∈cG 0 c):Z p.eG<=2000/\(∀q∈p.eG,dJ q=aA/\q.X0<q.X1/\q.Y0<q.Y1)/\∃i:Nat,p.cR=(i:Int)/\∀x y,zK p.eG x y=aA->zK (nv a.aX (i:Int)) x y=false:=by
 obtain⟨i,o,q,f,g,rfl⟩:=Ib l;have k:i<Z a.aS:=by have:=(bR.1 f).1;rw[b.dr.H9]at this;exact this
 obtain⟨v,u,w,s,d,e⟩:=IY b k;rw[f]at d;injection d with d;subst d
 obtain⟨t,m,n⟩:=e.part g;refine⟨m,n,i,G,λx y j=>?_⟩;have h:zK (o.flatMap bF) x y=true:=IX.2 ⟨q,g,j⟩;rw[e.cover,e.dr.cover,dE,Bool.not_eq_true']at h;exact h.2
def XB(b:mE a kT c r gs ofP ofB nF ny)(l:dD):∀x∈a.aX,∀p∈cG 0 c,qV l x=aA->oM l p=aA->False:=λx i p f d e=>by
 obtain⟨_,_,g,g,h⟩:=AW b f;unfold qV at d;unfold oM at e;rw[dE,dE,Il]at d;rw[dE,Il,beq_iff_eq]at e;have f:=h _ _ e.2;rw[<-g,e.1]at f;obtain⟨e,e,g⟩:=mD.1 d.2.2;simp at e;subst e;have e:zK (nv a.aX l.cR) l.At.X l.At.Y=true:=mD.2 ⟨DL x,dH.2 ⟨x,nc.2 ⟨i,d.2.1⟩,rfl⟩,g⟩;rw[f]at e;cases e
end
structure PS (n:Nat) (r:Nat->Nat) (h:Nat) (q:aG Nat) (seen:aG Bool) (pieces todo:aG Int):Prop where
 sl:Z seen=n
 sn:∀p,p<n->seen[p]? =O (decide<|r p<h\/p∈q)
 qn:q.Nodup
 qi:∀p∈q,p<n/\r p=h
 q0:h∈q
 td:todo=hM q
 pi:lF pieces
 pm:∀x,x∈pieces↔∃p∈q,x=((p:Nat):Int)
structure QS (n m:Nat) (tch:aG (aG Int)) (r:Nat->Nat) (h:Nat) (q qb:aG Nat) (Hi:aG Int) (used:aG Bool):Prop where
 ul:Z used=m
 un:∀k,k<m->used[k]? =O (decide<|k∈qb)
 bi:lF Hi
 bm:∀x,x∈Hi↔∃k∈qb,x=((k:Nat):Int)
 bk:∀k∈qb,k<m/\r (n+k)=h/\∀l,tch[k]? =O l->∀p:Nat,(p:Int)∈l->p∈q
def PS.CX{n:Nat}{r:Nat->Nat}{h:Nat}{q:aG Nat}{b:aG Bool}{a c:aG Int}(H:PS n r h q b a c):Z q<=n/\Z a<=n:=by
 have a:=iw H.qn (m:=List.range n) (λc b=>by rw[A3];exact(H.qi c b).1);rw[List.length_range]at a;have a:=iw H.pi.nodup (m:=hM q)<|λb a=>tz.2<|(H.pm b).1 a
 grind [ov]
def QS.CX{n m:Nat}{c:aG (aG Int)}{r:Nat->Nat}{h:Nat}{q b:aG Nat}{a:aG Int}{d:aG Bool}(H:QS n m c r h q b a d):Z a<=m:=by
 have a:=iw H.bi.nodup (m:=hM (List.range m)) (λe d=>by
  obtain⟨a,c,b⟩:=(H.bm e).1 d
  exact tz.2 ⟨a,A3.2 (H.bk a c).1,b⟩)
 grind [ov,List.length_range]
def ZI(n t:Nat)(r:Nat->Nat)(h:Nat):lF (hM<|gP n<|h_ t r h):=Qn<|List.Pairwise.sublist (List.filter_sublist.trans List.filter_sublist)<|List.pairwise_lt_range (n:=t)
def Wd(bs:aG cM)(n t:Nat)(r:Nat->Nat)(h:Nat):lF (hM<|gB bs n<|h_ t r h):=by
 refine Qn ?_;unfold gB;rw[List.pairwise_map];have a:(List.filter (λa=> !decide (a<n)&&AM bs (a - n))<|h_ t r h).Pairwise (· < ·):=List.Pairwise.sublist (List.filter_sublist.trans List.filter_sublist)<|List.pairwise_lt_range (n:=t)
 grind
theorem Im{n t:Nat}{r:Nat->Nat}{h p:Nat}:p∈gP n (h_ t r h)↔p<n/\p<t/\r p=h:=by
 unfold gP
 grind [vZ]
def Io{bs:aG cM}{n t:Nat}{r:Nat->Nat}{h k:Nat}:k∈gB bs n (h_ t r h)↔n+k<t/\r (n+k)=h/\AM bs k=true:=by
 unfold gB;rw[dH];constructor
 ·grind [vZ,Bool.not_eq_true',decide_eq_false_iff_not]
 ·rintro⟨a,a,a⟩;refine⟨n+k,?_,C⟩
  grind [vZ,Bool.not_eq_true',decide_eq_false_iff_not,Nat.add_sub_cancel_left]
section
variable {N:Nat}
def Qo{bs:aG cM}{n m:Nat}{f:aG (aG Int)}{r:Nat->Nat}(hC:Jr n m f r)(hm:Z f=m)(ht:∀l∈f,Z l<=1073741824/\∀x∈l,∃i:Nat,i<n/\x=((i:Nat):Int))(hn:n<=1000000)(bp:m<=1000000)
  (a4:∀(k:Nat)l,f[k]? =O l->l≠[]->AM bs k=aA) {h:Nat} (hh:h<n) (hr:r h=h) {ak:aG Bool} (av:Z ak=n) (aw:∀p,p<n->ak[p]? =O (decide<|r p<h)) (hN:nq N):
  Ok (jc N f ((h:Nat):Int) ak) (λx=>x.1.1=hM (gP n<|h_ (n+m) r h)/\x.1.2.1=hM (gB bs n<|h_ (n+m) r h)/\x.1.2.2= []/\Z x.2=n/\∀p,p<n->x.2[p]? =O (decide<|r p<h+1)):=by
 unfold jc;refine fy (aw h hh)<|dy (vW aK C) ?_
 refine v (od (Go:=λd=>d.2.1=hM (gP n (h_ (n+m) r h))/\d.2.2.1=hM (gB bs n (h_ (n+m) r h))/\Z d.1=n/\∀p,p<n->d.1[p]? =O (decide (r p<h+1))) (Rt:=λ_=>False)
  (λd=>∃(g Q:aG Nat)(u:Nat),d.2.2.2.2.2=(u:Int)/\u<=Z g/\PS n r h g d.1 d.2.1 d.2.2.2.2.1/\QS n m f r h g Q d.2.2.1 d.2.2.2.1/\∀(e p k:Nat)l,e<u->g[e]? =O p->f[k]? =O l->((p:Nat):Int)∈l->k∈Q)
  (λd=>n+1 - d.2.2.2.2.2.toNat) ?_ ⟨[h],[],0,rfl,G,?_,?_,λe p k l L=>C⟩ (by simp;omega)) ?_
 ·rintro⟨sn,pi,bo,us,td,t'⟩⟨g,Q,u,b,bu,H,hQ,an⟩;dsimp only at b H hQ ⊢;subst b;have bt:Z td=Z g:=by rw[H.td,ov]
  have br:=H.CX
  by_cases aq:u<Z g
  ·rw[iB C,aN];have ar:g[u]? =O g[u]:=aM aq;have a7:=H.qi _<|cH aq
   refine v (kg (n:=Z f) (λd=>d.2.2.2.2.2) (λi d=>∃q' aa,g <+:q'/\(∀k∈Q,k∈aa)/\PS n r h q' d.1 d.2.1 d.2.2.2.2.1/\QS n m f r h q' aa d.2.2.1 d.2.2.2.1/\∀k l,k<i->f[k]? =O l->((g[u]:Nat):Int)∈l->k∈aa)
    (Go:=λd=>∃q' aa,g <+:q'/\(∀k∈Q,k∈aa)/\PS n r h q' d.1 d.2.1 d.2.2.2.2.1/\QS n m f r h q' aa d.2.2.1 d.2.2.2.1/\∀k l,f[k]? =O l->((g[u]:Nat):Int)∈l->k∈aa) (Rt:=λ_=>False) ?_ ?_ (cT _) rfl
    ⟨g,Q,List.prefix_refl _,λk I=>I,H,hQ,λk l I=>C⟩ C) ?_
   ·rintro k⟨aS,aD,am,al,ai,i'⟩I b⟨P,U,M,ae,K,y,ab⟩;dsimp only at b K y ⊢;subst b;rw[iB I,aN];have ag:k<m:=C
    have S:f[k]? =O f[k]:=aM I;have ax:=ht _<|cH I
    have a6:ai[u]? =O ((g[u]:Nat):Int):=by
     rw[K.td];unfold hM;rw[nQ,Ih M ar];rfl
    have a0:(D (A al ((k:Nat):Int)) λbf=>bif bf then O aA else(D (A f ((k:Nat):Int)) λbg=>D (A ai (u:Int)) λbh=>D (dK N bg bh) λbi=>O<|!bi))=O (decide (k∈U)|| !decide (((g[u]:Nat):Int)∈f[k])):=by
     rw[bS<|y.un k ag,w,bS S,w,bS a6,w,B4 (l:=f[k]) (c:=((g[u]:Nat):Int)) (by have:=ax.1;omega) hN,w]
     cases decide (k∈U) <;> rfl
    refine dy a0<|jn (λE=>fx ⟨bM C,P,U,M,ae,K,y,λs l J c X=>?_⟩)<|λE=>?_
    ·by_cases b:s=k
     ·subst b;rw[S]at c;injection c with c
      rw[c,bN X,iL,Bool.or_false,dZ]at E;exact E
     ·exact ab s l C c X
    ·rw[Bool.or_eq_false_iff,decide_eq_false_iff_not,Bool.not_eq_false',dZ]at E;obtain⟨bn,a8⟩:=E;have au:r (n+k)=h:=by rw[<-hC.co g[u] (n+k) ⟨k,_,S,a8,rfl⟩];exact a7.2
     have bm:=y.CX;refine fy (y.un k ag)<|dy (Lo y.bi C hN) ?_
     refine v (kg (n:=Z f[k]) (λd=>d.2.2.2) (λi d=>∃t,P <+:t/\PS n r h t d.1 d.2.1 d.2.2.1/\∀(e p:Nat),e<i->f[k][e]? =O ((p:Nat):Int)->p∈t)
      (Go:=λd=>∃t,P <+:t/\PS n r h t d.1 d.2.1 d.2.2.1/\∀(p:Nat),((p:Nat):Int)∈f[k]->p∈t) (Rt:=λ_=>False) ?_ ?_ (cT _) rfl ⟨P,List.prefix_refl _,K,λe p L=>C⟩ C) ?_
     ·rintro e⟨aV,aE,aX,jj⟩L b⟨t,Y,q,ad⟩;dsimp only at b q ⊢;subst b;have af:f[k][e]? =O f[k][e]:=aM L;obtain⟨p,ah,a3⟩:=ax.2 _<|cH L
      rw[a3]at af;have bq:=q.CX;have a9:r p=h:=by rw[hC.co p (n+k) ⟨k,_,S,eR af,rfl⟩];exact au
      refine fy S ?_;rw[iB L,aN];refine fy S<|fy af<|fy (q.sn p ah) ?_
      refine v (P:=λd:aG Bool×aG Int×aG Int=>∃t,P <+:t/\PS n r h t d.1 d.2.1 d.2.2/\∀(T p:Nat),T<e+1->f[k][T]? =O ((p:Nat):Int)->p∈t) (jn (λE=>?_)<|λE=>o ⟨t,Y,q,λT B a2 z=>?_⟩)<|λd bb=>fx ⟨bM C,bb⟩
      ·have a5:p∉t:=by
        rw[Bool.not_eq_true',decide_eq_false_iff_not]at E;exact λh=>E<|.inr h
       refine fy (q.sn p ah)<|dy (Lo q.pi C hN)<|li (by rw[q.td,ov];simp only[eK,List.length_nil];omega)<|o ⟨t++[p],Y.trans<|List.prefix_append _ _,⟨?_,?_,?_,?_,?_,?_,?_,?_⟩,?_⟩
       ·rw[jD];exact q.sl
       ·intro B z;rw[cN,kX]
        by_cases b:p=B
        ·subst b;rw[aL rfl,aL (by rw[q.sl];exact ah)];congr 1;exact(bN<|.inr G).symm
        ·rw[aJ b,q.sn B z];congr 1;rw[decide_eq_decide,dS];simp only[ng];constructor
         ·exact λh=>h.elim .inl<|λh=> .inr<|.inl h
         ·exact λh=>h.elim .inl<|λh=>h.elim .inr<|λh=>absurd h.symm b
       ·rw[List.nodup_append];exact⟨q.qn,G,λbj ha bl E=>by simp at E;subst E;exact λb=>a5<|b▸ha⟩
       ·intro B z
        rcases dS.1 z with z|z
        ·exact q.qi B z
        ·simp at z;subst z;exact⟨ah,a9⟩
       ·exact List.mem_append_left _ q.q0
       ·dsimp only;rw[q.td,wB];rfl
       ·exact AP q.pi
       ·intro x;rw[K9,q.pm];constructor
        ·rintro(⟨B,a,j⟩|a)
         ·exact⟨B,List.mem_append_left _ a,j⟩
         ·exact⟨p,G,a⟩
        ·rintro⟨B,a,j⟩
         rcases dS.1 a with a|a
         ·exact .inl ⟨B,a,j⟩
         ·simp at a;subst a;exact .inr j
       ·intro T B a2 z
        by_cases b:T=e
        ·subst b;rw[af]at z;injection z with z
         have:B=p:=C
         subst this;simp
        ·exact List.mem_append_left _<|ad T B C z
      ·by_cases b:T=e
       ·subst b;rw[af]at z;injection z with z
        have:B=p:=C
        subst this;rw[Bool.not_eq_false',dZ]at E
        rcases E with E|E
        ·omega
        ·exact E
       ·exact ad T B C z
     ·rintro⟨aV,aE,aX,jj⟩b⟨t,Y,q,ad⟩;dsimp only at b q ⊢;subst b;refine fy S ?_;rw[nG,aR];refine ga ⟨t,Y,q,λp F=>?_⟩;obtain⟨e,L⟩:=dM F;exact ad e p (bR.1 L).1 L
     intro ay ho;refine gf ho ?_<|λr hr=>hr.elim
     rintro⟨aV,aE,aX,jj⟩⟨t,Y,q,ad⟩;dsimp only at q ⊢;refine fx ⟨bM C,t,U++[k],M.trans Y,λs J=>List.mem_append_left _<|ae s J,q,⟨?_,?_,?_,?_,?_⟩,λs l J c X=>?_⟩
     ·rw[jD];exact y.ul
     ·intro s J;rw[cN,kX]
      by_cases b:k=s
      ·subst b;rw[aL rfl,aL (by rw[y.ul];exact ag)];congr 1;exact(bN G).symm
      ·rw[aJ b,y.un s J];congr 1;rw[decide_eq_decide,dS];simp only[ng];exact⟨.inl,λh=>h.elim id<|λh=>absurd h.symm b⟩
     ·exact AP y.bi
     ·intro x;rw[K9,y.bm];constructor
      ·rintro(⟨B,a,j⟩|a)
       ·exact⟨B,List.mem_append_left _ a,j⟩
       ·exact⟨k,G,a⟩
      ·rintro⟨B,a,j⟩
       rcases dS.1 a with a|a
       ·exact .inl ⟨B,a,j⟩
       ·simp at a;subst a;exact .inr j
     ·intro s J
      rcases dS.1 J with J|J
      ·obtain⟨a,j,h3⟩:=y.bk s J;exact⟨a,j,λl c p F=>Y.subset<|h3 l c p F⟩
      ·simp at J;subst J;refine⟨ag,au,λl c p F=>?_⟩;rw[S]at c;injection c with c
       exact ad p (by rw[c];exact F)
     ·by_cases b:s=k
      ·subst b;simp
      ·exact List.mem_append_left _<|ab s l C c X
   ·rintro⟨aS,aD,am,al,ai,i'⟩b⟨P,U,M,ae,K,y,ab⟩;dsimp only at b K y ⊢;subst b;rw[nG,aR];exact ga ⟨P,U,M,ae,K,y,λk l c=>ab k l (bR.1 c).1 c⟩
   intro ay ho;refine gf ho ?_<|λr hr=>hr.elim
   rintro⟨aS,aD,am,al,ai,i'⟩⟨P,U,M,ae,K,y,ab⟩;dsimp only at K y ⊢;refine fx ⟨⟨P,U,u+1,bM C,by have:=M.length_le;omega,K,y,λe p k l L R c X=>?_⟩,?_⟩
   ·by_cases b:e=u
    ·subst b;rw[Ih M ar]at R;injection R with R;subst R
     exact ab k l c X
    ·have ap:g[e]? =O (g[e]' C):=aM _;rw[Ih M ap]at R;injection R with R;subst R
     exact ae k<|an e _ k l C ap c X
   ·rw[bM C];simp only[cN];omega
  ·rw[AO (by omega:Z td<=u),aR];have be:u=Z g:=C
   have aZ:∀i e,Lk n f i e->(((i<n/\i∈g)\/∃k,k∈Q/\i=n+k)↔((e<n/\e∈g)\/∃k,k∈Q/\e=n+k)):=by
    rintro i e⟨k,l,c,W,rfl⟩;obtain⟨i',ao,ei⟩:=(ht l<|eR c).2 _ W;have:i'=i:=C
    subst this;constructor
    ·rintro(⟨_,a⟩|⟨s,_,a⟩)
     ·obtain⟨p,F⟩:=dM a;exact .inr ⟨k,an p i' k l (by rw[be];exact(bR.1 F).1) F c W,rfl⟩
     ·omega
    ·rintro(⟨a,_⟩|⟨s,a,j⟩)
     ·omega
     ·have:s=k:=C
      subst this;exact .inl ⟨ao,(hQ.bk s a).2.2 l c i' W⟩
   have aj:∀x,x<n+m->r x=h->(x<n/\x∈g)\/∃k,k∈Q/\x=n+k:=λx hx ba=>hC.fi _ aZ h x C hx (by rw[hr,ba])<|.inl ⟨hh,H.q0⟩
   refine ga ⟨?_,?_,H.sl,λp F=>?_⟩
   ·refine JL H.pi (ZI _ _ _ _) λx=>?_;rw[H.pm,tz];constructor
    ·rintro⟨p,a,j⟩;exact⟨p,Im.2 ⟨(H.qi p a).1,by have:=(H.qi p a).1;omega,(H.qi p a).2⟩,j⟩
    ·rintro⟨p,a,j⟩;obtain⟨g1,g2,g3⟩:=Im.1 a
     rcases aj p g2 g3 with⟨_,V⟩|⟨k,_,V⟩
     ·exact⟨p,V,j⟩
     ·omega
   ·refine JL hQ.bi (Wd _ _ _ _ _) λx=>?_;rw[hQ.bm,tz];constructor
    ·rintro⟨k,a,j⟩;obtain⟨g1,g2,g3⟩:=hQ.bk k a;refine⟨k,Io.2 ⟨C,g2,?_⟩,j⟩;have I:f[k]? =O (f[k]' C):=aM _;refine a4 k _ I λa1=>?_;have tL:∀i e,Lk n f i e->((i=n+k)↔(e=n+k)):=by
      rintro i e⟨s,l,c,W,rfl⟩;obtain⟨i',ao,ei⟩:=(ht l<|eR c).2 _ W;constructor
      ·intro;omega
      ·intro b;have:s=k:=C
       subst this;rw[I]at c;injection c with c
       rw[<-c,a1]at W;cases W
     have:=hC.fi (λx=>x=n+k) tL (n+k) h C C (by rw[g2,hr]) rfl;omega
    ·rintro⟨k,a,j⟩;obtain⟨g1,g2,_⟩:=Io.1 a
     rcases aj (n+k) g1 g2 with⟨V,_⟩|⟨s,g3,V⟩
     ·omega
     ·have:s=k:=C
      subst this;exact⟨s,g3,j⟩
   ·rw[H.sn p F];congr 1;rw[decide_eq_decide];constructor
    ·rintro(a|a)
     ·omega
     ·have:=(H.qi p a).2;omega
    ·intro a
     by_cases b:r p=h
     ·rcases aj p C b with⟨_,V⟩|⟨k,_,V⟩
      ·exact .inr V
      ·omega
     ·exact .inl C
 ·refine⟨by rw[jD];exact av,λp F=>?_,G,λp F=>by simp at F;subst F;exact⟨hh,hr⟩,G,rfl,List.pairwise_singleton _ _,λx=>G⟩;rw[cN,kX]
  by_cases b:h=p
  ·subst b;rw[aL rfl,aL (by rw[av];exact hh)];congr 1;exact(bN<|.inr G).symm
  ·rw[aJ b,aw p F];congr 1;rw[decide_eq_decide];simp only[ng];omega
 ·exact⟨by rw[A2];exact hm,λk I=>by simp[hm,I],kW,λx=>G,λk I=>by cases I⟩
 intro ay ho;refine gf ho ?_<|λr hr=>hr.elim
 rintro⟨sn,pi,bo,us,td,t'⟩⟨a,j,h3,h4⟩;exact o ⟨a,j,rfl,h3,h4⟩
end
end Go.Gk
