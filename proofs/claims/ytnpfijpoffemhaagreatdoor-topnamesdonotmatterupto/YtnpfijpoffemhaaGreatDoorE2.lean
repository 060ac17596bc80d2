/-
  Helping texts: plain functions and plain laws. No statement of the seed is proved here.
-/
import Derived.Test.YtnpfijpoffemhaaGreatDoorE1
import Derived.Test.YtnpfijpoffemhaaGreatDoorA1
import Derived.Sort.Walk0
import Derived.Test.YtnpfijpoffemhaaGreatDoorA2
set_option linter.unusedVariables false
set_option linter.unusedSimpArgs false
set_option linter.unusedSectionVars false
namespace Go.Gk
open Go IntKind Classical
theorem zW(n:Nat)(g:Nat->Nat):((List.range<|n+1).map g).sum=((List.range n).map g).sum+g n:=by
 simp[List.range_succ,eE,List.sum_append]
def NC(r:aI)(x y:Int):Bool:=(decide (r.X0<=x)&&decide (x<r.X1))&&(decide (r.Y0<=y)&&decide (y<r.Y1))
def Nu(a b:aI):Prop:=∀x y,¬(NC a x y=true/\NC b x y=true)
theorem Kq{r:aI}{x y:Int}:NC r x y=true↔(r.X0<=x/\x<r.X1)/\r.Y0<=y/\y<r.Y1:=by simp[NC]
theorem wQ:∀{xs:List Int},mg xs->(zA xs).Pairwise (λp q=>p.2<q.1)
 | [],_=>l6
 | [a],_=>l6
 |a::b::l,h=>by
  unfold zA;rw[List.pairwise_cons];exact⟨λq hq=>h.tail.head q.1 (Cg q hq).1,wQ h.tail.tail⟩
def E3(a b:aI):Prop:=a.Y1<=b.Y0\/(a.Y0=b.Y0/\a.Y1=b.Y1/\a.X1<b.X0)
theorem E3.apart{a b:aI}(h:E3 a b):Nu a b:=λx y⟨h1,h2⟩=>by
 rw[Kq]at h1 h2
 rcases h with h|h <;> omega
theorem rI:∀{s:List aA},dW (s.map bR)->(aO s).Pairwise E3
 | [],_=>l6
 |b::s,h=>by
  rw[mm,List.pairwise_append];refine⟨?_,rI h.tail,λx hx y hy=>?_⟩
  ·unfold lX;rw[List.pairwise_map];exact List.Pairwise.imp (λhpq=> .inr ⟨rfl,rfl,hpq⟩)<|wQ (h.each (bR b) (by simp)).2.2.1
  ·unfold lX at hx;obtain⟨p,_,rfl⟩:=cF.1 hx;obtain⟨c,hc,q,_,rfl⟩:=oE hy;exact .inl<|h.zu (bR c)<|cF.2 ⟨c,hc,rfl⟩
theorem ui{s:List aA}(h:dW (s.map bR)):∀r∈aO s,r.X0<r.X1/\r.Y0<r.Y1:=λr hr=>by
 obtain⟨b,hb,p,hp,rfl⟩:=oE hr;have hc:=h.each (bR b)<|cF.2 ⟨b,hb,rfl⟩
 exact⟨EO hc.2.2.1 p hp,hc.1⟩
theorem DT{s:List aA}(h:dW (s.map bR)):(aO s).Nodup:=by
 have h1:=rI h;have h2:=ui h;refine List.Pairwise.imp_of_mem (λ{a b}ha hb hab e=>?_) h1;subst e;have:=h2 a ha
 rcases hab with h|h <;> omega
theorem I9{s:List aA}(h:dW (s.map bR)):Nk (aO s):=λk a b ha hb hbad=>by
 have:=nv.1 (rI h) k (k+1) (bI.1 ha).1 (bI.1 hb).1 (by omega);rw[(bI.1 ha).2,(bI.1 hb).2]at this;have h2:=ui h a<|eM ha
 rcases this with h|h <;> rcases hbad with h3|h3 <;> omega
theorem xL:∀{xs:List Int},xs.length % 2=0->∀c∈xs,∃p∈zA xs,c=p.1\/c=p.2
 | [],_,c,hc=>by cases hc
 | [a],h,_,_=>by simp at h
 |a::b::l,h,c,hc=>by
  unfold zA
  rcases gk.1 hc with rfl|hc
  ·exact⟨(c,b),by simp, .inl rfl⟩
  ·rcases gk.1 hc with rfl|hc
   ·exact⟨(a,c),by simp, .inr rfl⟩
   ·obtain⟨p,hp,h2⟩:=xL (by grind) c hc;exact⟨p,my _ hp,h2⟩
theorem DU{s:List aA}(h:dW (s.map bR)):qO (aO s) s:=by
 refine⟨h,λx y=>(qP h x y).symm,λb hb=>?_⟩;obtain⟨c,hc,rfl⟩:=cF.1 hb;have hcc:=h.each _ hb;have mem:∀p∈zA c.Xs,(⟨p.1,c.Y0,p.2,c.Y1⟩:aI)∈aO s:=λp hp=>by
  unfold aO lX
  grind
 have hne:∃x,x∈c.Xs:=by
  cases hx:c.Xs with
  |nil=>exact absurd hx hcc.2.1
  |cons x l=>simp
 obtain⟨x,hx⟩:=hne;obtain⟨p,hp,_⟩:=xL hcc.2.2.2 x hx;refine⟨kl.2 ⟨_,mem p hp, .inl rfl⟩,kl.2 ⟨_,mem p hp, .inr rfl⟩,λc' hc'=>?_⟩;obtain⟨q,hq,h2⟩:=xL hcc.2.2.2 c' hc';exact oX.2 ⟨_,mem q hq,h2⟩
theorem DV{s:List aA}(h:dW (s.map bR))(hl:(aO s).length<=2000)(hr:∀r∈aO s,eL r=true):iw (aO s)=0:=
 tE.2 ⟨uN.2 ⟨hl,λr hm=>⟨hr r hm,ui h r hm⟩⟩,I9 h,s,DU h,rfl⟩
def qU(s:List Bd):Nat:=(s.map<|λb=>b.xs.length / 2).sum
theorem DW(s t:List Bd):qU (s++t)=qU s+qU t:=by simp[qU,eE,List.sum_append]
theorem Hb(s:List Bd)(b:Bd):qU (ml s b)<=qU s+b.xs.length / 2:=by
 unfold ml
 grind [rD,qU,DW]
structure PI (t:List Bd):Prop where
 each:∀b∈t,b.y0<b.y1/\mg b.xs/\b.xs.length % 2=0
 ord:t.Pairwise (λb c=>b.y1<=c.y0)
theorem fold_push:∀(t out:List Bd),PI t->dW out->(∀c∈out,∀b∈t,c.y1<=b.y0)->dW (t.foldl ml out)/\qU (t.foldl ml out)<=qU out+qU t/\
  ∀y,rowAt (t.foldl ml out) y=if(∃b∈t,b.y0<=y/\y<b.y1)then rowAt t y else rowAt out y
 | [],out,_,hc,_=>⟨hc,by simp[qU],λy=>by simp⟩
 |b::t,out,hl,hc,ho=>by
  have hb:=hl.each b (by simp);have hord:=List.pairwise_cons.1 hl.ord;have ho1:∀c∈out,c.y1<=b.y0:=λc h=>ho c h b (by simp);have h1:=xx hc ho1 hb.2.1 hb.2.2;have htop:=xy ho1 (show b.y0<=b.y1 by omega);obtain⟨f1,f2,f3⟩:=fold_push t (ml out b) ⟨λc hcm=>hl.each c<|my _ hcm,hord.2⟩ h1 (λc hcm d hd=>by grind);refine⟨f1,?_,λy=>?_⟩
  ·have:=Hb out b;have e:qU (b::t)=b.xs.length / 2+qU t:=by simp[qU]
   rw[List.foldl_cons,e];omega
  ·rw[List.foldl_cons,f3 y,xw ho1 (λc hcm=>(hc.each c hcm).1)<|λh=>absurd h (by omega),k8]
   by_cases hy:b.y0<=y/\y<b.y1
   ·have hn:¬∃c∈t,c.y0<=y/\y<c.y1:=λ⟨c,hcm,h⟩=>by have:=hord.1 c hcm;omega
    rw[aF hn,aG hy,aG ⟨b,by simp,hy⟩,aG hy]
   ·rw[aF hy]
    by_cases h:∃c∈t,c.y0<=y/\y<c.y1
    ·obtain⟨c,hcm,h⟩:=h;rw[aG ⟨c,hcm,h⟩,aG ⟨c,my _ hcm,h⟩,aF hy]
    ·rw[aF h,aF hy,aF (show ¬∃c∈b::t,c.y0<=y/\y<c.y1 from λ⟨c,hcm,h2⟩=>by
      grind)]
noncomputable def oc(C:List aI)(b:aA):Bd:=⟨b.Y0,b.Y1,pM<|(zA b.Xs).filter<|λp=>decide<|(⟨p.1,b.Y0,p.2,b.Y1⟩:aI)∈C⟩
theorem Hc{l m:List (Int×Int)}(h:l.Sublist m):(pM l).Sublist (pM m):=by
 induction h with
 |slnil=>exact List.Sublist.refl _
 |cons a _ ih=>grind [oW]
 |cons_cons a _ ih=>grind [oW]
theorem zX(l:List (Int×Int)):(pM l).length % 2=0/\(pM l).length / 2=l.length:=by simp[GQ]
theorem Bl{s p:List aA}{C:List aI}(hs:dW (s.map bR))(hp:dW (p.map bR))(hC:∀r∈C,r∈aO s)(hcov:∀x y,wE (p.map bR) x y=Ay C x y):(aO p).length<=C.length:=by
 have hinc:∀b∈s,mg (oc C b).xs:=λb hb=>by
  have h1:=F2 hs b hb;have h2:=Hc<|List.filter_sublist (l:=zA b.Xs) (p:=λp=>decide<|(⟨p.1,b.Y0,p.2,b.Y1⟩:aI)∈C)
  rw[zB<|qR hs b hb]at h2;exact List.Pairwise.sublist h2 h1
 have hlow:PI (s.map<|oc C):=by
  refine⟨λb hb=>?_,?_⟩
  ·obtain⟨c,hc,rfl⟩:=cF.1 hb;exact⟨(hs.each (bR c)<|cF.2 ⟨c,hc,rfl⟩).1,hinc c hc,(zX _).1⟩
  ·have:=hs.ord;rw[List.pairwise_map]at this ⊢;exact List.Pairwise.imp (λh=>h.1) this
 obtain⟨f1,f2,f3⟩:=fold_push (s.map<|oc C) [] hlow dW.nil (λc hc=>by cases hc);have hrow:∀{t:List aA},(∀b∈t,b∈s)->∀x y,m0 (rowAt (t.map<|oc C) y) x=true->Ay C x y=true:=by
  intro t ht x y h
  induction t with
  |nil=>cases h
  |cons b t ih=>
   rw[eF,k8]at h;split at h
   ·rename_i hy;have hbm:=ht b (by simp);have h1:=hinc b hbm;have h:m0 (pM<|(zA b.Xs).filter<|λp=>decide<|(⟨p.1,b.Y0,p.2,b.Y1⟩:aI)∈C) x=true:=h;rw[wF h1,zy]at h;obtain⟨q,hq,h2⟩:=h;have hq:=lj.1 hq;exact l8.2 ⟨_,of_decide_eq_true hq.2,h2,hy⟩
   grind
 have hrow2:∀x y,Ay C x y=true->m0 (rowAt (s.map<|oc C) y) x=true:=by
  intro x y h;obtain⟨r,hr,h1,h2⟩:=l8.1 h;obtain⟨b,hb,q,hq,rfl⟩:=oE<|hC r hr
  dsimp only at h1 h2;have key:∀{t:List aA},(∀c∈t,c∈s)->dW (t.map bR)->b∈t->rowAt (t.map<|oc C) y=(oc C b).xs:=by
   intro t ht hc hbt
   induction t with
   |nil=>cases hbt
   |cons c t ih=>
    rw[eF,k8]
    by_cases hy:c.Y0<=y/\y<c.Y1
    ·rw[aG (show(oc C c).y0<=y/\y<(oc C c).y1 from hy)]
     rcases gk.1 hbt with rfl|hbt
     ·rfl
     ·have:=hc.zu (bR b)<|cF.2 ⟨b,hbt,rfl⟩
      grind [bR]
    ·rw[aF (show ¬((oc C c).y0<=y/\y<(oc C c).y1)from hy)]
     rcases gk.1 hbt with rfl|hbt
     ·exact absurd h2 hy
     ·exact ih (λd hd=>ht d<|my _ hd) hc.tail hbt
  rw[key (λc hc=>hc) hs hb];have h1':=hinc b hb;show m0 (pM<|(zA b.Xs).filter<|λp=>decide<|(⟨p.1,b.Y0,p.2,b.Y1⟩:aI)∈C) x=true;rw[wF h1',zy];exact⟨q,lj.2 ⟨hq,cG hr⟩,h1⟩
 have hsame:p.map bR=(s.map<|oc C).foldl ml []:=zw hp f1 λx y=>by
  rw[hcov,g9];have e:rowAt ((s.map<|oc C).foldl ml []) y=rowAt (s.map<|oc C) y:=by
   rw[f3]
   by_cases h:∃b∈s.map (oc C),b.y0<=y/\y<b.y1
   ·rw[aG h]
   ·rw[aF h]
    exact(kd λb hb=>by
     have:¬(b.y0<=y/\y<b.y1):=λh2=>h ⟨b,hb,h2⟩
     omega).symm
  unfold wE;rw[e];exact⟨hrow2 x y,hrow (λb hb=>hb) x y⟩
 have hc1:(aO p).length=qU (p.map bR):=by
  have:∀p:List aA,(aO p).length=qU (p.map bR):=λp=>by
   induction p with
   |nil=>rfl
   |cons b p ih=>rw[mm,dE,nb,ih];unfold qU;rw[eF,eF,List.sum_cons];rfl
  exact this p
 have hc2:∀s:List aA,qU (s.map<|oc C)=((aO s).filter<|λr=>decide<|r∈C).length:=λs=>by
  induction s with
  |nil=>rfl
  |cons b s ih=>
   rw[mm,List.filter_append,dE,<-ih];unfold qU;rw[eF,eF,List.sum_cons];congr 1;show(pM _).length / 2=_;rw[(zX _).2];unfold lX;rw[List.filter_map,dL];rfl
 have hc3:((aO s).filter<|λr=>decide<|r∈C).length<=C.length:=eD (List.Nodup.sublist List.filter_sublist<|DT hs) λr hr=>of_decide_eq_true (lj.1 hr).2;rw[hc1,hsame];have e0:qU ([]:List Bd)=0:=rfl;have:=hc2 s;omega
section
variable {N:Nat}
theorem uQ{all:List aI}(w:aI->Nat):∀(c:List Nat),((c.filterMap<|λi=>all[i]?).map w).sum=(c.map<|λi=>(all[i]?).elim 0 w).sum
 | []=>rfl
 |i::c=>by
  rw[eF,List.sum_cons,<-uQ w c]
  cases h:all[i]? with
  |none=>rw[List.filterMap_cons_none (f:=λi=>all[i]?) h];simp
  |some x=>rw[List.filterMap_cons_some (f:=λi=>all[i]?) h,eF,List.sum_cons];rfl
theorem Kr{all:List aI}{u:Nat->Nat}(h:∀i,i<all.length->u i∈bW all.length u)(w:aI->Nat):((bW all.length u).map<|λk=>((mu all all.length u k).map w).sum).sum=(all.map w).sum:=by
 have e:(λk=>((mu all all.length u k).map w).sum)=λk=>(((List.range all.length).filter<|λx=>decide<|u x=k).map<|λi=>(all[i]?).elim 0 w).sum:=by
  funext k;unfold mu;rw[uQ];rfl
 rw[e,DR (mn _ _) u _<|λx hx=>h x<|pw.1 hx];have:∀m,m<=all.length->((List.range m).map<|λi=>(all[i]?).elim 0 w).sum=((all.take m).map w).sum:=by
  intro m
  induction m with
  |zero=>intro _;rfl
  |succ m ih=>
   grind [zW,dF,aK]
 grind
theorem zY:∀{l m:List Nat},l.length=m.length->(∀(j x y:Nat),l[j]? =some x->m[j]? =some y->x<=y)->l.sum<=m.sum
 | [],[],_,_=>bU _
 | [],_::_,h,_=>by simp at h
 |_::_,[],h,_=>by simp at h
 |a::l,b::m,h,hle=>by
  have h1:=hle 0 a b rfl rfl;have h2:=zY (l:=l) (m:=m) (by simpa using h) λj x y hx hy=>hle (j+1) x y (by grind) (by grind);rw[List.sum_cons,List.sum_cons];omega
theorem Ks{r hs:List aI}{s:List aA}(h1:∀x∈r,eL x=true)(h2:∀x∈hs,eL x=true)(hc:dW (s.map bR))(hl:vD (qM r++qM hs) (lW r++lW hs) (s.map bR)):∀q∈aO s,eL q=true/\q.X0<q.X1/\q.Y0<q.Y1:=by
 intro q hq;have hp:=ui hc q hq;obtain⟨b,hb,p,hpm,rfl⟩:=oE hq;have hll:=hl (bR b)<|cF.2 ⟨b,hb,rfl⟩
 have hm:=Cg p hpm;have bx:∀c∈qM r++qM hs,-1000000<=c/\c<=1000000:=λc hcm=>by
  rcases dM.1 hcm with h|h
  ·obtain⟨x,hx,h⟩:=oX.1 h;have:=ld<|h1 x hx
   omega
  ·obtain⟨x,hx,h⟩:=oX.1 h;have:=ld<|h2 x hx
   omega
 have by':∀c∈lW r++lW hs,-1000000<=c/\c<=1000000:=λc hcm=>by
  rcases dM.1 hcm with h|h
  ·obtain⟨x,hx,h⟩:=kl.1 h;have:=ld<|h1 x hx
   omega
  ·obtain⟨x,hx,h⟩:=kl.1 h;have:=ld<|h2 x hx
   omega
 have g1:=bx _<|hll.2.2 p.1 hm.1
 have g2:=bx _<|hll.2.2 p.2 hm.2
 have g3:=by' _ hll.1
 have g4:=by' _ hll.2.1
 exact⟨zQ ⟨g1,g3,g2,g4⟩,hp⟩
structure tK (r hs:List aI) (s:List aA) (u:Nat->Nat) (ps:List (List aA)):Prop where
 r1:∀x∈r,eL x=true
 r2:∀x∈hs,eL x=true
 k1:∀x∈r,Ea x
 k2:∀x∈hs,Ea x
 dr:ue r hs s
 pt:nD s u ps
 CI:(aO s).length<=2000
theorem tK.part{r hs:List aI}{s:List aA}{u:Nat->Nat}{ps:List (List aA)}(h:tK r hs s u ps){p:List aA}(hp:p∈ps):dW (p.map bR)/\(aO p).length<=2000/\∀q∈aO p,eL q=true/\q.X0<q.X1/\q.Y0<q.Y1:=by
 obtain⟨sx,sy⟩:=h.dr.small h.k1 h.k2;obtain⟨j,k,g1,g2,g3,g4⟩:=zT h.pt h.dr.can h.dr.lim sx sy hp
 have:=Bl h.dr.can g3.can (λx hx=>by
  grind [nO,eM]) g3.cover
 have h2:=zL (aO s) (aO s).length u k;have:=h.CI;exact⟨g3.can,by omega,Ks h.r1 h.r2 g3.can g4⟩
theorem tK.bW{r hs:List aI}{s:List aA}{u:Nat->Nat}{ps:List (List aA)}(h:tK r hs s u ps):∀i,i<(aO s).length->u i∈Gk.bW (aO s).length u:=λi hi=>jt.2 ⟨by have:=h.pt.join.le i hi;omega,h.pt.join.rr i hi⟩
theorem tK.total{r hs:List aI}{s:List aA}{u:Nat->Nat}{ps:List (List aA)}(h:tK r hs s u ps):(ps.map<|λp=>(aO p).length).sum<=(aO s).length:=by
 have h1:=Kr h.bW<|λ_=>1
 have one:∀l:List aI,(l.map<|λ_=>1).sum=l.length:=λl=>by
  induction l with
  |nil=>rfl
  |cons x l ih=>grind
 simp only[one]at h1;rw[<-h1];refine zY (by simp[h.pt.len]) λj x y hx hy=>?_;rw[eR,Option.map_eq_some_iff]at hx hy;obtain⟨p,hp,rfl⟩:=hx;obtain⟨k,hk,rfl⟩:=hy;have hs:=h.pt.each j k p hk hp
 exact Bl h.dr.can hs.can (λx hx=>by
  grind [nO,eM]) hs.cover
theorem DX{ps:List (List aA)}{x y:Int}:Ay (ps.flatMap aO) x y=true↔∃p∈ps,Ay (aO p) x y=true:=by
 grind [l8]
theorem tK.cover{r hs:List aI}{s:List aA}{u:Nat->Nat}{ps:List (List aA)}(h:tK r hs s u ps)(x y:Int):Ay (ps.flatMap aO) x y=wE (s.map bR) x y:=by
 rw[<-qP h.dr.can,g9,DX];constructor
 ·rintro⟨p,hp,hc⟩;obtain⟨j,hj⟩:=eA hp;have hjl:=(bI.1 hj).1;have hk:(Gk.bW (aO s).length u)[j]? =some ((Gk.bW (aO s).length u)[j]'(by rw[<-h.pt.len];exact hjl)):=aK _;have hs:=h.pt.each j _ _ hk hj;rw[qP hs.can,hs.cover]at hc
  grind [l8,nO,eM]
 ·intro hc;obtain⟨q,hq,h2⟩:=l8.1 hc;obtain⟨i,hi⟩:=eA hq;have hil:=(bI.1 hi).1;obtain⟨j,hj⟩:=eA<|h.bW i hil
  have hjl:j<ps.length:=by rw[h.pt.len];grind
  have hs:=h.pt.each j _ _ hj<|aK hjl
  refine⟨_,cU hjl,?_⟩;rw[qP hs.can,hs.cover]
  grind [l8,nO]
theorem Kt{l:List aI}(h:iw l=0)(hN:4398046511104<=N):oL N l=some (DS l,0):=by
 have hl:=(EW (tE.1 h).1).1;unfold oL;rw[o5 (by omega) hN,aB,h,show((0:Int) != 0)=false by rfl,bF,Ha (by omega),aB]
section
variable {a:jg}{mx:List (List aA)}{je:List (List (List aA))}{r:Nat->Nat}{gs:List bK}{ofP ofB qY:List Int}{sE:List j4}
end
end
def Cn(f:Int->Int->Bool)(x y:Int):Prop:=f x y=true/\∀x' y',f x' y'=true->y<y'\/(y=y'/\x<=x')
theorem Cn.unique{f:Int->Int->Bool}{x y x' y':Int}(h:Cn f x y)(h':Cn f x' y'):x=x'/\y=y':=by
 have h1:=h.2 _ _ h'.1;have h2:=h'.2 _ _ h.1;omega
section
variable {N:Nat}
structure BI (all:List aI) (u:Nat->Nat) (i:Nat) (q:List Nat) (done:List Bool) (own:List aI):Prop where
 len:done.length=all.length
 nd:q.Nodup
 lt:∀k∈q,k<all.length/\u k=i
 hd:i∈q
 dn:∀k,k<all.length->done[k]? =some (decide<|u k<i\/k∈q)
 ow:own.map some=q.map (λk=>all[k]?)
theorem BI.CI{all:List aI}{u:Nat->Nat}{i:Nat}{q:List Nat}{done:List Bool}{own:List aI}(h:BI all u i q done own):q.length<=all.length:=by
 have:=eD h.nd (m:=List.range all.length) (λk hk=>by rw[pw];exact(h.lt k hk).1)
 grind
theorem BI.at_{all:List aI}{u:Nat->Nat}{i:Nat}{q:List Nat}{done:List Bool}{own:List aI}(h:BI all u i q done own){p k:Nat}(hk:q[p]? =some k):own[p]? =all[k]? :=by
 have e:=congrArg (λl=>l[p]?) h.ow
 grind
theorem BI.mem{all:List aI}{u:Nat->Nat}{i:Nat}{q:List Nat}{done:List Bool}{own:List aI}(h:BI all u i q done own){r:aI}:r∈own↔∃k∈q,all[k]? =some r:=by
 have:r∈own↔some r∈own.map some:=by simp
 rw[this,h.ow,cF]
end
section
variable {α β:Type}
theorem Ja{N:Nat}{l:List α}{s:β}{φ:α->β->Option Int}(c:α->Int)(hφ:∀x,φ x s=some (c x))(hs:∀(i j:Nat)(x y:α),i<j->l[i]? =some x->l[j]? =some y->0<=c x->0<c y)
  (hl:l.length<=1048576) (hN:4194304<=N):∃r,Ar N l s φ=some r/\r.2=l.any (λx=>c x==0)/\(r.2=true->r.1=B6 l (λx=>c x==0)):=by
 show Ok (Ar N l s φ) (λr=>r.2=l.any (λx=>c x==0)/\(r.2=true->r.1=B6 l (λx=>c x==0)));unfold Ar
 refine Qv (Rx (Go:=λst:Int×Int=>∃a:Nat,st.1=((a:Nat):Int)/\a<=l.length/\(∀j x,j<a->l[j]? =some x->c x<0)/\(∀j x,a<=j->l[j]? =some x->0<=c x)) (Rt:=λ_=>True)
  (λst=>∃a b:Nat,st=(((a:Nat):Int),((b:Nat):Int))/\a<=b/\b<=l.length/\(∀j x,j<a->l[j]? =some x->c x<0)/\(∀j x,b<=j->l[j]? =some x->0<=c x))
  (λst=>(st.2 - st.1).toNat) ?_ ⟨0,l.length,rfl,by omega,bU _,λj x hj=>by omega,λj x hj hx=>by grind⟩ (by omega)) ?_
 ·rintro st⟨a,b,rfl,hab,hb,h1,h2⟩;dsimp only
  by_cases hlt:a<b
  ·have hm:(a+b) / 2<l.length:=by omega
   have hx:l[(a+b) / 2]? =some l[(a+b) / 2]:=aK hm;rw[show decide (((a:Nat):Int)<((b:Nat):Int))=true by grind,aR,A7 hlt (by omega)];refine QK hx<|Qn (hφ _) ?_
   by_cases hc:c l[(a+b) / 2]<0
   ·rw[cG hc,aR,aB];refine Rk ⟨⟨(a+b) / 2+1,b,?_,by omega,hb,λj x hj hx'=>?_,h2⟩,?_⟩
    ·rw[iE (by omega)]
    ·by_cases e:j=(a+b) / 2
     ·subst e;rw[hx]at hx';injection hx' with hx';rw[<-hx'];exact hc
     ·by_cases h0:c x<0
      ·exact h0
      ·have:=hs j _ x _ (by omega) hx' hx (by omega);omega
    ·rw[iE (by omega)];simp only;omega
   ·rw[cB hc,bF,aB];refine Rk ⟨⟨a,(a+b) / 2,rfl,by omega,by omega,h1,λj x hj hx'=>?_⟩,by simp only;omega⟩
    by_cases e:j=(a+b) / 2
    ·subst e;rw[hx]at hx';injection hx' with hx';rw[<-hx'];omega
    ·have:=hs _ j _ x (by omega) hx hx' (by omega);omega
  ·rw[show decide (((a:Nat):Int)<((b:Nat):Int))=false by rw[decide_eq_false_iff_not];omega,bF];exact Rw ⟨a,rfl,by omega,h1,λj x hj hx=>h2 j x (by omega) hx⟩
 intro o ho;refine Ro ho ?_<|λr hr=>r.elim
 rintro⟨st1,st2⟩⟨a,ha,hle,h1,h2⟩;dsimp only at ha ⊢;subst ha
 by_cases hlt:a<l.length
 ·have hx:l[a]? =some l[a]:=aK hlt;rw[show decide (((a:Nat):Int)<((l.length:Nat):Int))=true by rw[dN];omega,aR,eW hx,aB,hφ,aB,aB];refine Qo ?_
  by_cases he:c l[a]=0
  ·have hb:(c l[a]==0)=true:=by rw[beq_iff_eq];exact he
   rw[hb];refine⟨(ln.2 ⟨_,cU hlt,hb⟩).symm,λ_=>?_⟩;rw[Dv hx hb (λj y hj hy=>by have:=h1 j y hj hy;rw[beq_eq_false_iff_ne];omega)]
  ·have hb:(c l[a]==0)=false:=by rw[beq_eq_false_iff_ne];exact he
   rw[hb];refine⟨?_,λh=>by cases h⟩;symm;rw[List.any_eq_false];intro x hx';obtain⟨j,hj⟩:=eA hx';rw[ju,beq_eq_false_iff_ne]
   by_cases hja:j<a
   ·have:=h1 j x hja hj;omega
   ·by_cases e:j=a
    ·subst e;rw[hx]at hj;injection hj with hj;rw[<-hj];exact he
    ·have h3:=h2 a _ (bU _) hx;have:=hs a j _ x (by omega) hx hj h3;omega
 ·rw[show decide (((a:Nat):Int)<((l.length:Nat):Int))=false by rw[decide_eq_false_iff_not];omega,bF,aB];refine Qo ⟨?_,λh=>by cases h⟩;symm;rw[List.any_eq_false];intro x hx';obtain⟨j,hj⟩:=eA hx';have:=(bI.1 hj).1;have:=h1 j x (by omega) hj;rw[ju,beq_eq_false_iff_ne];omega
end
def yg(p q:aS):Prop:=bG.lt p.Part q.Part\/(p.Part=q.Part/\bG.lt p.aS q.aS)
theorem F8{p q:aS}(h1:p.Part=q.Part)(h2:p.aS=q.aS):p=q:=by cases p;simp_all
theorem yg.irrefl(p:aS):¬yg p p:=λh=>by
 rcases h with h|⟨_,h⟩
 ·exact bG.lt_irrefl _ h
 ·exact bG.lt_irrefl _ h
theorem yg.trans{p q r:aS}(h1:yg p q)(h2:yg q r):yg p r:=by
 rcases h1 with h1|⟨e1,h1⟩ <;> rcases h2 with h2|⟨e2,h2⟩
 ·exact .inl<|bG.lt_trans h1 h2
 ·exact .inl (by grind)
 ·exact .inl (by grind)
 ·exact .inr ⟨e1.trans e2,bG.lt_trans h1 h2⟩
theorem yg.total(p q:aS):yg p q\/p=q\/yg q p:=by
 rcases bG.qB p.Part q.Part with h|h|h
 ·exact .inl<|.inl h
 ·rcases bG.qB p.aS q.aS with h'|h'|h'
  ·exact .inl<|.inr ⟨h,h'⟩
  ·grind [F8]
  ·exact .inr<|.inr<|.inr ⟨h.symm,h'⟩
 ·exact .inr<|.inr<|.inl h
theorem yg.asymm{p q:aS}(h:yg p q):¬yg q p:=λh'=>yg.irrefl p<|h.trans h'
theorem yg.ne{p q:aS}(h:yg p q):p≠q:=by grind [yg.irrefl]
theorem xM{a b:bG}:Lib.compareBytes a.bX b.bX=0↔a=b:=by grind [bG.ext',i5]
theorem ox{p q:aS}:il p q=0↔p=q:=by
 grind [il,Lib.compareBytes,xM,F8]
theorem zZ{p q:aS}:il p q<0↔yg p q:=by
 unfold il yg
 by_cases h:Lib.compareBytes p.Part.bX q.Part.bX=0
 ·rw[aF (by simpa using h),m6];have e:=xM.1 h;constructor
  ·exact λh'=> .inr ⟨e,h'⟩
  ·rintro(h'|⟨_,h'⟩)
   ·grind [bG.lt_irrefl]
   ·exact h'
 ·rw[aG h,m6];constructor
  ·exact λh'=> .inl h'
  ·rintro(h'|⟨e,_⟩)
   ·exact h'
   grind [xM]
theorem vq{p q:aS}:0<il p q↔yg q p:=by
 constructor
 ·intro h
  rcases yg.total p q with h'|h'|h'
  ·have:=zZ.2 h';omega
  all_goals grind [ox]
 ·intro h
  by_cases h1:il p q<0
  ·exact absurd (zZ.1 h1) h.asymm
  ·by_cases h2:il p q=0
   ·exact absurd (ox.1 h2).symm h.ne
   ·omega
section
variable {N:Nat}
structure E4 (a:jg) (x:dD):Prop where
 name:jY x.Part=true/\isWord x.aS=true
 Ns:0<=x.eX/\x.eX<((a.aN.length:Nat):Int)
 at_:tA x.At=true
structure qV (a:jg):Prop where
 CI:a.bC.length<=1000
 each:∀x∈a.bC,E4 a x
 up:a.bC.Pairwise (λx y=>yg (gZ x)<|gZ y)
theorem Co{a:jg}{k:Nat}{x:dD}(hx:a.bC[k]? =some x)(h:kL a k=none):E4 a x/\∀y,0<k->a.bC[k - 1]? =some y->yg (gZ y) (gZ x):=by
 unfold kL at h;rw[hx,Option.bind_some]at h;split at h
 ·rename_i h1;split at h
  ·rename_i h2;split at h
   ·cases h
   ·rename_i h3;rw[cN]at h1 h2;unfold ik at h2;rw[cN,dN,dN]at h2;refine⟨⟨h1,⟨by omega,by omega⟩,h2.2⟩,λy hk hy=>?_⟩
    grind [il,vq]
  ·cases h
 ·cases h
theorem E5{a:jg}{k:Nat}{e:Int}(h:kL a k=some e):e≠0:=by
 unfold kL at h
 cases hx:a.bC[k]? with
 |none=>grind
 |some x=>
  rw[hx,Option.bind_some]at h
  repeat' split at h
  all_goals grind
theorem Hd{a:jg}(h:i7 a=0):qV a:=by
 unfold i7 at h;split at h
 ·omega
 rename_i hl;have hn:ki a.bC.length (kL a)=none:=by
  cases hf:ki a.bC.length (kL a)with
  |none=>rfl
  |some e=>
   grind [iN,E5]
 rw[jq]at hn;have hg:∀(k:Nat)x,a.bC[k]? =some x->E4 a x/\∀y,0<k->a.bC[k - 1]? =some y->yg (gZ y) (gZ x):=λk x hx=>Co hx<|hn k (bI.1 hx).1
 refine⟨by omega,λx hx=>?_,?_⟩
 ·grind [eA]
 ·have hstep:∀(n i:Nat)x y,a.bC[i]? =some x->a.bC[i+n+1]? =some y->yg (gZ x) (gZ y):=by
   intro n
   induction n with
   |zero=>grind
   |succ n ih=>
    intro i x y hx hy;have hz:i+n+1<a.bC.length:=by grind
    have h1:=ih i x _ hx<|aK hz
    exact h1.trans<|(hg (i+(n+1)+1) y hy).2 _ (by omega) (by grind)
  rw[nv];intro i j hi hj hij;exact hstep (j - i - 1) i _ _ (aK hi) (by rw[show i+(j - i - 1)+1=j by omega];exact aK hj)
theorem qV.inj{a:jg}(h:qV a){i j:Nat}{x y:dD}(hx:a.bC[i]? =some x)(hy:a.bC[j]? =some y)(e:gZ x=gZ y):i=j:=by
 obtain⟨h1,rfl⟩:=bI.1 hx;obtain⟨h2,rfl⟩:=bI.1 hy;have hp:=nv.1 h.up
 rcases Nat.lt_trichotomy i j with h3|h3|h3
 ·exact absurd e (hp i j h1 h2 h3).ne
 ·exact h3
 ·exact absurd e.symm (hp j i h2 h1 h3).ne
theorem DY{l:List dD}{p:aS}(hu:l.Pairwise (λx y=>yg (gZ x)<|gZ y))(hl:l.length<=1048576)(hN:4194304<=N){φ:dD->aS->Option Int}(hφ:∀x,φ x p=some (il (gZ x) p)):
  ∃r,Ar N l p φ=some r/\(bif(!r.2)then some (-1)else some r.1)=some (B6 l<|λx=>decide<|gZ x=p):=by
 obtain⟨r,h1,h2,h3⟩:=Ja (N:=N) (l:=l) (s:=p) (φ:=φ) (λx=>il (gZ x) p) hφ (λi j x y hij hx hy hc=>by
  obtain⟨g1,rfl⟩:=bI.1 hx;obtain⟨g2,rfl⟩:=bI.1 hy;have hlt:=nv.1 hu i j g1 g2 hij;refine vq.2 ?_
  by_cases h0:il (gZ l[i]) p=0
  ·rw[<-ox.1 h0];exact hlt
  ·exact(vq.1 (by omega)).trans hlt) hl hN
 have e:(λx=>il (gZ x) p==0)=(λx=>decide<|gZ x=p):=by
  funext x;rw[g9,beq_iff_eq,dN,ox]
 rw[e]at h2 h3;refine⟨r,h1,?_⟩
 cases hr:r.2 with
 |true=>simp only[py,bF];rw[h3 hr]
 |false=>
  simp only[pz,aR];rw[hr]at h2;rw[ze h2.symm]
def o7(a:jg)(p:aS):Int:=B6 a.bC<|λx=>decide<|gZ x=p
theorem DZ(a:jg)(p:aS):(o7 a p = -1/\∀x∈a.bC,gZ x≠p)\/∃(k:Nat)(x:dD),o7 a p=((k:Nat):Int)/\a.bC[k]? =some x/\gZ x=p:=by
 rcases lF a.bC (λx=>decide<|gZ x=p)with⟨h1,h2⟩|⟨k,x,h1,h2,h3,_⟩
 ·exact .inl ⟨h1,λx hx=>of_decide_eq_false<|h2 x hx⟩
 ·exact .inr ⟨k,x,h1,h2,of_decide_eq_true h3⟩
end
section
variable {N:Nat}
end
section
variable {N:Nat}
end
section
variable {N:Nat}{a:jg}{mx:List (List aA)}{je:List (List (List aA))}{r:Nat->Nat}{gs:List bK}{ofP ofB qY:List Int}{sE:List j4}
end
structure PS (n:Nat) (r:Nat->Nat) (h:Nat) (q:List Nat) (seen:List Bool) (pieces todo:List Int):Prop where
 sl:seen.length=n
 sn:∀p,p<n->seen[p]? =some (decide<|r p<h\/p∈q)
 qn:q.Nodup
 qi:∀p∈q,p<n/\r p=h
 q0:h∈q
 td:todo=ints q
 pi:mg pieces
 pm:∀x,x∈pieces↔∃p∈q,x=((p:Nat):Int)
structure QS (n m:Nat) (tch:List (List Int)) (r:Nat->Nat) (h:Nat) (q qb:List Nat) (wO:List Int) (used:List Bool):Prop where
 ul:used.length=m
 un:∀k,k<m->used[k]? =some (decide<|k∈qb)
 bi:mg wO
 bm:∀x,x∈wO↔∃k∈qb,x=((k:Nat):Int)
 bk:∀k∈qb,k<m/\r (n+k)=h/\∀l,tch[k]? =some l->∀p:Nat,((p:Nat):Int)∈l->p∈q
theorem PS.CI{n:Nat}{r:Nat->Nat}{h:Nat}{q:List Nat}{seen:List Bool}{pieces todo:List Int}(H:PS n r h q seen pieces todo):q.length<=n/\pieces.length<=n:=by
 have h1:=eD H.qn (m:=List.range n) (λk hk=>by rw[pw];exact(H.qi k hk).1);rw[List.length_range]at h1;have h2:=eD H.pi.nodup (m:=ints q)<|λx hx=>zU.2<|(H.pm x).1 hx
 grind [lf]
theorem QS.CI{n m:Nat}{tch:List (List Int)}{r:Nat->Nat}{h:Nat}{q qb:List Nat}{wO:List Int}{used:List Bool}(H:QS n m tch r h q qb wO used):wO.length<=m:=by
 have h2:=eD H.bi.nodup (m:=ints (List.range m)) (λx hx=>by
  obtain⟨k,hk,e⟩:=(H.bm x).1 hx
  exact zU.2 ⟨k,pw.2 (H.bk k hk).1,e⟩)
 grind [lf,List.length_range]
section
variable {N:Nat}
end
structure Qc (G G':List bK):Prop where
 len:G'.length=G.length
 each:∀(g:Nat)x,G[g]? =some x->∃y,G'[g]? =some y/\y.mA=x.mA/\y.bN=x.bN
section
variable {N:Nat}
end
section
variable {N:Nat}{a:jg}{mx:List (List aA)}{je:List (List (List aA))}{r:Nat->Nat}{gs:List bK}{ofP ofB qY:List Int}{sE:List j4}
theorem xK.DO(b:xK a mx je r gs ofP ofB qY sE):qV a:=Hd b.LK.DO
end
section
variable {N:Nat}{a:jg}{mx:List (List aA)}{je:List (List (List aA))}{r:Nat->Nat}{gs:List bK}{ofP ofB qY:List Int}{sE:List j4}
end
section
variable {N:Nat}
end
section
variable {bs:List cK}{ls:List dD}{pcs:List aH}{r:Nat->Nat}{gs:List bK}{ofP ofB qY:List Int}{sE:List j4}
theorem LN(hc:tJ bs ls pcs r gs ofP ofB qY sE){g:Nat}{x:bK}(hg:gs[g]? =some x):
  ∃hd,(live bs pcs.length (pcs.length+bs.length) r<|bW (pcs.length+bs.length) r)[g]? =some hd/\x.mA=ints (gP pcs.length<|cls (pcs.length+bs.length) r hd)/\
   x.bN=ints (gB bs pcs.length<|cls (pcs.length+bs.length) r hd)/\x.aP=(ls.filter<|λl=>decide<|AG bs pcs r l=some g).map gZ:=by
 rw[hc.gs,ke]at hg;obtain⟨y,hy,rfl⟩:=Option.map_eq_some_iff.1 hg;unfold o6 at hy;rw[eR]at hy;obtain⟨hd,h1,rfl⟩:=Option.map_eq_some_iff.1 hy;exact⟨hd,h1,rfl,rfl,rfl⟩
theorem Jb(hc:tJ bs ls pcs r gs ofP ofB qY sE):gs.length=(live bs pcs.length (pcs.length+bs.length) r<|bW (pcs.length+bs.length) r).length/\gs.length<=pcs.length+bs.length:=by
 have e:gs.length=(live bs pcs.length (pcs.length+bs.length) r<|bW (pcs.length+bs.length) r).length:=by
  rw[hc.gs,wN,tI]
 refine⟨e,?_⟩;rw[e];have:=rH bs pcs.length (pcs.length+bs.length) r<|bW (pcs.length+bs.length) r
 have:=nc (pcs.length+bs.length) r;omega
theorem Ku(hc:tJ bs ls pcs r gs ofP ofB qY sE){g:Nat}{x:bK}(hg:gs[g]? =some x):x.mA.length<=pcs.length+bs.length/\x.bN.length<=pcs.length+bs.length/\x.aP.length<=ls.length:=by
 obtain⟨hd,h1,h2,h3,h4⟩:=LN hc hg;have a1:=E0 pcs.length<|cls (pcs.length+bs.length) r hd
 have a2:=E1 bs pcs.length<|cls (pcs.length+bs.length) r hd
 have a3:=yv (pcs.length+bs.length) r hd;rw[h2,h3,h4,lf,lf,dL];have:=ja (λl=>decide<|AG bs pcs r l=some g) ls;omega
end
section
variable {N:Nat}{a:jg}{mx:List (List aA)}{je:List (List (List aA))}{r:Nat->Nat}{gs:List bK}{ofP ofB qY:List Int}{sE:List j4}
end
section
variable {N:Nat}
end
section
variable {N:Nat}{a:jg}{mx:List (List aA)}{je:List (List (List aA))}{r:Nat->Nat}{gs:List bK}{ofP ofB qY:List Int}{sE:List j4}
theorem Bm(g:qV a)(p:aS)(hN:4398046511104<=N):kr N a p=some (o7 a p):=by
 obtain⟨r,h1,h2⟩:=DY (N:=N) (p:=p) g.up (by have:=g.CI;omega) (by omega) (φ:=gI N) (λx=>by unfold gI;rw[qS,aB,r6,aB]);unfold kr;have e:eJ N a.bC p (gI N)=Ar N a.bC p (gI N):=rfl;rw[e,h1,aB];exact h2
end
section
variable {N:Nat}
end
end Go.Gk
namespace Go.Gk
open Go IntKind
section
variable {N:Nat}
def vr(l:List cE)(k:Nat):Option Int:=
 match l[k]? with
 |none=>none
 |some p=>if isWord p.Name=false then some 5 else if(decide (p.Kind<1)||decide (p.Kind>7))=true then some 4 else if(decide (p.bK<0)||decide (p.bK>200))=true then some 1 else if jh cE.Name l k=true then some 8 else none
def Cp(p q:cE):Bool:=decide (p.bK>0)&&(q.bK==p.bK)&&(q.Kind != p.Kind)
def E6(l:List cE)(k:Nat):Option Int:=
 match l[k]? with
 |none=>none
 |some p=>if(l.take k).any (Cp p)=true then some 12 else none
def lH(l:List cE):Int:=if l.length=0 then 9 else if 200<l.length then 2 else((ki l.length<|vr l).or<|ki l.length<|E6 l).getD 0
def uj(t:List aJ)(k:Nat):Option Int:=
 match t[k]? with
 |none=>none
 |some x=>if isWord x.Name=false then some 5 else if lH x.aP≠0 then some (lH x.aP)else if jh aJ.Name t k=true then some 8 else none
def checkTypes(t:List aJ):Int:=if 200<t.length then 2 else(ki t.length<|uj t).getD 0
theorem F9{R β:Type}(o:Option R)(f:Unit->Option β)(g:R->Option β):(B3 o ()).cs f g=o.elim (f ()) g:=by cases o <;> rfl
theorem z5(o:Option Int):(B3 o ()).cs (λ_=>some (0:Int)) (λr=>some r)=some (o.getD 0):=by cases o <;> rfl
theorem getD_or(a b:Option Int):(a.elim (some<|b.getD 0) λr=>some r)=some ((a.or b).getD 0):=by cases a <;> rfl
theorem tL{l:List cE}(h:bk l<=1048576):jy N l=some (lH l):=by
 have hlen:=mL l;unfold jy lH
 by_cases h0:l.length=0
 ·rw[aG h0,h0];rfl
 ·have e0:(((l.length:Nat):Int)==0)=false:=by rw[beq_eq_false_iff_ne];omega
  rw[aF h0,e0,bF]
  by_cases h1:200<l.length
  ·rw[aG h1,cG (by omega),aR]
  ·rw[aF h1,cB (by omega),bF]
   rw[kW (vr l) (by omega) (λk hk _=>by
    have hx:l[k]? =some l[k]:=aK hk;have hb:=ED hx;rw[zf,m8]at hb;rw[eW hx,aB,kK (by omega),aB,B8 cE.Name hx (by omega)];unfold vr;rw[hx];dsimp only
    cases isWord l[k].Name
    ·rfl
    ·cases decide (l[k].Kind<1)||decide (l[k].Kind>7)
     ·cases decide (l[k].bK<0)||decide (l[k].bK>200)
      ·cases jh cE.Name l k <;> rfl
      ·rfl
     ·rfl),aB]
   rw[F9]
   rw[kW (E6 l) (by omega) (λk hk _=>by
    have hx:l[k]? =some l[k]:=aK hk;rw[eW hx,aB,qA l k (by omega),aB]
    have e:=m9 (l:=l.take k) (φ:=λy0=>eN N y0 l[k]) (Cp l[k]) (by rw[cZ];omega) (λq _=>by
     unfold eN Cp
     cases decide (l[k].bK>0)
     ·rfl
     ·cases q.bK==l[k].bK <;> rfl)
    have e2:fZ N (l.take k) (λy0=>eN N y0 l[k])=nB (l.take k) (λy0=>eN N y0 l[k]):=rfl;rw[e2,e,aB];unfold E6;rw[hx];dsimp only
    cases(l.take k).any (Cp l[k]) <;> rfl),aB,z5]
   exact getD_or _ _
theorem sD{t:List aJ}(h:bk t<=1048576):iP N t=some (checkTypes t):=by
 have hlen:=mL t;unfold iP checkTypes
 by_cases h1:200<t.length
 ·rw[aG h1,cG (by omega),aR]
 ·rw[aF h1,cB (by omega),bF]
  rw[kW (uj t) (by omega) (λk hk _=>by
   have hx:t[k]? =some t[k]:=aK hk;have hb:=ED hx;rw[pJ]at hb;have hb2:=m8 t[k].Name;rw[eW hx,aB,kK (by omega),aB,tL (by omega),aB,B8 aJ.Name hx (by omega)];unfold uj;rw[hx];dsimp only
   cases isWord t[k].Name
   ·rfl
   ·by_cases hc:lH t[k].aP=0
    ·rw[hc];cases jh aJ.Name t k <;> rfl
    ·have:(lH t[k].aP != 0)=true:=by rw[bne_iff_ne];exact hc
     rw[this];simp[hc,Aq]),aB,z5]
structure Cq (t:List aJ):Prop where
 sorted:Sorted aJ.Name t
 pins:∀x∈t,Sorted cE.Name x.aP
theorem ni{e:Nat->Option Int}{m:Nat}(hz:∀k r,e k=some r->r≠0)(h:(ki m e).getD 0=0):∀k,k<m->e k=none:=by
 cases hx:ki m e with
 |none=>exact jq.1 hx
 |some r=>
  obtain⟨k,_,hk,_⟩:=iN.1 hx;rw[hx]at h;exact absurd h<|hz k r hk
theorem He{l:List cE}{k:Nat}{r:Int}(h:vr l k=some r):r≠0:=by
 unfold vr at h
 repeat' split at h
 all_goals first|(injection h with h;omega)|cases h
theorem Cr{l:List cE}(h:lH l=0):Sorted cE.Name l:=by
 unfold lH at h;split at h
 ·cases h
 split at h
 ·cases h
 refine nC λk hk=>?_
 cases hx:ki l.length (vr l)with
 |some r=>
  obtain⟨j,_,hj,_⟩:=iN.1 hx;rw[hx]at h;exact absurd h<|He hj
 |none=>
  have:=jq.1 hx k hk;unfold vr at this;rw[aK hk]at this;dsimp only at this
  repeat' split at this
  all_goals first|(simp at this;done)|simp_all
theorem uR{t:List aJ}(h:checkTypes t=0):Cq t:=by
 unfold checkTypes at h;split at h
 ·cases h
 have hz:∀k r,uj t k=some r->r≠0:=by
  intro k r hk;unfold uj at hk
  repeat' split at hk
  all_goals first|(injection hk with hk;subst hk;first|assumption|omega)|cases hk
 have hn:=ni hz h;have key:∀k(hk:k<t.length),lH t[k].aP=0/\jh aJ.Name t k=false:=by
  intro k hk;have:=hn k hk;unfold uj at this;rw[aK hk]at this;dsimp only at this
  repeat' split at this
  all_goals first|(simp at this;done)|simp_all
 refine⟨nC λk hk=>(key k hk).2,λx hx=>?_⟩;obtain⟨k,hk⟩:=eA hx;obtain⟨hlt,rfl⟩:=bI.1 hk;exact Cr (key k hlt).1
end
section
variable {N:Nat}
theorem xN{t:List aJ}{s:bG}(hs:Sorted aJ.Name t)(ht:bk t<=1048576)(hN:4194304<=N):iQ N t s=some (nat? aJ.Name t s):=by
 have:=mL t;obtain⟨r,h1,h2⟩:=B7 (N:=N) (key:=aJ.Name) (l:=t) (s:=s) (φ:=hZ N) (λx=>rfl) hs (by omega) hN;have e:dH N t s (hZ N)=Ar N t s (hZ N):=rfl;unfold iQ;rw[e,h1,aB];exact h2
theorem Hf{l:List Part}{s:bG}(hs:Sorted Part.Name l)(hl:l.length<=1048576)(hN:4194304<=N):kR N l s=some (nat? Part.Name l s):=by
 obtain⟨r,h1,h2⟩:=B7 (N:=N) (key:=Part.Name) (l:=l) (s:=s) (φ:=ig N) (λx=>rfl) hs (by omega) hN;have e:dY N l s (ig N)=Ar N l s (ig N):=rfl;unfold kR;rw[e,h1,aB];exact h2
theorem Jc{y:aJ}{s:bG}(hs:Sorted cE.Name y.aP)(hl:y.aP.length<=1048576)(hN:4194304<=N):lQ N y s=some (nat? cE.Name y.aP s):=by
 obtain⟨r,h1,h2⟩:=B7 (N:=N) (key:=cE.Name) (l:=y.aP) (s:=s) (φ:=iL N) (λx=>rfl) hs (by omega) hN;have e:dP N y.aP s (iL N)=Ar N y.aP s (iL N):=rfl;unfold lQ;rw[e,h1,aB];exact h2
theorem vt{α:Type}(key:α->bG)(l:List α)(s:bG):(nat? key l s = -1/\∀x∈l,key x≠s)\/∃k x,nat? key l s=((k:Nat):Int)/\l[k]? =some x/\key x=s:=by
 rcases lF l (λx=>(key x).pW s)with⟨h1,h2⟩|⟨k,x,h1,h2,h3,_⟩
 ·exact .inl ⟨h1,λx hx=>oD.1<|h2 x hx⟩
 ·exact .inr ⟨k,x,h1,h2,pI.1 h3⟩
theorem Kv{α:Type}(key:α->bG)(l:List α)(s:bG):decide (nat? key l s>=0)=l.any (λx=>(key x).pW s):=EE _ _
def pQ(t:List aJ)(l:List Part)(k:Nat):Option Int:=
 match l[k]? with
 |none=>none
 |some p=>if jY p.Name=false then some 5 else if nat? aJ.Name t p.iB<0 then some 9 else if jh Part.Name l k=true then some 8 else none
def eP(t:List aJ)(l:List Part):Int:=if 1000<l.length then 2 else(ki l.length<|pQ t l).getD 0
theorem E7{R:Type}(a:Bool)(z:Int)(b:Bool)(f:Int->R):
  ((bif(!a)then some (.rt<|f 5)else(bif decide (z<0)then some (.rt<|f 9)else((some b).bind λs=>bif s then some (.rt<|f 8)else some (.nx ())))):Option (Fl Unit R)) =
  some (Aq ((if a=false then some (5:Int)else if z<0 then some 9 else if b=true then some 8 else none).map f) ()):=by
 cases a
 ·rfl
 ·by_cases hz:z<0
  ·rw[cG hz];simp[Aq,hz]
  ·rw[cB hz];cases b <;> simp[Aq,hz]
theorem E8(o:Option Int):o.map (λx=>x)=o:=by cases o <;> rfl
theorem z6{t:List aJ}{l:List Part}(hs:Sorted aJ.Name t)(ht:bk t<=1048576)(hl:l.length<=1048576)(hln:∀p∈l,p.Name.bX.length<=2097152)(hN:4194304<=N):
  iR N t l (gQ N)=some (eP t l):=by
 unfold iR eP
 by_cases h1:1000<l.length
 ·rw[aG h1,cG (by omega),aR]
 ·rw[aF h1,cB (by omega),bF]
  rw[kW (pQ t l) (by omega) (λk hk _=>by
   have hx:l[k]? =some l[k]:=aK hk;have hb:=hln _<|cU hk
   rw[eW hx,aB,mS (by omega) hN,aB,xN hs ht hN,aB,B8 Part.Name hx (by omega)];refine(E7 _ _ _ (λx:Int=>x)).trans ?_
   rw[E8];unfold pQ;rw[hx]),aB,z5]
def o8(t:List aJ)(l:List Part)(p:aS):Bool:=
 match l.find? (λx=>x.Name.pW p.Part)with
 |none=>false
 |some x=>match t.find? (λy=>y.Name.pW x.iB)with
  |none=>false
  |some y=>y.aP.any (λq=>q.Name.pW p.aS)
theorem yw{α:Type}{l:List α}{p:α->Bool}{k:Nat}{x:α}(hk:B6 l p=((k:Nat):Int))(hx:l[k]? =some x):l.find? p=some x:=by
 rcases lF l p with⟨h1,_⟩|⟨k',x',h1,h2,h3,h4⟩
 ·omega
 ·have:k'=k:=by omega
  subst this;rw[hx]at h2;injection h2 with h2;subst h2
  rw[List.find?_eq_some_iff_getElem];obtain⟨hlt,hxx⟩:=bI.1 hx;exact⟨h3,k',hlt,hxx,λj hj=>by rw[h4 j l[j] hj<|aK (by omega)];rfl⟩
theorem Bn{α:Type}{l:List α}{p:α->Bool}(hk:B6 l p = -1):l.find? p=none:=by
 rcases lF l p with⟨_,h⟩|⟨k',x',h1,_⟩
 ·rw[List.find?_eq_none];intro x hx;rw[h x hx];decide
 ·omega
def Typed(t:List aJ)(l:List Part):Prop:=∀x∈l,0<=nat? aJ.Name t x.iB
theorem D0{t:List aJ}{l:List Part}{p:aS}(htl:Typed t l){fp:Option Int}{ft:bG->Option Int}{fq:aJ->Option Int}
  (h1:fp=some (nat? Part.Name l p.Part)) (h2:∀s,ft s=some (nat? aJ.Name t s)) (h3:∀y∈t,fq y=some (nat? cE.Name y.aP p.aS)):
  (fp.bind λx2=>(bif decide (x2>=0)then((idx l x2).bind λx18=>(ft x18.iB).bind λx21=>(idx t x21).bind λJS=>(fq JS).bind λx25=>some<|decide<|x25>=0)else some false).bind λs16=>some s16)=some (o8 t l p):=by
 rw[h1,aB];unfold o8
 rcases vt Part.Name l p.Part with⟨h4,_⟩|⟨k,x,h4,h5,h6⟩
 ·rw[Bn h4,h4];rfl
 ·rw[yw h4 h5,h4,cG (by omega),aR,eW h5,aB,h2,aB];dsimp only;have h7:=htl x<|eM h5
  rcases vt aJ.Name t x.iB with⟨h8,_⟩|⟨j,y,h8,h9,_⟩
  ·omega
  ·rw[yw h8 h9,h8,eW h9,aB,h3 y<|eM h9,aB,aB,Kv]
theorem vu{t:List aJ}{l:List Part}{p:aS}(ht:Cq t)(hl:Sorted Part.Name l)(htl:Typed t l)(hbt:bk t<=1048576)(hbl:l.length<=1048576)(hN:4194304<=N):
  mB N t l p=some (o8 t l p):=by
 exact D0 htl (Hf hl (by omega) hN) (λs=>xN ht.sorted hbt hN) (λy hy=>Jc (ht.pins y hy) (by
  have h1:=m7 hy;rw[pJ]at h1;have h2:=mL y.aP;omega) hN)
def jf(a b:aS):Bool:=a.Part.wT b.Part||(a.Part.pW b.Part&&a.aS.wT b.aS)
def nj(l:List aS)(k:Nat):Bool:=match l[k]?,l[k - 1]? with|some p,some q=>decide (0<k)&& !jf q p|_,_=>false
theorem Jd(a b:bG):0<Lib.compareBytes a.bX b.bX↔bG.lt b a:=by
 have h1:=m6 a.bX b.bX;have h2:=i5 a.bX b.bX
 rcases bG.qB a b with h|h|h
 ·have h3:=h1.2 h;exact⟨λh'=>by omega,λh'=>absurd h'<|bG.lt_asymm h⟩
 ·subst h;have h3:=h2.2 rfl;exact⟨λh'=>by omega,λh'=>absurd h'<|bG.lt_irrefl _⟩
 ·refine⟨λ_=>h,λ_=>?_⟩;have h3:¬Lib.compareBytes a.bX b.bX<0:=λh'=>bG.lt_asymm h<|h1.1 h'
  have h4:¬Lib.compareBytes a.bX b.bX=0:=λh'=>bG.zc h (bG.ext'<|h2.1 h').symm;omega
def rJ(a b:aS):Int:=if Lib.compareBytes a.Part.bX b.Part.bX=0 then Lib.compareBytes a.aS.bX b.aS.bX else Lib.compareBytes a.Part.bX b.Part.bX
theorem tM(a b:aS):cX N a b=some (rJ a b):=by
 show(bif Lib.compareBytes a.Part.bX b.Part.bX != 0 then some (Lib.compareBytes a.Part.bX b.Part.bX)else some (Lib.compareBytes a.aS.bX b.aS.bX))=_;unfold rJ
 by_cases h:Lib.compareBytes a.Part.bX b.Part.bX=0
 ·rw[h];rfl
 ·have:(Lib.compareBytes a.Part.bX b.Part.bX != 0)=true:=by rw[bne_iff_ne];exact h
  rw[this,aF h];rfl
theorem Bo(a b:aS):decide (rJ a b<=0) = !jf b a:=by
 unfold rJ jf
 by_cases h:Lib.compareBytes a.Part.bX b.Part.bX=0
 ·have e:a.Part=b.Part:=bG.ext'<|(i5 _ _).1 h
  have e2:b.Part.wT a.Part=false:=by rw[e,<-ju];exact bG.lt_irrefl _
  rw[aG h,e2,pI.2 e.symm,Bool.false_or,Bool.true_and];have:=Jd a.aS b.aS;rw[g9,dN,Bool.not_eq_true',<-ju];constructor
  ·intro h1 h2;have:=this.2 h2;omega
  ·intro h1
   by_cases h3:0<Lib.compareBytes a.aS.bX b.aS.bX
   ·exact absurd (this.1 h3) h1
   ·omega
 ·have e:b.Part≠a.Part:=λe=>h<|(i5 _ _).2 (by rw[e])
  rw[aF h,oD.2 e,Bool.false_and,Bool.or_false];have:=Jd a.Part b.Part;rw[g9,dN,Bool.not_eq_true',<-ju];constructor
  ·intro h1 h2;have:=this.2 h2;omega
  ·intro h1
   by_cases h3:0<Lib.compareBytes a.Part.bX b.Part.bX
   ·exact absurd (this.1 h3) h1
   ·omega
theorem Hg{l:List aS}{k:Nat}{x:aS}{f:aS->Option Bool}(hf:∀y,f y=some (!jf y x))(hx:l[k]? =some x)(hl:l.length<=1048576):
  (bif decide (((k:Nat):Int)>0)then(idx l<|wrap .i64<|((k:Nat):Int) - 1).bind f else some false)=some (nj l k):=by
 have hk:=(bI.1 hx).1;unfold nj
 by_cases h0:0<k
 ·rw[cG (by omega),aR,lE h0 (by omega),gL l _ (by omega),aB,hx,aK (by omega:k - 1<l.length),hf];simp[h0]
 ·have:k=0:=by omega
  subst this;rw[hx];simp
def rK(l:List Net)(p:aS):Bool:=l.any<|λn=>decide<|p∈n.aP
def o9(t:List aJ)(x:aT)(i:Nat)(l:List aS)(k:Nat):Option Int:=
 match l[k]? with
 |none=>none
 |some p=>if o8 t x.cJ p=false then some 9 else if nj l k=true then some 8 else if rK (x.bA.take i) p=true then some 7 else none
def tN(t:List aJ)(x:aT)(i:Nat):Option Int:=
 match x.bA[i]? with
 |none=>none
 |some n=>if jY n.Name=false then some 5 else if n.aP.length=0 then some 9 else if 500<n.aP.length then some 2 else
   (ki n.aP.length<|o9 t x i n.aP).or (if 0<n.rU.length then some 3 else if jh Net.Name x.bA i=true then some 8 else none)
def nk(t:List aJ)(x:aT):Int:=if 1000<x.bA.length then 2 else(ki x.bA.length<|tN t x).getD 0
def fW(t:List aJ)(x:aT):Int:=
 if checkTypes t≠0 then checkTypes t else if eP t x.cJ≠0 then eP t x.cJ else nk t x
theorem vv{t:List aJ}{l:List Part}{k:Nat}{r:Int}(h:pQ t l k=some r):r≠0:=by
 unfold pQ at h
 repeat' split at h
 all_goals first|(injection h with h;omega)|cases h
structure Ga (t:List aJ) (l:List Part):Prop where
 sorted:Sorted Part.Name l
 typed:Typed t l
theorem uS{t:List aJ}{l:List Part}(h:eP t l=0):Ga t l:=by
 unfold eP at h;split at h
 ·cases h
 have hn:=ni (λk r hk=>vv hk) h;have key:∀k(hk:k<l.length),0<=nat? aJ.Name t l[k].iB/\jh Part.Name l k=false:=by
  intro k hk;have:=hn k hk;unfold pQ at this;rw[aK hk]at this;dsimp only at this
  repeat' split at this
  all_goals first|(simp at this;done)|simp_all
 refine⟨nC λk hk=>(key k hk).2,λx hx=>?_⟩;obtain⟨k,hk⟩:=eA hx;obtain⟨hlt,rfl⟩:=bI.1 hk;exact(key k hlt).1
theorem D1{t:List aJ}{x:aT}{i:Nat}{l:List aS}{k:Nat}{r:Int}(h:o9 t x i l k=some r):r≠0:=by
 unfold o9 at h
 repeat' split at h
 all_goals first|(injection h with h;omega)|cases h
theorem yh{l:List aS}{has:aS->Option Bool}{m:List (aS×Bool)}(hB:aS->Bool)(hh:∀p∈l,has p=some (hB p))(hl:l.length<=1048576):
  gR N l has m=some (if 500<l.length then((2:Int),m)else
   (ki l.length (λk=>match l[k]? with
    |none=>none
    |some p=>if hB p=false then some (9:Int)else if nj l k=true then some 8 else if dR m p false=true then some 7 else none)).elim ((0:Int),lV m l true) (λr=>(r,m))):=by
 unfold gR
 by_cases h1:500<l.length
 ·rw[aG h1,cG (by omega),aR]
 ·rw[aF h1,cB (by omega),bF]
  rw[kW (λk=>Option.map (λ(r:Int)=>(r,m)) (match l[k]? with
    |none=>none
    |some p=>if hB p=false then some (9:Int)else if nj l k=true then some 8 else if dR m p false=true then some 7 else none)) (by omega) (λk hk _=>by
   have hx:l[k]? =some l[k]:=aK hk;rw[eW hx,aB,hh _<|cU hk,aB,Hg (λy=>by rw[tM,aB,Bo]) hx hl,hx];dsimp only
   cases hB l[k]
   ·rfl
   ·cases nj l k
    ·cases dR m l[k] false <;> rfl
    ·rfl),aB,F9,Bc true (by omega),aB]
  rw[<-Iy];generalize ki l.length _=o
  cases o <;> rfl
def rL(x:aT)(i:Nat):List (aS×Bool):=(x.bA.take i).foldl (λm n=>lV m n.aP true) []
theorem Hh(l:List Net)(p:aS):∀(m:List (aS×Bool)),dR (l.foldl (λm n=>lV m n.aP true) m) p false=(rK l p||dR m p false):=by
 induction l with
 |nil=>intro m;rfl
 |cons n l ih=>
  intro m;rw[List.foldl_cons,ih,rE];unfold rK;rw[List.any_cons]
  by_cases h:p∈n.aP <;> simp[h]
theorem Cs(x:aT)(i:Nat)(p:aS):dR (rL x i) p false=rK (x.bA.take i) p:=by
 unfold rL;rw[Hh];simp[dR]
theorem Ct{x:aT}{i:Nat}{n:Net}(h:x.bA[i]? =some n):rL x (i+1)=lV (rL x i) n.aP true:=by
 unfold rL;obtain⟨hlt,rfl⟩:=bI.1 h;rw[dF hlt,List.foldl_append];rfl
structure K2 (x:aT):Prop where
 pl:x.cJ.length<=1048576
 pn:∀p∈x.cJ,p.Name.bX.length<=2097152
 nl:x.bA.length<=1048576
 nn:∀n∈x.bA,n.Name.bX.length<=2097152
 np:∀n∈x.bA,n.aP.length<=1048576
theorem E9{x:aT}(h:bk x<=1048576):K2 x:=by
 rw[rz]at h;have h1:=mL x.cJ;have h2:=mL x.bA;refine⟨by omega,λp hp=>?_,by omega,λn hn=>?_,λn hn=>?_⟩
 ·have:=m7 hp;rw[B9]at this;have h3:=m8 p.Name;omega
 ·have:=m7 hn;rw[zg,m8]at this;omega
 ·have:=m7 hn;rw[zg]at this;have h3:=mL n.aP;omega
theorem kD{t:List aJ}{x:aT}(hbt:bk t<=1048576)(hbx:K2 x)(hN:4194304<=N):jB N t x=some (fW t x):=by
 have hpl:=hbx.pl;have hln:=hbx.nl;unfold jB fW;rw[sD hbt,aB]
 by_cases h1:checkTypes t≠0
 ·have e:(checkTypes t != 0)=true:=by rw[bne_iff_ne];exact h1
  rw[e,aR,aG h1]
 replace h1:=Decidable.not_not.1 h1
 have ht:=uR h1;have e:(checkTypes t != 0)=false:=by rw[h1];rfl
 rw[e,bF,aF<|λh=>h h1,z6 ht.sorted hbt hbx.pl hbx.pn hN,aB]
 by_cases h2:eP t x.cJ≠0
 ·have e:(eP t x.cJ != 0)=true:=by rw[bne_iff_ne];exact h2
  rw[e,aR,aG h2]
 replace h2:=Decidable.not_not.1 h2
 have hp:=uS h2;have e:(eP t x.cJ != 0)=false:=by rw[h2];rfl
 rw[e,bF,aF<|λh=>h h2];unfold nk
 by_cases h3:1000<x.bA.length
 ·rw[aG h3,cG (by omega),aR]
 ·rw[aF h3,cB (by omega),bF]
  rw[FQ (s:=([]:List (aS×Bool))) (rL x) (tN t x) (by omega) rfl (λi hi _=>by
   have hx:x.bA[i]? =some x.bA[i]:=aK hi;have hb2:=hbx.nn _<|cU hi
   have hlp:=hbx.np _<|cU hi
   rw[Ct hx]
   rw[eW hx,aB,mS (by omega) hN,aB,yh (o8 t x.cJ) (λp _=>by
    unfold jA
    rw[vu ht hp.sorted hp.typed hbt hpl hN,aB]) (by omega),aB,B8 Net.Name hx (by omega)]
   unfold tN;rw[hx];dsimp only
   cases jY x.bA[i].Name
   ·rfl
   simp only[py,bF,Bool.true_eq_false,if_false]
   by_cases h4:x.bA[i].aP.length=0
   ·rw[aG h4,h4];rfl
   have e4:(((x.bA[i].aP.length:Nat):Int)==0)=false:=by rw[beq_eq_false_iff_ne];omega
   rw[aF h4,e4,bF]
   by_cases h5:500<x.bA[i].aP.length
   ·rw[aG h5,aG h5];rfl
   rw[aF h5,aF h5]
   have e5:(ki x.bA[i].aP.length (λk=>match x.bA[i].aP[k]? with
    |none=>none
    |some p=>if o8 t x.cJ p=false then some (9:Int)else if nj x.bA[i].aP k=true then some 8 else if dR (rL x i) p false=true then some 7 else none))=ki x.bA[i].aP.length (o9 t x i x.bA[i].aP):=by
    congr 1;funext k;unfold o9;split
    ·rfl
    ·rw[Cs]
   rw[e5]
   cases h6:ki x.bA[i].aP.length (o9 t x i x.bA[i].aP)with
   |some r=>
    obtain⟨j,_,hj,_⟩:=iN.1 h6;have e6:(r != 0)=true:=by rw[bne_iff_ne];exact D1 hj
    simp only[Option.elim_some,e6,aR];rfl
   |none=>
    simp only[Option.elim_none,bne_self_eq_false,bF,Option.none_or]
    by_cases h7:0<x.bA[i].rU.length
    ·rw[aG h7,cG (by omega)];rfl
    ·rw[aF h7,cB (by omega)]
     cases jh Net.Name x.bA i <;> rfl),aB]
  cases ki x.bA.length (tN t x) <;> rfl
end
section
variable {N:Nat}
structure vx (t:List aJ) (x:aT):Prop where
 types:Cq t
 parts:Ga t x.cJ
 CI:x.cJ.length<=1000
 Cu:x.bA.length<=1000
 Cv:∀n∈x.bA,0<n.aP.length/\n.aP.length<=500
 ND:∀n∈x.bA,n.rU= []
 Qd:Sorted Net.Name x.bA
 path:∀n∈x.bA,jY n.Name=true
 PK:∀p∈x.cJ,jY p.Name=true
 Qh:∀n∈x.bA,∀p∈n.aP,o8 t x.cJ p=true
 Pz:∀n∈x.bA,∀(i j:Nat)(p q:aS),i<j->n.aP[i]? =some p->n.aP[j]? =some q->jf p q=true
 once:∀(i j:Nat)(n m:Net)(p:aS),x.bA[i]? =some n->x.bA[j]? =some m->p∈n.aP->p∈m.aP->i=j
theorem rM(a:aS):jf a a=false:=by
 unfold jf;have h1:a.Part.wT a.Part=false:=by rw[<-ju];exact bG.lt_irrefl _
 have h2:a.aS.wT a.aS=false:=by rw[<-ju];exact bG.lt_irrefl _
 rw[h1,h2];simp
theorem pR{a b c:aS}(h1:jf a b=true)(h2:jf b c=true):jf a c=true:=by
 unfold jf at *;simp only[fG,cN,pI]at *
 rcases h1 with h1|⟨e1,h1⟩
 ·rcases h2 with h2|⟨e2,_⟩
  ·exact .inl<|bG.lt_trans h1 h2
  ·rw[<-e2];exact .inl h1
 ·rcases h2 with h2|⟨e2,h2⟩
  ·rw[e1];exact .inl h2
  ·exact .inr ⟨e1.trans e2,bG.lt_trans h1 h2⟩
theorem pS(a b:aS):jf a b=true\/a=b\/jf b a=true:=by
 unfold jf;simp only[fG,cN,pI]
 rcases bG.qB a.Part b.Part with h|h|h
 ·exact .inl<|.inl h
 ·rcases bG.qB a.aS b.aS with h'|h'|h'
  ·exact .inl<|.inr ⟨h,h'⟩
  ·refine .inr<|.inl ?_;cases a;cases b;simp_all
  ·exact .inr<|.inr<|.inr ⟨h.symm,h'⟩
 ·exact .inr<|.inr<|.inl h
theorem Hi{l:List aS}(h:∀k,k<l.length->nj l k=false):∀(i j:Nat)(p q:aS),i<j->l[i]? =some p->l[j]? =some q->jf p q=true:=by
 intro i j
 induction j with
 |zero=>intro p q hij;omega
 |succ j ih=>
  intro p q hij hp hq;have hj:=(bI.1 hq).1;have h1:=h (j+1) hj;unfold nj at h1;rw[hq,Nat.add_sub_cancel,aK (by omega:j<l.length)]at h1;simp at h1
  by_cases e:i=j
  ·subst e;rw[aK (by omega:i<l.length)]at hp;injection hp with hp;subst hp;exact h1
  ·exact pR (ih p l[j] (by omega) hp<|aK (by omega)) h1
theorem Bp{t:List aJ}{x:aT}{k:Nat}{r:Int}(h:tN t x k=some r):r≠0:=by
 unfold tN at h;split at h
 ·cases h
 split at h
 ·injection h with h;omega
 split at h
 ·injection h with h;omega
 split at h
 ·injection h with h;omega
 cases hx:ki _ (o9 t x k _)with
 |some r'=>
  rw[hx]at h;injection h with h
  subst h;obtain⟨j,_,hj,_⟩:=iN.1 hx;exact D1 hj
 |none=>
  rw[hx]at h;simp only[Option.none_or]at h;split at h
  ·injection h with h;omega
  split at h
  ·injection h with h;omega
  ·cases h
theorem rN{t:List aJ}{x:aT}(h:fW t x=0):vx t x:=by
 unfold fW at h
 by_cases h1:checkTypes t≠0
 ·rw[aG h1]at h;exact absurd h h1
 rw[aF h1]at h
 by_cases h2:eP t x.cJ≠0
 ·rw[aG h2]at h;exact absurd h h2
 rw[aF h2]at h
 replace h1:=Decidable.not_not.1 h1
 replace h2:=Decidable.not_not.1 h2
 unfold nk at h
 by_cases h3:1000<x.bA.length
 ·rw[aG h3]at h;cases h
 rw[aF h3]at h;have hn:=ni (λk r hk=>Bp hk) h;have key:∀i(hi:i<x.bA.length),jY x.bA[i].Name=true/\0<x.bA[i].aP.length/\x.bA[i].aP.length<=500/\x.bA[i].rU= []/\jh Net.Name x.bA i=false/\
   ∀k(hk:k<x.bA[i].aP.length),o8 t x.cJ x.bA[i].aP[k]=true/\nj x.bA[i].aP k=false/\rK (x.bA.take i) x.bA[i].aP[k]=false:=by
  intro i hi;have h4:=hn i hi;unfold tN at h4;rw[aK hi]at h4;dsimp only at h4;split at h4
  ·cases h4
  split at h4
  ·cases h4
  split at h4
  ·cases h4
  cases h5:ki x.bA[i].aP.length (o9 t x i x.bA[i].aP)with
  |some r=>rw[h5]at h4;cases h4
  |none=>
   rw[h5]at h4;simp only[Option.none_or]at h4;split at h4
   ·cases h4
   split at h4
   ·cases h4
   rename_i h6 h7 h8 h9 h10;refine⟨by simpa using h6,by omega,by omega,List.length_eq_zero_iff.1 (by omega),by simpa using h10,λk hk=>?_⟩;have h11:=jq.1 h5 k hk;unfold o9 at h11;rw[aK hk]at h11;dsimp only at h11
   repeat' split at h11
   all_goals first|(simp at h11;done)|simp_all
 have hpe:∀k(hk:k<x.cJ.length),jY x.cJ[k].Name=true:=by
  intro k hk;have h5:=h2;unfold eP at h5;split at h5
  ·cases h5
  have h4:=ni (λk r hk=>vv hk) h5 k hk;unfold pQ at h4;rw[aK hk]at h4;dsimp only at h4;split at h4
  ·cases h4
  ·rename_i h6;simpa using h6
 have mem:∀n∈x.bA,∃i,∃hi:i<x.bA.length,n=x.bA[i]:=λn hn=>by
  obtain⟨i,hi⟩:=eA hn;obtain⟨hlt,rfl⟩:=bI.1 hi;exact⟨i,hlt,rfl⟩
 refine⟨uR h1,uS h2,?_,by omega,λn hn=>?_,λn hn=>?_,nC λi hi=>(key i hi).2.2.2.2.1,λn hn=>?_,λp hp=>?_,λn hn p hp=>?_,λn hn=>?_,?_⟩
 ·unfold eP at h2;split at h2
  ·cases h2
  ·omega
 ·obtain⟨i,hi,rfl⟩:=mem n hn;exact⟨(key i hi).2.1,(key i hi).2.2.1⟩
 ·obtain⟨i,hi,rfl⟩:=mem n hn;exact(key i hi).2.2.2.1
 ·obtain⟨i,hi,rfl⟩:=mem n hn;exact(key i hi).1
 ·obtain⟨k,hk⟩:=eA hp;obtain⟨hlt,rfl⟩:=bI.1 hk;exact hpe k hlt
 ·obtain⟨i,hi,rfl⟩:=mem n hn;obtain⟨k,hk⟩:=eA hp;obtain⟨hlt,rfl⟩:=bI.1 hk;exact((key i hi).2.2.2.2.2 k hlt).1
 ·obtain⟨i,hi,rfl⟩:=mem n hn;exact Hi λk hk=>((key i hi).2.2.2.2.2 k hk).2.1
 ·have one:∀(i j:Nat)(n m:Net)(p:aS),i<j->x.bA[i]? =some n->x.bA[j]? =some m->p∈n.aP->p∈m.aP->False:=by
   intro i j n m p hij hn hm hpn hpm;obtain⟨hj,rfl⟩:=bI.1 hm;obtain⟨k,hk⟩:=eA hpm;obtain⟨hlt,rfl⟩:=bI.1 hk;have h5:=((key j hj).2.2.2.2.2 k hlt).2.2;unfold rK at h5;rw[List.any_eq_false]at h5;refine h5 n (eM (i:=i) (by rw[List.getElem?_take_of_lt hij];exact hn)) ?_;simpa using hpn
  intro i j n m p hn hm hpn hpm
  rcases Nat.lt_trichotomy i j with h5|h5|h5
  ·exact(one i j n m p h5 hn hm hpn hpm).elim
  ·exact h5
  ·exact(one j i m n p h5 hm hn hpm hpn).elim
def j6(x:aT)(p:aS):Int:=B6 x.bA<|λn=>decide<|p∈n.aP
def mV(x:aT)(i:Nat):List (aS×Int):=(List.range i).foldl (λm k=>lV m ((x.bA[k]?.map Net.aP).getD []) ((k:Nat):Int)) []
theorem tO{x:aT}{i:Nat}{n:Net}(h:x.bA[i]? =some n):mV x (i+1)=lV (mV x i) n.aP ((i:Nat):Int):=by
 unfold mV;rw[List.range_succ,List.foldl_append,List.foldl_cons,List.foldl_nil,h];rfl
theorem D2{x:aT}(hb:K2 x):lB N x=some (mV x x.bA.length):=by
 have:=hb.nl;unfold lB
 rw[wh (s:=([]:List (aS×Int))) (mV x) (by omega) rfl (λk hk=>by
  have hx:x.bA[k]? =some x.bA[k]:=aK hk;have:=hb.np _<|cU hk
  rw[eW hx,aB,Bc _ (by omega),aB,tO hx]),aB]
theorem x0{x:aT}{p:aS}:∀(i:Nat),i<=x.bA.length->gX (mV x i) p=(x.bA.take i).any (λn=>decide<|p∈n.aP)
 | 0,_=>by simp[mV,gX]
 |i+1,h=>by
  have hx:x.bA[i]? =some x.bA[i]:=aK (by omega);rw[tO hx,EN,x0 i (by omega),dF (by omega),List.any_append];simp[Bool.or_comm]
theorem x3{x:aT}{p:aS}{j:Nat}(hj:∀k n,x.bA[k]? =some n->p∈n.aP->k=j)(z:Int):∀(i:Nat),i<=x.bA.length->dR (mV x i) p z=if(x.bA.take i).any (λn=>decide<|p∈n.aP)=true then((j:Nat):Int)else z
 | 0,_=>by simp[mV,dR]
 |i+1,h=>by
  have hx:x.bA[i]? =some x.bA[i]:=aK (by omega);rw[tO hx,rE,x3 hj z i (by omega),dF (by omega),List.any_append]
  by_cases hp:p∈x.bA[i].aP
  ·have hji:=hj i _ hx hp;rw[aG hp,aG (by simp[hp])];omega
  ·rw[aF hp];simp[hp]
theorem xO{t:List aJ}{x:aT}(h:vx t x)(p:aS):
  gX (mV x x.bA.length) p=decide (j6 x p>=0)/\(0<=j6 x p->∀z,dR (mV x x.bA.length) p z=j6 x p):=by
 have e:gX (mV x x.bA.length) p=x.bA.any (λn=>decide<|p∈n.aP):=by rw[x0 _<|bU _,dG]
 unfold j6;refine⟨by rw[e,EE],λh0 z=>?_⟩
 rcases lF x.bA (λn=>decide<|p∈n.aP)with⟨h1,_⟩|⟨k,n,h1,h2,h3,_⟩
 ·rw[h1]at h0;omega
 ·have h3':p∈n.aP:=by simpa using h3
  rw[x3 (j:=k) (λi m hm hp=>h.once i k m n p hm h2 hp h3') z _<|bU _,dG,h1,aG];exact ln.2 ⟨n,eM h2,h3⟩
def pT(t:List aJ)(p:Part):aJ:=(t.find?<|λy=>y.Name.pW p.iB).getD default
def mh(t:List aJ)(p:Part):List aS:=(pT t p).aP.map<|λy=>⟨p.Name,y.Name⟩
def gM(t:List aJ)(x:aT):List aS:=x.cJ.flatMap λp=>(mh t p).filter<|λq=>decide<|j6 x q<0
theorem z7{t:List aJ}{p:Part}(h:0<=nat? aJ.Name t p.iB):∃k:Nat,nat? aJ.Name t p.iB=((k:Nat):Int)/\t[k]? =some (pT t p):=by
 rcases vt aJ.Name t p.iB with⟨h1,_⟩|⟨k,y,h1,h2,_⟩
 ·omega
 ·refine⟨k,h1,?_⟩;unfold pT;rw[yw h1 h2];exact h2
theorem z8{α β:Type}{l:List α}{body:Nat->List β->Option (List β)}{s0:List β}(f:α->List β)(hl:l.length<=4611686018427387904)
  (h:∀k y,l[k]? =some y->body k (s0++(l.take k).flatMap f)=some (s0++(l.take k).flatMap f++f y)):gN l.length body s0=some (s0++l.flatMap f):=by
 rw[wh (s:=s0) (λk=>s0++(l.take k).flatMap f) hl (by simp) (λk hk=>by
  rw[h k l[k] (aK hk),dF hk,List.flatMap_append,kE];simp),dG]
theorem lh{α β:Type}(f:α->List β)(b:Nat):∀(l:List α),(∀x∈l,(f x).length<=b)->(l.flatMap f).length<=l.length*b
 | [],_=>by simp
 |x::l,h=>by
  have h1:=h x (by simp);have h2:=lh f b l<|λy hy=>h y (by simp[hy])
  rw[List.flatMap_cons,dE,fY,Nat.succ_mul];omega
theorem iO{α β:Type}(f:α->List β)(b:Nat)(l:List α)(k:Nat)(h:∀x∈l,(f x).length<=b):((l.take k).flatMap f).length<=l.length*b:=
 j8 (lh f b _<|λx hx=>h x<|List.mem_of_mem_take hx) (Nat.mul_le_mul_right b (by rw[cZ];omega))
theorem rO{t:List aJ}{p:Part}(hbt:bk t<=1048576)(h:0<=nat? aJ.Name t p.iB):(pT t p).aP.length<=1048576:=by
 obtain⟨k,_,h2⟩:=z7 h;have h3:=ED h2;rw[pJ]at h3;have:=mL (pT t p).aP;omega
theorem Hj{t:List aJ}{p:Part}(hs:Sorted aJ.Name t)(hbt:bk t<=1048576)(h:0<=nat? aJ.Name t p.iB)(hN:4194304<=N):kU N t p=some (mh t p):=by
 have hl:=rO hbt h;obtain⟨k,h1,h2⟩:=z7 h;unfold kU;rw[xN hs hbt hN,aB,h1,eW h2,aB]
 rw[z8 (s0:=([]:List aS)) (λ(y:cE)=>[(⟨p.Name,y.Name⟩:aS)]) (by omega) (λk y hy=>by
  have:=iO (λ(y:cE)=>[(⟨p.Name,y.Name⟩:aS)]) 1 (pT t p).aP k (λ_ _=>by simp)
  rw[eW hy,aB,gu (by simp only[List.nil_append,fY,List.length_nil]at this ⊢;omega),aB]),aB]
 unfold mh;congr 1;rw[List.nil_append]
 induction (pT t p).aP with
 |nil=>rfl
 |cons a l ih=>rw[List.flatMap_cons,ih];rfl
theorem x4{t:List aJ}{x:aT}(hbt:bk t<=1048576)(ok:vx t x){f:Part->List aS}(hf:∀p∈x.cJ,(f p).length<=(pT t p).aP.length)(k:Nat):((x.cJ.take k).flatMap f).length<=1048576000:=by
 have:=iO f 1048576 x.cJ k<|λp hp=>j8 (hf p hp)<|rO hbt<|ok.parts.typed p hp
 have:=ok.CI;have:x.cJ.length*1048576<=1000*1048576:=Nat.mul_le_mul_right _ ok.CI;omega
theorem D3{α:Type}(p:α->Bool)(l:List α):l.flatMap (λy=>if p y=true then [y]else [])=l.filter p:=by
 induction l with
 |nil=>rfl
 |cons a l ih=>rw[List.flatMap_cons,ih,List.filter_cons];cases p a <;> simp
theorem D4{t:List aJ}{x:aT}(hbt:bk t<=1048576)(hbx:K2 x)(ok:vx t x)(hN:4194304<=N):kg N t x=some (gM t x):=by
 have hlp:=hbx.pl;unfold kg gM;rw[D2 hbx,aB]
 rw[z8 (s0:=([]:List aS)) (λ(p:Part)=>(mh t p).filter (λq=>decide (j6 x q<0))) (by omega) (λk p hp=>by
  have hm:=eM hp;have hty:=ok.parts.typed p hm;have hpl:(mh t p).length<=1048576:=by unfold mh;rw[dL];exact rO hbt hty
  have hlen:=x4 hbt ok (f:=λ(p:Part)=>(mh t p).filter<|λq=>decide<|j6 x q<0) (λp _=>j8 (ja _ _) (by unfold mh;rw[dL];exact bU _)) k;rw[eW hp,aB,Hj ok.types.sorted hbt hty hN,aB];rw[List.nil_append]
  rw[z8 (s0:=(x.cJ.take k).flatMap λ(p:Part)=>(mh t p).filter (λq=>decide (j6 x q<0))) (λq=>if decide (j6 x q<0)=true then [q]else []) (by omega) (λj q hq=>by
   rw[eW hq,aB,(xO ok q).1];have e:(!decide (j6 x q>=0))=decide (j6 x q<0):=by rw[<-decide_not];congr 1;rw[eq_iff_iff];omega
   rw[e];have h2:=iO (λq=>if decide (j6 x q<0)=true then [q]else []) 1 (mh t p) j (λq _=>by split <;> simp)
   cases decide (j6 x q<0)
   ·simp
   ·rw[aR,gu (by simp only[dE,fY,List.length_nil];omega)];rfl),aB,D3]),aB,List.nil_append]
def Fa(t:List aJ)(x:aT):List aS×Int:=if fW t x≠0 then([],fW t x)else(gM t x,0)
theorem Fb{t:List aJ}{x:aT}(hbt:bk t<=1048576):(Fa t x).1.length<=1048576000:=by
 unfold Fa
 by_cases h1:fW t x≠0
 ·rw[aG h1];simp
 rw[aF h1];have ok:=rN<|Decidable.not_not.1 h1
 have:=x4 hbt ok (f:=λ(p:Part)=>(mh t p).filter<|λq=>decide<|j6 x q<0) (λp _=>j8 (ja _ _) (by unfold mh;rw[dL];exact bU _)) x.cJ.length;rwa[dG]at this
end
section
variable {N:Nat}
section
variable {α:Type}
theorem Sorted.jh{key:α->bG}{l:List α}(h:Sorted key l){k:Nat}(hk:k<l.length):Gk.jh key l k=false:=by
 unfold Gk.jh;rw[aK hk,aK (by omega:k - 1<l.length)];dsimp only
 by_cases h0:0<k
 ·rw[FT.2<|h (k - 1) k _ _ (by omega) (aK (by omega))<|aK hk];simp
 ·rw[cB h0];simp
end
section
variable {α:Type}
end
end
section
variable {N:Nat}
end
section
variable {N:Nat}
theorem tP{a b:aS}(h:jf a b=true):jf b a=false:=by
 cases h2:jf b a with
 |false=>rfl
 |true=>have:=pR h h2;rw[rM]at this;cases this
theorem tQ{a b:aS}:rJ a b=0↔a=b:=by
 unfold rJ;constructor
 ·intro h;split at h
  ·rename_i h1;have e1:=bG.ext'<|(i5 _ _).1 h1
   have e2:=bG.ext'<|(i5 _ _).1 h
   obtain⟨a1,a2⟩:=a;obtain⟨b1,b2⟩:=b;simp only at e1 e2;rw[e1,e2]
  ·rename_i h1;exact absurd h h1
 ·intro h;subst h;rw[aG<|(i5 _ _).2 rfl];exact(i5 _ _).2 rfl
theorem vz{a b:aS}:rJ a b<0↔jf a b=true:=by
 have h:=Bo a b;constructor
 ·intro h1;rw[cG (by omega)]at h
  rcases pS a b with h2|h2|h2
  ·exact h2
  ·rw[tQ.2 h2]at h1;omega
  ·rw[h2]at h;cases h
 ·intro h1;have h2:=tP h1;rw[h2,pz,dN]at h;have:rJ a b≠0:=λe=>by rw[tQ]at e;subst e;rw[rM]at h1;cases h1
  omega
def Cw(l:List aS):Prop:=l.Pairwise<|λa b=>jf b a=false
theorem Hk{l m:List aS}(hl:Cw l)(hm:Cw m)(hp:l.Perm m):l=m:=
 List.Perm.eq_of_pairwise (le:=λa b=>jf b a=false) (λa b _ _ h h'=>by
  rcases pS a b with h2|h2|h2
  ·rw[h2]at h';cases h'
  ·exact h2
  ·rw[h2]at h;cases h) hl hm hp
theorem r8{a b c:aS}(h1:jf b a=false)(h2:jf c b=false):jf c a=false:=by
 cases h:jf c a with
 |false=>rfl
 |true=>
  rcases pS a b with h3|h3|h3
  ·rw[pR h h3]at h2;cases h2
  ·subst h3;rw[h]at h2;cases h2
  ·rw[h3]at h1;cases h1
def qW(l:List aS):List aS:=l.mergeSort<|λa b=> !jf b a
theorem vA(l:List aS):(qW l).Perm l:=List.mergeSort_perm _ _
theorem Je(l:List aS):Cw (qW l):=by
 have:=List.pairwise_mergeSort (le:=λa b:aS=> !jf b a) (λa b c h1 h2=>by
  simp only[Bool.not_eq_true']at h1 h2 ⊢;exact r8 h1 h2) (λa b=>by
  rcases pS a b with h|h|h
  ·rw[tP h];rfl
  ·subst h;rw[rM];rfl
  ·rw[tP h];simp) l
 exact this.imp λh=>by simpa using h
theorem Jf{l m:List aS}(hp:m.Perm l)(hm:Cw m):m=qW l:=Hk hm (Je l)<|hp.trans (vA l).symm
theorem Fc{l:List aS}(hl:l.length<4611686018427387904):sO (cX N) l=some (qW l):=by
 obtain⟨m,h1,h2,h3⟩:=wA (φ:=cX N) (l:=l) rJ (λa _ b _=>tM a b) (λa _=>by rw[tQ.2 rfl];decide)
  (λa _ b _ c _ h1 h2=>by rw[vz]at *;exact pR h1 h2) (λa _ b _ c _ h1 h2=>by
   rw[vz,ju]at *;exact r8 h2 h1) hl
 rw[h1,Jf h2 (h3.imp λh=>by rw[vz,ju]at h;exact h)]
end
section
variable {N:Nat}
end
section
variable {N:Nat}
theorem Cx{α:Type}(L:List (List α))(k:Nat):(L.take k).flatten.length<=L.flatten.length:=by
 conv=>rhs;rw[<-List.take_append_drop k L,List.flatten_append,dE]
 omega
theorem Jg{n:Nat}(hn:n<=1048576):iC N ((n:Nat):Int)=some []:=by
 unfold iC;rw[cB (by omega),bF];have e1:wrap .i64 (((n:Nat):Int) -(wrap .i64<|((0:Nat):Int) -((0:Nat):Int)))=((n:Nat):Int):=by
  have:wrap .i64 (((0:Nat):Int) -((0:Nat):Int))=0:=by rw[eG (by omega) (by omega)];rfl
  rw[this,eG (by omega) (by omega)];omega
 rw[e1]
 by_cases h:0<n
 ·rw[cG (by omega),aR];have:HQ 32 (⟨⟨[]⟩,⟨[]⟩⟩:aS) ((n:Nat):Int)=some (List.replicate n ⟨⟨[]⟩,⟨[]⟩⟩):=by
   unfold HQ;rw[aG (by omega)];rfl
  rw[this,aB,qA _ _ (by omega),aB,aB];rfl
 ·rw[cB (by omega),bF,aB]
theorem Fe{L:List (List aS)}(h1:L.length<=1048576)(h2:L.flatten.length<=1048576):jF N L=some L.flatten:=by
 unfold jF;have hlen:∀k,k<=L.length->(L.take k).flatten.length<=1048576:=λk _=>j8 (Cx L k) h2
 rw[wh (s:=(0:Int)) (λk=>(((L.take k).flatten.length:Nat):Int)) (by omega) rfl (λk hk=>by
  have hx:L[k]? =some L[k]:=aK hk;have h3:=hlen (k+1) hk;rw[dF hk,List.flatten_append,dE,List.flatten_singleton]at h3;rw[eW hx,aB,dF hk,List.flatten_append,dE,List.flatten_singleton];have e:wrap .i64 ((((L.take k).flatten.length:Nat):Int)+((L[k].length:Nat):Int))=(((L.take k).flatten.length+L[k].length:Nat):Int):=by rw[eG (by omega) (by omega)];omega
  rw[e,cB (by omega),bF]),aB,dG,Jg h2,aB]
 rw[wh (s:=([]:List aS)) (λk=>(L.take k).flatten) (by omega) rfl (λk hk=>by
  have hx:L[k]? =some L[k]:=aK hk;have h3:=hlen (k+1) hk;rw[dF hk,List.flatten_append,dE,List.flatten_singleton]at h3
  rw[eW hx,aB,gu (by omega),aB,dF hk,List.flatten_append,List.flatten_singleton]),aB,dG]
end
end Go.Gk
namespace Go.Gk
open Go IntKind Classical
section
variable {α β γ:Type}{Q:β->Prop}
theorem R0{b:Nat}{l:List α}{y:α}{c:Bool}{f:List α->Option β}(h:(l.length+1)*b<=140737488355328)(k:Ok (f (l++if c=true then [y]else [])) Q):
  Ok ((bif c then(Go.Gk.app b l [y]).bind (λx=>some x)else some l).bind f) Q:=by
 cases c with
 |true=>rw[aR,gu (by simpa using h)];exact k
 |false=>rw[bF];simpa using k
theorem nr{l:List α}{k:Nat}(hk:k<l.length)(q:α->Bool):(l.take<|k+1).filter q=(l.take k).filter q++if q l[k]=true then [l[k]]else []:=by
 rw[dF hk,List.filter_append];congr 1
 cases h:q l[k] <;> simp[h]
theorem mW{l:List α}{k:Nat}(hk:k<l.length)(f:α->List γ):(l.take<|k+1).flatMap f=(l.take k).flatMap f++f l[k]:=by
 rw[dF hk,List.flatMap_append];simp
end
def rP(ns:List Int)(g:Int):Option Nat:=if g<0 then none else ns.findIdx? (λz=>decide<|z=g)
def lM(lg:aS->Option Int)(s:List (List aS)×List Int)(p:aS):List (List aS)×List Int:=
 match lg p with
 |none=>s
 |some g=>match rP s.2 g with
  |none=>(s.1++[[p]],s.2++[g])
  |some i=>(s.1.set i ((s.1[i]?).getD []++[p]),s.2)
def D5(lg:aS->Option Int)(ps:List aS):List (List aS)×List Int:=ps.foldl (lM lg) ([],[])
def Kw(lg:aS->Option Int)(ps:List aS):List aS:=if(D5 lg ps).1.length<2 then []else(D5 lg ps).1.flatten
theorem Hl{lg:aS->Option Int}{s:List (List aS)×List Int}{p:aS}(h:lg p=none):lM lg s p=s:=by unfold lM;rw[h]
theorem Ff{lg:aS->Option Int}{s:List (List aS)×List Int}{p:aS}{g:Int}(h:lg p=some g)(ha:rP s.2 g=none):lM lg s p=(s.1++[[p]],s.2++[g]):=by
 unfold lM;rw[h];simp only[ha]
theorem Fg{lg:aS->Option Int}{s:List (List aS)×List Int}{p:aS}{g:Int}{i:Nat}(h:lg p=some g)(ha:rP s.2 g=some i):lM lg s p=(s.1.set i<|(s.1[i]?).getD []++[p],s.2):=by
 unfold lM;rw[h];simp only[ha]
theorem Bq{ns:List Int}{g:Int}{i:Nat}(h:rP ns g=some i):0<=g/\ns[i]? =some g:=by
 unfold rP at h;split at h
 ·cases h
 ·rw[List.findIdx?_eq_some_iff_getElem]at h;obtain⟨hi,hp,_⟩:=h;exact⟨by omega,by rw[aK hi];simpa using hp⟩
theorem Hm{ns:List Int}{g:Int}(h:rP ns g=none):g<0\/g∉ns:=by
 unfold rP at h;split at h
 ·left;assumption
 ·right;rw[List.findIdx?_eq_none_iff]at h;intro hm;have:=h g hm;simp at this
theorem Hn{ns:List Int}{g z:Int}(hn:g<0\/z<0\/z≠g\/rP ns g≠none):rP (ns++[z]) g=rP ns g:=by
 unfold rP at *;split
 ·rfl
 ·rename_i hg;rw[List.findIdx?_append];rw[aF hg]at hn
  cases hf:ns.findIdx? (λz=>decide<|z=g)with
  |some i=>rfl
  |none=>
   rw[hf]at hn;have:z≠g:=by
    rcases hn with h|h|h|h
    ·omega
    ·omega
    ·exact h
    ·exact absurd rfl h
   simp[this]
theorem Ho{ns:List Int}{g:Int}(hg:0<=g)(h:rP ns g=none):rP (ns++[g]) g=some ns.length:=by
 unfold rP at *;rw[aF (by omega)]at h ⊢;rw[List.findIdx?_append,h];simp
theorem Jh(lg:aS->Option Int){ps:List aS}{k:Nat}(hk:k<ps.length):D5 lg (ps.take<|k+1)=lM lg (D5 lg<|ps.take k) ps[k]:=by
 unfold D5;rw[dF hk,List.foldl_append];rfl
structure HC (k:Nat) (gs:List (List aS)) (ns:List Int) (m:List (Int×Int)):Prop where
 len:gs.length=ns.length
 le:gs.length<=k
 each:∀l∈gs,l.length<=k
 has:∀g,0<=g->gX m g=decide (g∈ns)
 get:∀g(i:Nat),rP ns g=some i->dR m g 0=((i:Nat):Int)
theorem HC.up{k:Nat}{gs:List (List aS)}{ns:List Int}{m:List (Int×Int)}(h:HC k gs ns m):HC (k+1) gs ns m:=
 ⟨h.len,Nat.le_succ_of_le h.le,λl hl=>Nat.le_succ_of_le<|h.each l hl,h.has,h.get⟩
theorem HC.new{k:Nat}{gs:List (List aS)}{ns:List Int}{m:List (Int×Int)}{g:Int}{p:aS}(h:HC k gs ns m)(hn:rP ns g=none):HC (k+1) (gs++[[p]]) (ns++[g]) (kQ m g ((gs.length:Nat):Int))where
 len:=by simp[h.len]
 le:=by have:=h.le;simp;omega
 each:=λl hl=>by
  rcases dM.1 hl with hl|hl
  ·exact Nat.le_succ_of_le<|h.each l hl
  ·simp at hl;subst hl;simp
 has:=λg' hg'=>by
  rw[xA,h.has g' hg',g9];simp[or_comm]
 get:=λg' i hi=>by
  rw[qL]
  by_cases e:g'=g
  ·subst e;have h0:=(Bq hi).1;rw[Ho h0 hn]at hi;injection hi with hi
   rw[aG rfl,<-hi,h.len]
  ·rw[aF e];rw[Hn<|.inr<|.inr<|.inl λh=>e h.symm]at hi;exact h.get g' i hi
theorem HC.put{k i:Nat}{gs:List (List aS)}{ns:List Int}{m:List (Int×Int)}{g:Int}{l:List aS}{p:aS}(h:HC k gs ns m)(hl:gs[i]? =some l):HC (k+1) (gs.set i<|l++[p]) ns m where
 len:=by rw[jv];exact h.len
 le:=by rw[jv];have:=h.le;omega
 each:=λl' hl'=>by
  rcases List.mem_or_eq_of_mem_set hl' with h'|h'
  ·exact Nat.le_succ_of_le<|h.each l' h'
  ·subst h';have:=h.each l<|eM hl
   simp;omega
 has:=h.has
 get:=h.get
theorem Ji{α:Type}(l:List α)(x y:α):(l++[x]).set l.length y=l++[y]:=by simp
theorem D6(p:aS):∀(gs:List (List aS))(i:Nat),(gs.set i<|(gs[i]?).getD []++[p]).flatten.length<=gs.flatten.length+1
 | [],_=>by simp
 |g::gs,0=>by simp;omega
 |g::gs,i+1=>by
  have:=D6 p gs i;simp only[List.set_cons_succ,List.flatten_cons,dE,List.getElem?_cons_succ];omega
theorem Fh(lg:aS->Option Int)(s:List (List aS)×List Int)(p:aS):(lM lg s p).1.flatten.length<=s.1.flatten.length+1:=by
 unfold lM;split
 ·omega
 ·split
  ·simp
  ·exact D6 p s.1 _
theorem Kx(lg:aS->Option Int)(ps:List aS):(D5 lg ps).1.flatten.length<=ps.length:=by
 have key:∀(ps:List aS)(s:List (List aS)×List Int),(ps.foldl (lM lg) s).1.flatten.length<=s.1.flatten.length+ps.length:=by
  intro ps
  induction ps with
  |nil=>intro s;simp
  |cons p ps ih=>
   intro s;have h1:=ih<|lM lg s p
   have h2:=Fh lg s p;rw[List.foldl_cons,fY];omega
 have:=key ps ([],[]);simpa[D5]using this
noncomputable def Bs(a:jg)(pcs:List aH)(r:Nat->Nat)(p:aS):Option Int:=(a.bC.find?<|λl=>decide<|gZ l=p).map<|G9 a.bN pcs r
theorem Hp(a:jg)(pcs:List aH)(r:Nat->Nat)(p:aS):(o7 a p = -1/\Bs a pcs r p=none)\/∃(k:Nat)(x:dD),o7 a p=((k:Nat):Int)/\a.bC[k]? =some x/\gZ x=p/\Bs a pcs r p=some (G9 a.bN pcs r x):=by
 rcases DZ a p with⟨e,h⟩|⟨k,x,e,hx,hp⟩
 ·left;refine⟨e,?_⟩;unfold Bs;rw[Bn e];rfl
 ·right;exact⟨k,x,e,hx,hp,by unfold Bs;rw[yw e hx];rfl⟩
section
variable {N:Nat}{t:List aJ}{x:aT}{a:jg}{mx:List (List aA)}{je:List (List (List aA))}{r:Nat->Nat}{gs:List bK}{ofP ofB qY:List Int}{sE:List j4}
theorem Jj(b:xK a mx je r gs ofP ofB qY sE){ps:Net}(hn:ps.aP.length<=1048576)(hN:4398046511104<=N):
  jG N a.aN a.cL a.bN a.bC qY ps=some (Kw (Bs a (fF 0 je) r) ps.aP):=by
 refine RD ?_;unfold jG
 refine Qv (Q3 (λk s=>s.1=(D5 (Bs a (fF 0 je) r) (ps.aP.take k)).1/\HC k s.1 (D5 (Bs a (fF 0 je) r) (ps.aP.take k)).2 s.2) (by omega)
  ⟨rfl,rfl,bU _,λl hl=>by simp[D5]at hl,λg hg=>by simp[D5,gX],λg i h=>by simp[D5,rP]at h⟩ (λk s hk hI=>?_)) ?_
 ·obtain⟨hs,hI⟩:=hI;have hx:ps.aP[k]? =some ps.aP[k]:=aK hk;refine QK hx<|Qn (Bm b.DO _ hN) ?_
  rw[Jh _ hk]
  rcases Hp a (fF 0 je) r ps.aP[k]with⟨e,h⟩|⟨j,l,e,hl,hp,h⟩
  ·rw[e,show decide ((-1:Int)<0)=true by decide,aR];refine Qo ?_;rw[Hl h];exact⟨hs,hI.up⟩
  ·have ho:qY[j]? =some (G9 a.bN (fF 0 je) r l):=by rw[b.LU.qY,eR,hl];rfl
   rw[e,show decide (((j:Nat):Int)<0)=false from cB (by omega),bF];refine QK ho ?_;generalize G9 a.bN (fF 0 je) r l=g at h;have hle:=hI.le;have hlen:=hI.len
   cases hat:rP (D5 (Bs a (fF 0 je) r)<|ps.aP.take k).2 g with
   |none=>
    have hc:((!(gX s.2 g))||decide (g<0))=true:=by
     rcases Hm hat with h0|h0
     ·simp[h0]
     ·by_cases h1:g<0
      ·simp[h1]
      ·rw[hI.has g (by omega)];simp[h0]
    rw[hc,aR,Ff h hat];refine Qv (P:=λy=>y=(s.1++[[]],kQ s.2 g ((s.1.length:Nat):Int),((s.1.length:Nat):Int))) (Rg (by simp only[fY,List.length_nil];omega)<|Qo rfl) ?_;rintro _ rfl;have hg:(s.1++[([]:List aS)])[s.1.length]? =some []:=by simp
    refine QK hg<|Rg (by simp)<|QK hg<|Qo ?_
    show(s.1++[([]:List aS)]).set (Int.toNat ((s.1.length:Nat):Int)) ([]++[ps.aP[k]])=_/\HC (k+1) ((s.1++[([]:List aS)]).set (Int.toNat ((s.1.length:Nat):Int))<|[]++[ps.aP[k]]) _ _;rw[cT,Ji];exact⟨by rw[hs];rfl,hI.new hat⟩
   |some i=>
    obtain⟨h0,hi⟩:=Bq hat;have hil:i<s.1.length:=by rw[hlen];exact(bI.1 hi).1
    have hc:((!(gX s.2 g))||decide (g<0))=false:=by
     rw[hI.has g h0,cB (show ¬g<0 by omega),cG<|eM hi];rfl
    rw[hc,bF,hI.get g i hat,aB,Fg h hat];have hg:s.1[i]? =some s.1[i]:=aK hil;have hll:=hI.each _<|cU hil
    refine QK hg<|Rg (by simp only[fY,List.length_nil];omega)<|QK hg<|Qo ?_
    show s.1.set (Int.toNat ((i:Nat):Int)) (s.1[i]++[ps.aP[k]])=_/\HC (k+1) (s.1.set (Int.toNat ((i:Nat):Int))<|s.1[i]++[ps.aP[k]]) _ _;rw[cT];refine⟨?_,hI.put (g:=g) hg⟩;simp only;rw[<-hs,hg];rfl
 ·rintro s⟨hs,hI⟩;rw[dG]at hs hI;unfold Kw;rw[<-hs]
  by_cases h2:s.1.length<2
  ·rw[cG (show((s.1.length:Nat):Int)<2 by omega),aR,aG h2];exact Qo rfl
  ·rw[cB (show ¬((s.1.length:Nat):Int)<2 by omega),bF,aF h2];have hf:s.1.flatten.length<=ps.aP.length:=by
    rw[hs];exact Kx _ _
   have:=hI.le;rw[Fe (by omega) (by omega)];exact Qo rfl
end
def nameOf(x:aT)(p:aS):bG:=((x.bA[(j6 x p).toNat]?).map Net.Name).getD ⟨[]⟩
def Ec(x:aT)(p:aS):Bool:=decide<|j6 x p>=0
def Cy(t:List aJ)(x:aT)(p:aS):Bool:=Ec x p||decide (p∈gM t x)
def tR(x:aT)(m:List (bG×Bool))(p:aS):List (bG×Bool):=if Ec x p=true then kQ m (nameOf x p) true else m
def Ah(x:aT)(ps:List aS):List (bG×Bool):=ps.foldl (tR x) []
def HD(t:List aJ)(x:aT)(p:aS):Bool:= !Ec x p&&decide (p∈gM t x)
def K3(t:List aJ)(x:aT)(ps:List aS):Nat:=(ps.filter<|HD t x).length
def sK(m:List (bG×Bool)):List bG:=((m.map λp=>p.1.bX).mergeSort λx y=>decide<|x<=y).map bG.mk
theorem Jk(x:aT){ps:List aS}{k:Nat}(hk:k<ps.length):Ah x (ps.take<|k+1)=tR x (Ah x<|ps.take k) ps[k]:=by
 unfold Ah;rw[dF hk,List.foldl_append];rfl
theorem D7{κ ν:Type}[DecidableEq κ][GT κ][KV κ][GT ν](m:List (κ×ν))(k:κ)(v:ν):(kQ m k v).length<=m.length+1:=by
 have:=congrArg List.length<|vK k v m
 rw[dL]at this;rw[this];split <;> simp
theorem xP{x:aT}{p:aS}(h:Ec x p=true):∃(k:Nat)(n:Net),j6 x p=((k:Nat):Int)/\x.bA[k]? =some n/\p∈n.aP/\nameOf x p=n.Name:=by
 unfold Ec at h;rw[dN]at h;unfold j6 at h
 rcases lF x.bA (λn=>decide<|p∈n.aP)with⟨h1,_⟩|⟨k,n,h1,h2,h3,_⟩
 ·rw[h1]at h;omega
 ·refine⟨k,n,h1,h2,by simpa using h3,?_⟩;unfold nameOf;have:j6 x p=((k:Nat):Int):=h1;rw[this,cT,h2];rfl
theorem z9{t:List aJ}{x:aT}:∀(ps:List aS),(Ah x ps).length<=ps.length/\((Ah x ps).map Prod.fst).Nodup/\∀q,q∈(Ah x ps).map Prod.fst↔∃p∈ps,Ec x p=true/\q=nameOf x p:=by
 intro ps;have key:∀(ps:List aS)(m:List (bG×Bool)),(m.map Prod.fst).Nodup->(ps.foldl (tR x) m).length<=m.length+ps.length/\((ps.foldl (tR x) m).map Prod.fst).Nodup/\∀q,q∈(ps.foldl (tR x) m).map Prod.fst↔q∈m.map Prod.fst\/∃p∈ps,Ec x p=true/\q=nameOf x p:=by
  intro ps
  induction ps with
  |nil=>intro m hm;exact⟨by simp,hm,λq=>by simp⟩
  |cons p ps ih=>
   intro m hm;rw[List.foldl_cons,show tR x m p=if Ec x p=true then kQ m (nameOf x p) true else m from rfl]
   by_cases hp:Ec x p=true
   ·rw[aG hp];obtain⟨h1,h2,h3⟩:=ih _<|u6 hm (nameOf x p) true
    have:=D7 m (nameOf x p) true;refine⟨by rw[fY];omega,h2,λq=>?_⟩;rw[h3,vK];constructor
    ·rintro(h|⟨p',hp',h⟩)
     ·split at h
      ·exact .inl h
      ·rcases dM.1 h with h|h
       ·exact .inl h
       ·exact .inr ⟨p,by simp,hp,by simpa using h⟩
     ·exact .inr ⟨p',by simp[hp'],h⟩
    ·rintro(h|⟨p',hp',h,e⟩)
     ·left;split
      ·exact h
      ·exact List.mem_append_left _ h
     ·rcases gk.1 hp' with h'|h'
      ·subst h';subst e;left;split
       ·assumption
       ·simp
      ·exact .inr ⟨p',h',h,e⟩
   ·rw[aF hp];obtain⟨h1,h2,h3⟩:=ih m hm;refine⟨by rw[fY];omega,h2,λq=>?_⟩;rw[h3];constructor
    ·rintro(h|⟨p',hp',h⟩)
     ·exact .inl h
     ·exact .inr ⟨p',by simp[hp'],h⟩
    ·rintro(h|⟨p',hp',h,e⟩)
     ·exact .inl h
     ·rcases gk.1 hp' with h'|h'
      ·subst h';exact absurd h hp
      ·exact .inr ⟨p',h',h,e⟩
 have:=key ps [] (by simp);simpa[Ah]using this
section
variable {N:Nat}{t:List aJ}{x:aT}
theorem Ky(ok:vx t x)(p:aS):iX N x.cJ x.bA (mV x x.bA.length) (lV [] (gM t x) true) p=some (Cy t x p):=by
 have hl:dR (lV ([]:List (aS×Bool)) (gM t x) true) p false=decide (p∈gM t x):=by
  rw[rE]
  by_cases h:p∈gM t x
  ·rw[aG h,cG h]
  ·rw[aF h,cB h];rfl
 unfold iX Cy Ec;rw[(xO ok p).1,hl]
 cases decide (j6 x p>=0) <;> rfl
theorem Jl(hbx:K2 x)(ok:vx t x){g:bK}(hg:g.aP.length<=1048576):
  iD N x.cJ x.bA (mV x x.bA.length) (lV [] (gM t x) true) g=some (sK<|Ah x g.aP,g.aP.filter<|Cy t x,decide<|(((Ah x g.aP).length+K3 t x g.aP:Nat):Int)>1):=by
 refine RD ?_;unfold iD;refine Qv (Q3 (λk s=>s=(Ah x<|g.aP.take k,(g.aP.take k).filter<|Cy t x,((((g.aP.take k).filter<|HD t x).length:Nat):Int))) (by omega) rfl<|λk s hk e=>?_) ?_
 ·subst e;have hx:g.aP[k]? =some g.aP[k]:=aK hk;have hf1:((g.aP.take k).filter<|Cy t x).length<=k:=j8 (ja _ _) (by rw[cZ];omega);have hf2:((g.aP.take k).filter<|HD t x).length<=k:=j8 (ja _ _) (by rw[cZ];omega);rw[Jk x hk,nr hk,nr hk];have hl:dR (lV ([]:List (aS×Bool)) (gM t x) true) g.aP[k] false=decide (g.aP[k]∈gM t x):=by
   rw[rE]
   by_cases h:g.aP[k]∈gM t x
   ·rw[aG h,cG h]
   ·rw[aF h,cB h];rfl
  refine QK hx ?_;obtain⟨hm1,hm2⟩:=xO ok g.aP[k];rw[hm1]
  cases hin:decide (j6 x g.aP[k]>=0)with
  |true=>
   have hin':Ec x g.aP[k]=true:=hin;obtain⟨j,n,h1,h2,h3,h4⟩:=xP hin';rw[aR,hm2 (by rw[h1];omega),h1];refine QK h2<|Rg (by simp only[fY,List.length_nil];omega)<|Qo ?_
   have e1:Cy t x g.aP[k]=true:=by unfold Cy;rw[hin'];rfl
   have e2:HD t x g.aP[k]=false:=by unfold HD;rw[hin'];rfl
   rw[aG e1,aF (by rw[e2];exact yi),ll];unfold tR;rw[aG hin',h4]
  |false=>
   have hin':Ec x g.aP[k]=false:=hin;rw[bF,hl];unfold tR;rw[aF (by rw[hin'];exact yi)];have e1:Cy t x g.aP[k]=decide (g.aP[k]∈gM t x):=by unfold Cy;rw[hin'];rfl
   have e2:HD t x g.aP[k]=decide (g.aP[k]∈gM t x):=by unfold HD;rw[hin'];rfl
   rw[e1,e2]
   cases decide (g.aP[k]∈gM t x)with
   |true=>
    rw[aR];refine Rg (by simp only[fY,List.length_nil];omega)<|Qo ?_
    rw[iE (by omega)];simp
   |false=>
    rw[bF];refine Qo ?_;simp
 ·rintro _ rfl;rw[dG];obtain⟨f1,f2,f3⟩:=z9 (t:=t) (x:=x) g.aP;have hL:(g.aP.filter<|HD t x).length<=g.aP.length:=ja _ _;have hk:AR (Ah x g.aP)=some (sK<|Ah x g.aP):=by
   have hc:(Ah x g.aP).length<=1099511627776/\∀p∈Ah x g.aP,p.1.bX.length<=maxLen:=⟨by omega,λp hp=>by
    obtain⟨q,hq,hi,he⟩:=(f3 p.1).1<|List.mem_map_of_mem hp
    obtain⟨j,n,h1,h2,h3,h4⟩:=xP hi;rw[he,h4];have hb1:=hbx.nn _<|eM h2
    simp only[maxLen]
    omega⟩
   unfold AR sK;rw[aG hc]
  refine Qn hk<|Qo ?_
  unfold K3;dsimp only;rw[wrap_add (by omega)]
end
def pU(a:jg)(x:aT):List aS:=x.bA.flatMap λn=>n.aP.filter<|λp=>decide<|o7 a p<0
def vB(t:List aJ)(x:aT)(a:jg):List aS:=(a.bC.map gZ).filter<|λp=> !Cy t x p
def mX(k:Int)(ps:List aS):List cP:=if decide ((ps.length:Int)>0)=true then [⟨k,[],ps⟩]else []
def pV(lg:aS->Option Int)(n:Net):List cP:=if decide (((Kw lg n.aP).length:Int)>0)=true then [⟨2,[n.Name],Kw lg n.aP⟩]else []
def nY(t:List aJ)(x:aT)(g:bK):List cP:=if decide ((((Ah x g.aP).length+K3 t x g.aP:Nat):Int)>1)=true then [⟨3,sK<|Ah x g.aP,g.aP.filter<|Cy t x⟩]else []
noncomputable def Fi(t:List aJ)(x:aT)(a:jg)(pcs:List aH)(r:Nat->Nat)(gs:List bK):List cP:=
 mX 1 (qW<|pU a x)++x.bA.flatMap (pV<|Bs a pcs r)++gs.flatMap (nY t x)++mX 4 (vB t x a)
theorem pd(k:Int)(ps:List aS):(mX k ps).length<=1:=by unfold mX;split <;> simp
theorem uk(lg:aS->Option Int)(n:Net):(pV lg n).length<=1:=by unfold pV;split <;> simp
theorem vC(t:List aJ)(x:aT)(g:bK):(nY t x g).length<=1:=by unfold nY;split <;> simp
section
variable {N:Nat}{t:List aJ}{x:aT}{a:jg}{mx:List (List aA)}{je:List (List (List aA))}{r:Nat->Nat}{gs:List bK}{ofP ofB qY:List Int}{sE:List j4}
theorem Bt(ok:vx t x)(k:Nat):((x.bA.take k).flatMap λn=>n.aP.filter<|λp=>decide<|o7 a p<0).length<=500000:=by
 have h1:=iO (λn:Net=>n.aP.filter<|λp=>decide<|o7 a p<0) 500 x.bA k<|λn hn=>j8 (ja _ _) (ok.Cv n hn).2
 have:=ok.Cu;omega
theorem Fj(hbt:bk t<=1048576)(hbx:K2 x)(hck:fW t x=0)(b:xK a mx je r gs ofP ofB qY sE)
  (h1:gC N a=some (some (a.aN,a.cL,a.bN,a.bC,mx,fF 0 je,r7 a.bN<|fF 0 je,gs,ofP,ofB,qY,sE),0)) (hN:4398046511104<=N):
  dQ N t x a=some (Fi t x a (fF 0 je) r gs,0):=by
 have ok:=rN hck;have hfn:=ok.Cu;have hlf:=b.DO.CI;have hf:=b.CI.2;have hgl:=(Jb b.LU).2;have hbl:=b.LK.gb.len;have hll:(gM t x).length<=1048576000:=by
  have:=Fb (x:=x) hbt;unfold Fa at this;rwa[aF (by rw[hck];simp)]at this
 refine RD ?_;unfold dQ jm;rw[kD hbt hbx (by omega),aB,hck,show((0:Int) != 0)=false from rfl,bF,h1];simp only[Jv,bne_self_eq_false,bF,aB];refine Qn (D2 hbx)<|Qn (D4 hbt hbx ok (by omega)) ?_
 refine Qv (Q3 (λk s=>s=lV [] ((gM t x).take k) true) (by omega) rfl<|λk s hk e=>?_) ?_
 ·subst e;refine QK (aK hk)<|Qo ?_
  rw[dF hk];unfold lV;rw[List.foldl_append];rfl
 rintro _ rfl;rw[dG];refine Qv (Q3 (λk s=>s=(x.bA.take k).flatMap λn=>n.aP.filter<|λp=>decide<|o7 a p<0) (by omega) rfl<|λk s hk e=>?_) ?_
 ·subst e;have hm:=Bt (a:=a) ok k;have hp:=(ok.Cv _<|cU hk).2;refine QK (aK hk) ?_;refine Qv (Q3 (λj s=>s=((x.bA.take k).flatMap λn=>n.aP.filter<|λp=>decide<|o7 a p<0)++(x.bA[k].aP.take j).filter (λp=>decide<|o7 a p<0)) (by omega) (by simp)<|λj s hj e=>?_) ?_
  ·subst e;have hq:((x.bA[k].aP.take j).filter<|λp=>decide<|o7 a p<0).length<=500:=j8 (ja _ _) (by rw[cZ];omega);refine QK (aK hj)<|Qn (Bm b.DO _ hN)<|R0 (by rw[dE];omega)<|Qo ?_
   rw[nr hj,kE]
  ·rintro _ rfl;rw[dG];exact Qo (by rw[mW hk])
 rintro _ rfl;rw[dG];have hm:(pU a x).length<=500000:=by
  have:=Bt (a:=a) ok x.bA.length;rwa[dG]at this
 refine Qn (Fc (l:=pU a x) (by omega))<|R0 (by simp) ?_
 rw[List.nil_append];refine Qv (Q3 (λk s=>s=(qY,mX 1 (qW<|pU a x)++(x.bA.take k).flatMap (pV<|Bs a (fF 0 je) r))) (by omega) (by simp[mX])<|λk s hk e=>?_) ?_
 ·subst e;have hp:=(ok.Cv _<|cU hk).2;have l1:=pd 1<|qW<|pU a x
  have l2:=iO (pV<|Bs a (fF 0 je) r) 1 x.bA k<|λn _=>uk _ n
  refine QK (aK hk)<|Qn (Jj b (by omega) hN)<|R0 (by rw[dE];omega)<|Qo ?_
  rw[mW hk,kE];rfl
 rintro _ rfl;rw[dG];refine Qv (Q3 (λk s=>s=mX 1 (qW<|pU a x)++x.bA.flatMap (pV<|Bs a (fF 0 je) r)++(gs.take k).flatMap (nY t x)) (by omega) (by simp)<|λk s hk e=>?_) ?_
 ·subst e;have l1:=pd 1<|qW<|pU a x
  have l2:=lh (pV<|Bs a (fF 0 je) r) 1 x.bA<|λn _=>uk _ n
  have l3:=iO (nY t x) 1 gs k<|λg _=>vC t x g
  have hgx:gs[k]? =some gs[k]:=aK hk;have hgp:=(Ku b.LU hgx).2.2;refine QK hgx<|Qn (Jl hbx ok (by omega))<|R0 (by rw[dE,dE];omega)<|Qo ?_
  rw[mW hk,kE];rfl
 rintro _ rfl;rw[dG];refine Qv (Q3 (λk s=>s=((a.bC.take k).map gZ).filter (λp=> !Cy t x p)) (by omega) rfl<|λk s hk e=>?_) ?_
 ·subst e;have l1:(((a.bC.take k).map gZ).filter<|λp=> !Cy t x p).length<=1000:=j8 (ja _ _) (by rw[dL,cZ];omega);refine QK (aK hk)<|Qn (qS _)<|Qn (Ky ok _) ?_
  rw[qS,aB];refine R0 (by omega)<|Qo ?_
  rw[dF hk,eE,List.filter_append];congr 1
  cases h:Cy t x (gZ a.bC[k]) <;> simp[h]
 rintro _ rfl;rw[dG];have l1:=pd 1<|qW<|pU a x
 have l2:=lh (pV<|Bs a (fF 0 je) r) 1 x.bA<|λn _=>uk _ n
 have l3:=lh (nY t x) 1 gs<|λg _=>vC t x g
 refine R0 (by rw[dE,dE];omega)<|Qo ?_
 rfl
inductive PL (N:Nat) (t:List aJ) (x:aT) (a:jg):Prop
 |bad (e:Int) (he:e≠0) (hl:fW t x=e) (h:dQ N t x a=some ([],e))
 |err (e:Int) (he:e≠0) (hl:fW t x=0) (h0:gC N a=some (none,e)) (h:dQ N t x a=some ([],e))
 |ok {mx:List (List aA)} {je:List (List (List aA))} {r:Nat->Nat} {gs:List bK} {ofP ofB qY:List Int} {sE:List j4} (hl:fW t x=0) (b:xK a mx je r gs ofP ofB qY sE)
  (h0:gC N a=some (some (a.aN,a.cL,a.bN,a.bC,mx,fF 0 je,r7 a.bN<|fF 0 je,gs,ofP,ofB,qY,sE),0))
  (h:dQ N t x a=some (Fi t x a (fF 0 je) r gs,0))
theorem Bu(hbt:bk t<=1048576)(hbx:K2 x)(hs:nP a)(hN:4398046511104<=N):PL N t x a:=by
 by_cases hck:fW t x=0
 ·rcases opened (N:=N) hs hN with⟨e,he,h1⟩|⟨b,h1⟩
  ·refine .err e he hck h1 ?_;have hb:(e != 0)=true:=by simpa using he
   unfold dQ jm;rw[kD hbt hbx (by omega),aB,hck,show((0:Int) != 0)=false from rfl,bF,h1];simp only[Jv,hb,aR,aB]
  ·exact .ok hck b h1<|Fj hbt hbx hck b h1 hN
 ·refine .bad _ hck rfl ?_;have hb:(fW t x != 0)=true:=by simpa using hck
  unfold dQ jm;rw[kD hbt hbx (by omega),aB,hb,aR];simp only[Jv,hb,aR,aB]
theorem Jm(hbt:bk t<=1048576)(hbx:bk x<=1048576)(hs:nP a)(hN:4398046511104<=N):PL N t x a:=Bu hbt (E9 hbx) hs hN
end
theorem LO(m:List (bG×Bool)):(sK m).length=m.length:=by
 unfold sK;rw[dL,List.length_mergeSort,dL]
def Qe(lg:aS->Option Int)(p:aS):Bool:=match lg p with|some g=>decide (g<0)|none=>false
structure Qi (lg:aS->Option Int) (ps:List aS) (st:List (List aS)×List Int):Prop where
 len:st.1.length=st.2.length
 full:∀l∈st.1,l≠[]
 has:∀p∈ps,∀g,lg p=some g->g∈st.2
 neg:(ps.filter<|Qe lg).length=(st.2.filter<|λg=>decide<|g<0).length
section
variable {N:Nat}{t:List aJ}{x:aT}{a:jg}{mx:List (List aA)}{je:List (List (List aA))}{r:Nat->Nat}{gs:List bK}{ofP ofB qY:List Int}{sE:List j4}
end
section
variable {N:Nat}
end
def pre(b s:bG):bG:=⟨b.bX++s.bX⟩
def pf(b:bG)(p:Part):Part:=⟨pre b p.Name,p.iB⟩
def eY(b:bG)(p:aS):aS:=⟨pre b p.Part,p.aS⟩
def rQ(b:bG)(n:Net):Net:=⟨pre b n.Name,n.aP.map<|eY b,[]⟩
def km(b:bG)(x:aT):aT:=⟨x.cJ.map<|pf b,x.bA.map<|rQ b⟩
theorem Cz{b s u:bG}(h:pre b s=pre b u):s=u:=by
 unfold pre at h;injection h with h
 exact bG.ext'<|List.append_cancel_left h
theorem CA(b s u:bG):(pre b s).pW (pre b u)=s.pW u:=by
 rw[FR,FR,g9,dN,dN];exact⟨Cz,λh=>by rw[h]⟩
theorem Jn:∀(b s u:List UInt8),b++s<b++u↔s<u
 | [],s,u=>Iff.rfl
 |x::b,s,u=>by
  rw[List.cons_append,List.cons_append,List.cons_lt_cons_iff];have ih:=Jn b s u;constructor
  ·intro h
   rcases h with h|h
   ·exact absurd h (by simp[UInt8.lt_iff_toNat_lt])
   ·exact ih.1 h.2
  ·intro h;exact .inr ⟨rfl,ih.2 h⟩
theorem Gb(b s u:bG):(pre b s).wT (pre b u)=s.wT u:=by
 unfold bG.wT pre;rw[g9,Go.Proofs.bytesLess_eq,Go.Proofs.bytesLess_eq,dN,dN];exact Jn _ _ _
theorem Aa{b:bG}{p q:aS}(h:eY b p=eY b q):p=q:=by
 cases p;cases q
 unfold eY at h;injection h with h1 h2
 simp only at h1 h2;rw[Cz h1,h2]
theorem wR{b:bG}{p:aS}{l:List aS}:eY b p∈l.map (eY b)↔p∈l:=by
 rw[cF];exact⟨λ⟨q,h1,h2⟩=>by rwa[<-Aa h2],λh=>⟨p,h,rfl⟩⟩
theorem Hq(b:bG)(p q:aS):jf (eY b p) (eY b q)=jf p q:=by
 unfold jf eY;rw[Gb,CA]
theorem Ab{α:Type}{key:α->bG}{f:α->α}(b:bG)(hf:∀x,key (f x)=pre b (key x))(l:List α)(k:Nat):jh key (l.map f) k=jh key l k:=by
 unfold jh;rw[eR,eR]
 cases l[k]? with
 |none=>rfl
 |some x=>
  cases l[k - 1]? with
  |none=>rfl
  |some y=>simp only[Option.map_some,hf,Gb,CA]
theorem Fk(b:bG)(l:List aS)(k:Nat):nj (l.map<|eY b) k=nj l k:=by
 unfold nj;rw[eR,eR]
 cases l[k]? with
 |none=>rfl
 |some x=>
  cases l[k - 1]? with
  |none=>rfl
  |some y=>simp only[Option.map_some,Hq]
theorem Fm(b:bG)(t:List aJ)(l:List Part)(p:aS):o8 t (l.map<|pf b) (eY b p)=o8 t l p:=by
 unfold o8;have e:(l.map<|pf b).find? (λx=>x.Name.pW (eY b p).Part)=(l.find?<|λx=>x.Name.pW p.Part).map (pf b):=by
  rw[List.find?_map];congr 1;refine congrFun (congrArg _<|funext λx=>?_) _;exact CA b x.Name p.Part
 rw[e]
 cases l.find? (λx=>x.Name.pW p.Part) <;> rfl
theorem Fp(b:bG)(l:List Net)(p:aS):rK (l.map<|rQ b) (eY b p)=rK l p:=by
 unfold rK;rw[List.any_map];congr 1;funext n;show decide (eY b p∈n.aP.map (eY b))=decide (p∈n.aP);rw[decide_eq_decide];exact wR
theorem LP{m:Nat}{e:Nat->Option Int}(h:∀k,k<m->e k=none\/e k=some 5):(ki m e).getD 0=0\/(ki m e).getD 0=5:=by
 cases hf:ki m e with
 |none=>exact .inl rfl
 |some r=>
  obtain⟨k,hk,he,_⟩:=iN.1 hf
  rcases h k hk with h|h
  ·rw[h]at he;cases he
  ·rw[h]at he;injection he with he;subst he;exact .inr rfl
theorem Ac{t:List aJ}{l:List Part}(b:bG)(h:eP t l=0):eP t (l.map<|pf b)=0\/eP t (l.map<|pf b)=5:=by
 unfold eP at h ⊢;rw[dL];split at h
 ·cases h
 rename_i h1;rw[aF h1];have hn:=ni (λk r hk=>vv hk) h;refine LP λk hk=>?_;have:=hn k hk;unfold pQ at this ⊢;rw[eR,Ab (key:=Part.Name) (f:=pf b) b<|λ_=>rfl];rw[aK hk]at this ⊢;simp only[Option.map_some]at this ⊢
 by_cases h5:jY (pf b l[k]).Name=false
 ·rw[aG h5];exact .inr rfl
 ·rw[aF h5];split at this
  ·cases this
  ·exact .inl this
theorem Hr{t:List aJ}{x:aT}(b:bG)(i:Nat)(l:List aS)(k:Nat):o9 t (km b x) i (l.map<|eY b) k=o9 t x i l k:=by
 unfold o9;rw[eR]
 cases l[k]? with
 |none=>rfl
 |some p=>
  have e:(km b x).bA.take i=(x.bA.take i).map (rQ b):=List.map_take.symm;simp only[Option.map_some];rw[show(km b x).cJ=x.cJ.map (pf b)from rfl,Fm,Fk,e,Fp]
theorem AK{t:List aJ}{x:aT}(b:bG)(h:nk t x=0):nk t (km b x)=0\/nk t (km b x)=5:=by
 unfold nk at h ⊢;have hl:(km b x).bA.length=x.bA.length:=dL _;rw[hl];split at h
 ·cases h
 rename_i h1;rw[aF h1];have hn:=ni (λk r hk=>Bp hk) h;refine LP λk hk=>?_;have:=hn k hk;unfold tN at this ⊢;have e0:(km b x).bA[k]? =some (rQ b x.bA[k]):=by
  show(x.bA.map<|rQ b)[k]? =_;rw[eR,aK hk];rfl
 rw[e0];rw[aK hk]at this;dsimp only at this ⊢
 by_cases h5:jY (rQ b x.bA[k]).Name=false
 ·rw[aG h5];exact .inr rfl
 ·rw[aF h5];have hpl:(rQ b x.bA[k]).aP.length=x.bA[k].aP.length:=dL _;have hpp:(rQ b x.bA[k]).aP=x.bA[k].aP.map (eY b):=rfl;have hob:jh Net.Name (km b x).bA k=jh Net.Name x.bA k:=Ab (key:=Net.Name) (f:=rQ b) b (λ_=>rfl) _ _;rw[hpl,hob,hpp];have hnp:o9 t (km b x) k (x.bA[k].aP.map<|eY b)=o9 t x k x.bA[k].aP:=funext λj=>Hr b k _ j;rw[hnp];split at this
  ·cases this
  split at this
  ·cases this
  rename_i h6 h7;rw[aF h7];split at this
  ·cases this
  rename_i h8;rw[aF h8];left
  cases hf:ki x.bA[k].aP.length (o9 t x k x.bA[k].aP)with
  |some r=>rw[hf]at this;cases this
  |none=>
   rw[hf]at this;simp only[Option.none_or]at this ⊢;split at this
   ·cases this
   ·rw[aF (by show ¬0<([]:List bG).length;simp)];exact this
theorem AL{t:List aJ}{x:aT}(b:bG)(h:fW t x=0):fW t (km b x)=0\/fW t (km b x)=5:=by
 unfold fW at h ⊢
 by_cases h1:checkTypes t≠0
 ·rw[aG h1]at h;exact absurd h h1
 rw[aF h1]at h ⊢
 by_cases h2:eP t x.cJ≠0
 ·rw[aG h2]at h;exact absurd h h2
 rw[aF h2]at h
 replace h2:=Decidable.not_not.1 h2
 have e:(km b x).cJ=x.cJ.map (pf b):=rfl
 rcases Ac b h2 with h3|h3
 ·rw[e,h3,aF (by simp)];exact AK b h
 ·rw[e,h3,aG (by omega)];exact .inr rfl
theorem xQ(b:bG)(x:aT)(p:aS):j6 (km b x) (eY b p)=j6 x p:=by
 unfold j6 B6;have e:(km b x).bA.findIdx? (λn=>decide<|eY b p∈n.aP)=x.bA.findIdx? (λn=>decide<|p∈n.aP):=by
  show(x.bA.map<|rQ b).findIdx? _=_;rw[List.findIdx?_map];congr 1;funext n;show decide (eY b p∈n.aP.map (eY b))=decide (p∈n.aP);rw[decide_eq_decide];exact wR
 rw[e]
theorem yx(b:bG)(x:aT)(p:aS):Ec (km b x) (eY b p)=Ec x p:=by unfold Ec;rw[xQ]
theorem Ad{b:bG}{x:aT}{p:aS}(h:Ec x p=true):nameOf (km b x) (eY b p)=pre b (nameOf x p):=by
 obtain⟨k,n,h1,h2,h3,h4⟩:=xP h;unfold nameOf;rw[xQ,h1,cT,h2];show(((x.bA.map<|rQ b)[k]?).map Net.Name).getD ⟨[]⟩=_;rw[eR,h2];rfl
theorem x5(b:bG)(t:List aJ)(x:aT):gM t (km b x)=(gM t x).map (eY b):=by
 unfold gM;show(x.cJ.map<|pf b).flatMap _=_;rw[List.flatMap_map,List.map_flatMap];congr 1;funext p;have e:mh t (pf b p)=(mh t p).map (eY b):=by
  unfold mh;rw[List.map_map];rfl
 rw[e,List.filter_map];congr 1;refine List.filter_congr λq _=>?_;show decide (j6 (km b x) (eY b q)<0)=decide (j6 x q<0);rw[xQ]
theorem Gc(b:bG)(t:List aJ)(x:aT)(p:aS):Cy t (km b x) (eY b p)=Cy t x p:=by
 unfold Cy;rw[yx,x5];congr 1;rw[decide_eq_decide];exact wR
theorem Kz(b:bG)(t:List aJ)(x:aT)(p:aS):HD t (km b x) (eY b p)=HD t x p:=by
 unfold HD;rw[yx,x5];congr 1;rw[decide_eq_decide];exact wR
theorem rR(b:bG){f g:aS->Bool}(h:∀p,g (eY b p)=f p)(l:List aS):(l.map<|eY b).filter g=(l.filter f).map (eY b):=by
 rw[List.filter_map];congr 1;exact List.filter_congr λp _=>h p
theorem KA(b:bG)(t:List aJ)(x:aT)(l:List aS):K3 t (km b x) (l.map<|eY b)=K3 t x l:=by
 unfold K3;rw[rR b (f:=HD t x)<|Kz b t x,dL]
theorem KB(b:bG)(t:List aJ)(x:aT)(l:List aS):(Ah (km b x)<|l.map<|eY b).length=(Ah x l).length:=by
 obtain⟨_,n1,m1⟩:=z9 (t:=t) (x:=x) l;obtain⟨_,n2,m2⟩:=z9 (t:=t) (x:=km b x)<|l.map<|eY b
 have hp:((Ah (km b x)<|l.map<|eY b).map Prod.fst).Perm (((Ah x l).map Prod.fst).map<|pre b):=by
  refine(List.perm_ext_iff_of_nodup n2<|n1.map (f:=pre b) λa c hne e=>hne<|Cz e).2 λq=>?_;rw[m2,cF];constructor
  ·rintro⟨p',hp',hi,rfl⟩;obtain⟨p,hp,rfl⟩:=cF.1 hp';rw[yx]at hi;exact⟨nameOf x p,(m1 _).2 ⟨p,hp,hi,rfl⟩,(Ad hi).symm⟩
  ·rintro⟨s,hs,rfl⟩;obtain⟨p,hp,hi,rfl⟩:=(m1 _).1 hs;exact⟨eY b p,List.mem_map_of_mem hp,by rw[yx];exact hi,(Ad hi).symm⟩
 have:=hp.length_eq;simpa using this
theorem Joined.unique{all:List aI}{r r':Nat->Nat}(h:Joined all r)(h':Joined all r'):∀i,i<all.length->r i=r' i:=by
 have key:∀{r r':Nat->Nat},Joined all r->Joined all r'->∀i,i<all.length->r' i<=r i:=by
  intro r r' h h' i hi;have hb:r i<all.length:=Nat.lt_of_le_of_lt (h.le i hi) hi;have:=h.fi (λj=>r' j=r' i) (λa b hl=>by rw[h'.co a b hl]) i (r i) hi hb (h.rr i hi).symm rfl;have h2:=h'.le (r i) hb;rw[this]at h2;exact h2
 intro i hi;exact Nat.le_antisymm (key h' h i hi)<|key h h' i hi
theorem DM.unique{n m:Nat}{tch:List (List Int)}{r r':Nat->Nat}(h:DM n m tch r)(h':DM n m tch r'):∀i,i<n+m->r i=r' i:=by
 have key:∀{r r':Nat->Nat},DM n m tch r->DM n m tch r'->∀i,i<n+m->r' i<=r i:=by
  intro r r' h h' i hi;have hb:r i<n+m:=Nat.lt_of_le_of_lt (h.le i hi) hi;have:=h.fi (λj=>r' j=r' i) (λa b hl=>by rw[h'.co a b hl]) i (r i) hi hb (h.rr i hi).symm rfl;have h2:=h'.le (r i) hb;rw[this]at h2;exact h2
 intro i hi;exact Nat.le_antisymm (key h' h i hi)<|key h h' i hi
theorem tS{t:Nat}{r r':Nat->Nat}(h:∀i,i<t->r i=r' i):bW t r=bW t r':=by
 unfold bW;exact List.filter_congr λk hk=>by rw[h k<|pw.1 hk]
theorem xR{t:Nat}{r r':Nat->Nat}(h:∀i,i<t->r i=r' i):cls t r=cls t r':=by
 funext k;unfold cls;exact List.filter_congr λj hj=>by rw[h j<|pw.1 hj]
theorem nD.unique{s:List aA}{u u':Nat->Nat}{ps ps':List (List aA)}(h:nD s u ps)(h':nD s u' ps'):ps=ps':=by
 have hu:=Joined.unique h.join h'.join;have hh:=tS hu;have hl:ps.length=ps'.length:=by rw[h.len,h'.len,hh]
 apply List.ext_getElem hl;intro j hj hj';have hk:j<(bW (aO s).length u).length:=by rw[<-h.len];exact hj
 have e1:(bW (aO s).length u)[j]? =some (bW (aO s).length u)[j]:=aK hk;have a:=h.each j _ _ e1<|aK hj
 have b:=h'.each j _ _ (by rw[<-hh];exact e1)<|aK hj'
 unfold mu at a b;rw[xR hu]at a;exact a.unique b
theorem qh.unique{cs:List (List aI)}{bs:List cK}{k:Nat}{mx drl':List (List aA)}{je pss':List (List<|List aA)}(h:qh cs bs k mx je)(h':qh cs bs k drl' pss')(hk:k<=cs.length):mx=drl'/\je=pss':=by
 have hd:mx=drl':=by
  apply List.ext_getElem (by rw[h.len,h'.len]);intro i hi hi';have hik:i<k:=by rw[<-h.len];exact hi
  have hc:cs[i]? =some cs[i]:=aK (by omega);have a:=h.dr i _ _ hik hc<|aK hi
  have b:=h'.dr i _ _ hik hc<|aK hi'
  exact DH a.can b.can λx y=>by rw[a.cover,b.cover]
 subst hd;refine⟨rfl,?_⟩;apply List.ext_getElem (by rw[h.Ck,h'.Ck]);intro i hi hi';have hik:i<k:=by rw[<-h.Ck];exact hi
 have hdi:i<mx.length:=by rw[h.len];exact hik
 have hs:mx[i]? =some mx[i]:=aK hdi;obtain⟨u,a⟩:=h.pt i _ _ hik hs<|aK hi
 obtain⟨u',b⟩:=h'.pt i _ _ hik hs<|aK hi'
 exact a.unique b
def oy(b:bG)(l:dD):dD:=⟨pre b l.Part,l.aS,l.eX,l.At⟩
def CB(b:bG)(g:bK):bK:={g with aP:=g.aP.map<|eY b}
def l5(b:bG)(a:jg):jg:=⟨a.aN,a.cL,a.bN,a.bC.map<|oy b⟩
theorem Gd(b:bG)(l:dD):gZ (oy b l)=eY b (gZ l):=rfl
theorem LQ{bs:List cK}{pcs:List aH}{l:dD}{h:j4}(hh:yf bs pcs l=some h):qT pcs.length h<pcs.length+bs.length:=by
 unfold yf at hh
 cases hb:bs.findIdx? (tH l)with
 |some k=>
  rw[hb]at hh;injection hh with hh
  subst hh;have:=(List.findIdx?_eq_some_iff_getElem.1 hb).1;unfold qT;simp only[aR,cT]
  first|omega|(simp;omega)
 |none=>
  rw[hb]at hh
  cases hp:pcs.findIdx? (ug l)with
  |none=>rw[hp]at hh;cases hh
  |some k=>
   rw[hp]at hh;injection hh with hh
   subst hh;have:=(List.findIdx?_eq_some_iff_getElem.1 hp).1;unfold qT
   first|omega|(simp;omega)
theorem Jo{bs:List cK}{n t:Nat}{r r':Nat->Nat}(h:∀i,i<t->r i=r' i):gi bs n t r=gi bs n t r':=by
 funext x;unfold gi live;rw[xR h,tS h]
theorem Bv{bs:List cK}{pcs:List aH}{r r':Nat->Nat}(h:∀i,i<pcs.length+bs.length->r i=r' i)(l:dD):AG bs pcs r l=AG bs pcs r' l:=by
 unfold AG;rw[Jo h]
 cases hh:yf bs pcs l with
 |none=>rfl
 |some x=>simp only[Option.map_some];rw[h _ (LQ hh)]
theorem Ge(bs:List cK)(pcs:List aH)(r:Nat->Nat)(b:bG)(l:dD):AG bs pcs r (oy b l)=AG bs pcs r l:=rfl
theorem CC(b:bG)(G:List bK){f:dD->Option Nat}(hf:∀l,f (oy b l)=f l)(ls:List dD):gW G f (ls.map<|oy b)=(gW G f ls).map (CB b):=by
 apply List.ext_getElem?;intro g;rw[ke,eR,ke]
 cases G[g]? with
 |none=>rfl
 |some x=>
  simp only[Option.map_some];congr 1;unfold CB;congr 1;rw[List.filter_map,List.map_map,List.map_map];congr 1;exact List.filter_congr λl _=>by simp only[Function.comp_def,hf]
theorem Jp{bs:List cK}{ls:List dD}{pcs:List aH}{b:bG}{r r':Nat->Nat}{gs gs':List bK}{ofP ofB qY ofP' ofB' ofL':List Int}{sE atL':List j4}(h:tJ bs ls pcs r gs ofP ofB qY sE)
  (h':tJ bs (ls.map<|oy b) pcs r' gs' ofP' ofB' ofL' atL'):(∀i,i<pcs.length+bs.length->r' i=r i)/\gs'=gs.map (CB b):=by
 have hr:∀i,i<pcs.length+bs.length->r' i=r i:=DM.unique h'.conn h.conn;refine⟨hr,?_⟩;rw[h'.gs,h.gs];have e1:o6 bs pcs.length (pcs.length+bs.length) r' (bW (pcs.length+bs.length) r')=o6 bs pcs.length (pcs.length+bs.length) r (bW (pcs.length+bs.length) r):=by
  unfold o6 live;rw[xR hr,tS hr]
 have e2:AG bs pcs r'=AG bs pcs r:=funext λl=>Bv hr l;rw[e1,e2];exact CC b _ (λl=>Ge bs pcs r b l) ls
def gA(w:cP):Int×Nat×Nat:=(w.Kind,w.aP.length,w.bA.length)
theorem KC{lg lg':aS->Option Int}{b:bG}(h:∀p,lg' (eY b p)=lg p)(ps:List aS):D5 lg' (ps.map<|eY b)=((D5 lg ps).1.map<|List.map<|eY b,(D5 lg ps).2):=by
 unfold D5;have key:∀(ps:List aS)(s:List (List aS)×List Int),(ps.map<|eY b).foldl (lM lg') (s.1.map<|List.map<|eY b,s.2)=((ps.foldl (lM lg) s).1.map<|List.map<|eY b,(ps.foldl (lM lg) s).2):=by
  intro ps
  induction ps with
  |nil=>intro s;rfl
  |cons p ps ih=>
   intro s;rw[eF,List.foldl_cons,List.foldl_cons,<-ih];congr 1;unfold lM;rw[h p]
   cases lg p with
   |none=>rfl
   |some g=>
    simp only
    cases rP s.2 g with
    |none=>simp
    |some i=>
     simp only[Prod.mk.injEq,and_true];rw[eR,List.map_set]
     cases s.1[i]? with
     |none=>simp
     |some l=>simp
 exact key ps ([],[])
theorem KD{lg lg':aS->Option Int}{b:bG}(h:∀p,lg' (eY b p)=lg p)(ps:List aS):(Kw lg'<|ps.map<|eY b).length=(Kw lg ps).length:=by
 unfold Kw;rw[KC h];simp only[dL];split
 ·rfl
 ·rw[<-List.map_flatten,dL]
theorem Hs{lg lg':aS->Option Int}{b:bG}(h:∀p,lg' (eY b p)=lg p)(n:Net):(pV lg'<|rQ b n).map gA=(pV lg n).map gA:=by
 unfold pV;have e:(Kw lg' (rQ b n).aP).length=(Kw lg n.aP).length:=KD h n.aP;rw[e];split
 ·simp[gA,e]
 ·rfl
theorem Fq(b:bG)(t:List aJ)(x:aT)(g:bK):(nY t (km b x)<|CB b g).map gA=(nY t x g).map gA:=by
 unfold nY;have e1:(Ah (km b x) (CB b g).aP).length=(Ah x g.aP).length:=KB b t x g.aP;have e2:K3 t (km b x) (CB b g).aP=K3 t x g.aP:=KA b t x g.aP;have e3:(CB b g).aP.filter (Cy t<|km b x)=(g.aP.filter<|Cy t x).map (eY b):=rR b (Gc b t x) g.aP;rw[e1,e2,e3];split
 ·simp only[eF,List.map_nil,gA,LO,e1,dL]
 ·rfl
theorem Ae{k:Int}{ps qs:List aS}(h:ps.length=qs.length):(mX k ps).map gA=(mX k qs).map gA:=by
 unfold mX;rw[h];split
 ·simp[gA,h]
 ·rfl
theorem Ht(b:bG)(a:jg)(p:aS):o7 (l5 b a) (eY b p)=o7 a p:=by
 unfold o7 B6;have e:(l5 b a).bC.findIdx? (λx=>decide<|gZ x=eY b p)=a.bC.findIdx? (λx=>decide<|gZ x=p):=by
  show(a.bC.map<|oy b).findIdx? _=_;rw[List.findIdx?_map];congr 1;funext l;show decide (eY b (gZ l)=eY b p)=decide (gZ l=p);exact decide_eq_decide.2 ⟨λh=>Aa h,λh=>congrArg (eY b) h⟩
 rw[e]
theorem KE{b:bG}{a:jg}{pcs:List aH}{r r':Nat->Nat}(h:∀i,i<pcs.length+a.bN.length->r' i=r i)(p:aS):Bs (l5 b a) pcs r' (eY b p)=Bs a pcs r p:=by
 unfold Bs;have e:(l5 b a).bC.find? (λl=>decide<|gZ l=eY b p)=(a.bC.find?<|λl=>decide<|gZ l=p).map (oy b):=by
  show(a.bC.map<|oy b).find? _=_;rw[List.find?_map];congr 2;funext l;show decide (eY b (gZ l)=eY b p)=decide (gZ l=p);exact decide_eq_decide.2 ⟨λh=>Aa h,λh=>congrArg (eY b) h⟩
 rw[e,Option.map_map];congr 1;funext l;show G9 a.bN pcs r' (oy b l)=G9 a.bN pcs r l;unfold G9;rw[Ge,Bv h]
theorem Hu(b:bG)(a:jg)(x:aT):pU (l5 b a) (km b x)=(pU a x).map (eY b):=by
 unfold pU;show(x.bA.map<|rQ b).flatMap _=_;rw[List.flatMap_map,List.map_flatMap];congr 1;funext n;exact rR b (λp=>by simp only[Ht]) n.aP
theorem Ft(b:bG)(t:List aJ)(x:aT)(a:jg):vB t (km b x) (l5 b a)=(vB t x a).map (eY b):=by
 unfold vB;have e:(l5 b a).bC.map gZ=(a.bC.map gZ).map (eY b):=by
  show(a.bC.map<|oy b).map gZ=_;rw[List.map_map,List.map_map];rfl
 rw[e];exact rR b (λp=>by rw[Gc]) _
theorem Af{α:Type}{l:List α}{f g:α->List cP}(h:∀x∈l,(f x).map gA=(g x).map gA):(l.flatMap f).map gA=(l.flatMap g).map gA:=by
 rw[List.map_flatMap,List.map_flatMap]
 induction l with
 |nil=>rfl
 |cons x l ih=>
  rw[List.flatMap_cons,List.flatMap_cons,h x (by simp),ih λy hy=>h y (by simp[hy])]
theorem Jq{b:bG}{t:List aJ}{x:aT}{a:jg}{pcs:List aH}{r r':Nat->Nat}{gs:List bK}(h:∀i,i<pcs.length+a.bN.length->r' i=r i):
  (Fi t (km b x) (l5 b a) pcs r'<|gs.map<|CB b).map gA=(Fi t x a pcs r gs).map gA:=by
 unfold Fi;rw[eE,eE,eE,eE,eE,eE]
 have e1:(mX 1 (qW (pU (l5 b a) (km b x)))).map gA=(mX 1 (qW (pU a x))).map gA:=Ae (by
  rw[(vA _).length_eq,(vA _).length_eq,Hu,dL])
 have e2:((km b x).bA.flatMap<|pV<|Bs (l5 b a) pcs r').map gA=(x.bA.flatMap<|pV<|Bs a pcs r).map gA:=by
  show((x.bA.map<|rQ b).flatMap _).map gA=_;rw[List.flatMap_map];exact Af λn _=>Hs (KE h) n
 have e3:((gs.map<|CB b).flatMap<|nY t<|km b x).map gA=(gs.flatMap<|nY t x).map gA:=by
  rw[List.flatMap_map];exact Af λg _=>Fq b t x g
 have e4:(mX 4<|vB t (km b x)<|l5 b a).map gA=(mX 4<|vB t x a).map gA:=Ae (by rw[Ft,dL]);rw[e1,e2,e3,e4]
theorem qX:∀(b s u:List UInt8),Lib.compareBytes (b++s) (b++u)=Lib.compareBytes s u
 | [],s,u=>rfl
 |x::b,s,u=>by
  have ih:=qX b s u;have hx:¬x<x:=by simp[UInt8.lt_iff_toNat_lt]
  show(if x<x then _ else if x<x then _ else Lib.compareBytes (b++s) (b++u))=_;rw[aF hx,aF hx,ih]
theorem D8(b:bG)(p q:aS):il (eY b p) (eY b q)=il p q:=by
 unfold il eY pre;simp only[qX]
theorem CD(b:bG){a:jg}(h:i7 a=0):i7 (l5 b a)=0\/i7 (l5 b a)=5:=by
 unfold i7 at h ⊢;have hl:(l5 b a).bC.length=a.bC.length:=dL _;rw[hl];split at h
 ·cases h
 rename_i h1;rw[aF h1]
 have hn:=ni (e:=kL a) (λk r hk=>by
  unfold kL at hk
  cases hx:a.bC[k]? with
  |none=>rw[hx]at hk;cases hk
  |some x=>
   rw[hx,Option.bind_some]at hk
   repeat' split at hk
   all_goals first|(injection hk with hk;omega)|cases hk) h
 refine LP λk hk=>?_;have:=hn k hk;unfold kL at this ⊢;have e0:∀j:Nat,(l5 b a).bC[j]? =(a.bC[j]?).map (oy b):=λj=>by
  show(a.bC.map<|oy b)[j]? =_;rw[eR]
 rw[e0,aK hk,Option.map_some,Option.bind_some];rw[aK hk,Option.bind_some]at this
 by_cases h5:(jY (oy b a.bC[k]).Part&&isWord (oy b a.bC[k]).aS)=true
 ·rw[aG h5];left;split at this
  ·split at this
   ·rename_i h6;have h6':(ik (oy b a.bC[k]).eX 0 ((((l5 b a).aN.length:Nat):Int) - 1)&&tA (oy b a.bC[k]).At)=true:=h6;rw[aG h6'];split at this
    ·cases this
    ·rename_i h7;rw[aF];rintro⟨h8,y,h9,h10⟩;refine h7 ⟨h8,?_⟩;rw[e0]at h9
     cases hy:a.bC[k - 1]? with
     |none=>rw[hy]at h9;cases h9
     |some z=>
      rw[hy]at h9;injection h9 with h9
      subst h9;refine⟨z,rfl,?_⟩;rw[Gd,Gd,D8]at h10;exact h10
   ·cases this
  ·cases this
 ·rw[aF h5];exact .inr rfl
theorem CE(b:bG){a:jg}(h:gz a=0):gz (l5 b a)=0\/gz (l5 b a)=5:=by
 have e1:jZ (l5 b a)=jZ a:=rfl;have e2:uP (l5 b a)=uP a:=rfl;unfold gz at h ⊢;show(if a.aN.length=0 then(9:Int)else if 16<a.aN.length then 2 else E2 (l5 b a))=0\/(if a.aN.length=0 then(9:Int)else if 16<a.aN.length then 2 else E2 (l5 b a))=5;split at h
 ·cases h
 rename_i h1;rw[aF h1];split at h
 ·cases h
 rename_i h2;rw[aF h2];unfold E2 at h ⊢;show(match a.aN.findSome? DQ with|some e=>e|none=>if iw a.cL≠0 then iw a.cL else AJ (l5 b a))=0\/(match a.aN.findSome? DQ with|some e=>e|none=>if iw a.cL≠0 then iw a.cL else AJ (l5 b a))=5
 cases hf:a.aN.findSome? DQ with
 |some e=>rw[hf]at h;exact .inl h
 |none=>
  rw[hf]at h;dsimp only at h ⊢;split at h
  ·rename_i h3;exact absurd h h3
  rename_i h3;rw[aF h3];unfold AJ at h ⊢;show(if 2000<a.cL.length+(a.aN.map List.length).sum then(2:Int)else if jZ (l5 b a)≠0 then jZ (l5 b a)else if i7 (l5 b a)≠0 then i7 (l5 b a)else if uP (l5 b a)then 12 else 0)=0\/_;split at h
  ·cases h
  rename_i h4;rw[aF h4,e1,e2];split at h
  ·rename_i h5;exact absurd h h5
  rename_i h5;rw[aF h5];split at h
  ·rename_i h6;exact absurd h h6
  rename_i h6
  rcases CD b (Decidable.not_not.1 h6)with h7|h7
  ·rw[h7,aF (by simp)];exact .inl h
  ·rw[h7,aG (by omega)];right;show(if 2000<a.cL.length+(a.aN.map List.length).sum then(2:Int)else 5)=5;rw[aF h4]
section
variable {N:Nat}{t:List aJ}{x:aT}{a:jg}{b:bG}
theorem CF(b s:bG):(pre b s).bX.length=b.bX.length+s.bX.length:=dE
theorem Bw(ha:bk a<=1048576)(hb:bk b<=1048576):nP (l5 b a):=by
 have h:=nQ ha;rw[m8]at hb;refine⟨h.cs,h.each,h.out,h.bs,by show(a.bC.map<|oy b).length<=1048576;rw[dL];exact h.ls,λl hl=>?_⟩;obtain⟨l0,hl0,rfl⟩:=cF.1 (show l∈a.bC.map (oy b)from hl);have h1:=h.nm l0 hl0;rw[EH]at ha;have h2:=m7 hl0;rw[Ca]at h2;have h3:=m8 l0.Part;refine⟨?_,h1.2⟩;show(pre b l0.Part).bX.length<=2097152;rw[CF];omega
theorem KF(hx:bk x<=1048576)(hb:bk b<=1048576):K2 (km b x):=by
 have h:=E9 hx;rw[m8]at hb;rw[rz]at hx;refine⟨by show(x.cJ.map<|pf b).length<=1048576;rw[dL];exact h.pl,λp hp=>?_,by show(x.bA.map<|rQ b).length<=1048576;rw[dL];exact h.nl,λn hn=>?_,λn hn=>?_⟩
 ·obtain⟨p0,hp0,rfl⟩:=cF.1 (show p∈x.cJ.map (pf b)from hp);have h2:=m7 hp0;rw[B9]at h2;have h3:=m8 p0.Name;show(pre b p0.Name).bX.length<=2097152;rw[CF];omega
 ·obtain⟨n0,hn0,rfl⟩:=cF.1 (show n∈x.bA.map (rQ b)from hn);have h2:=m7 hn0;rw[zg,m8]at h2;show(pre b n0.Name).bX.length<=2097152;rw[CF];omega
 ·obtain⟨n0,hn0,rfl⟩:=cF.1 (show n∈x.bA.map (rQ b)from hn);show(n0.aP.map<|eY b).length<=1048576;rw[dL];exact h.np _ hn0
theorem Hv{e:Int}(hs:nP a)(hN:4398046511104<=N)(h:gC N a=some (none,e)):(gz a≠0/\e=gz a)\/e=2:=by
 obtain⟨y,hy,hI⟩:=xJ (N:=N) hs hN;rw[h]at hy;injection hy with hy
 subst hy
 rcases hI with⟨h1,h2⟩|⟨_,_,_,mx,je,_,⟨_,h2⟩|⟨_,r,gs,ofP,ofB,qY,sE,_,h2⟩⟩
 ·injection h2 with _ h2;exact .inl ⟨h1,h2⟩
 ·injection h2 with _ h2;exact .inr h2
 ·injection h2 with h2;cases h2
theorem Hx{z:xI}(hs:nP a)(hN:4398046511104<=N)(h:gC N a=some (some z,0)):gz a=0:=by
 obtain⟨y,hy,hI⟩:=xJ (N:=N) hs hN;rw[h]at hy;injection hy with hy
 subst hy
 rcases hI with⟨h1,h2⟩|⟨h1,_⟩
 ·injection h2 with h2;cases h2
 ·exact h1
theorem Fu(hbt:bk t<=1048576)(hbx:bk x<=1048576)(ha:bk a<=1048576)(hb:bk b<=1048576)(hN:4398046511104<=N):
  (∃f,f≠0/\dQ N t x a=some ([],f))\/∃was is f,dQ N t x a=some (was,0)/\dQ N t (km b x) (l5 b a)=some (is,f)/\was.length<=4611686018427387904/\(((f=5\/f=2)/\f≠0)\/f=0/\is.map gA=was.map gA):=by
 rcases Jm (N:=N) hbt hbx (nQ ha) hN with⟨e,he,_,h⟩|⟨e,he,_,_,h⟩|⟨hl,bo,h0,h⟩
 ·exact .inl ⟨e,he,h⟩
 ·exact .inl ⟨e,he,h⟩
 ·right;have hz:=Hx (nQ ha) hN h0;have ok:=rN hl;have hwl:∀pcs r gs,gs.length<=1099511627776->(Fi t x a pcs r gs).length<=4611686018427387904:=λpcs r gs hg=>by
   unfold Fi;have l1:=pd 1<|qW<|pU a x
   have l2:=lh (pV<|Bs a pcs r) 1 x.bA<|λn _=>uk _ n
   have l3:=lh (nY t x) 1 gs<|λg _=>vC t x g
   have l4:=pd 4<|vB t x a
   have:=ok.Cu;simp only[dE];omega
  have hgl:=(Jb bo.LU).2;have hf:=bo.CI.2;have hbl:=bo.LK.gb.len
  rcases Bu (N:=N) hbt (KF hbx hb) (Bw ha hb) hN with⟨e,he,h1,h2⟩|⟨e,he,_,h1,h2⟩|⟨_,bo',h1,h2⟩
  ·refine⟨_,_,e,h,h2,hwl _ _ _ (by omega), .inl ⟨.inl ?_,he⟩⟩
   rcases AL b hl with h3|h3
   ·rw[h1]at h3;exact absurd h3 he
   ·rw[h1]at h3;exact h3
  ·refine⟨_,_,e,h,h2,hwl _ _ _ (by omega), .inl ⟨?_,he⟩⟩
   rcases Hv (Bw ha hb) hN h1 with⟨h3,h4⟩|h3
   ·rcases CE b hz with h5|h5
    ·exact absurd h5 h3
    ·exact .inl<|h4.trans h5
   ·exact .inr h3
  ·refine⟨_,_,0,h,h2,hwl _ _ _ (by omega), .inr ⟨rfl,?_⟩⟩;obtain⟨e1,e2⟩:=qh.unique bo.dr bo'.dr<|bU _
   subst e1;subst e2;obtain⟨e3,e4⟩:=Jp (b:=b) bo.LU bo'.LU;subst e4;exact Jq e3
end
section
variable {N:Nat}
theorem Hy(hN:4398046511104<=N):fN N=some true:=by
 have hc:dW ([(⟨0,3,[0,2]⟩:aA)].map bR):=⟨λb hb=>by
  have e:b=bR (⟨0,3,[0,2]⟩:aA):=by simpa using hb
  subst e
  exact⟨by decide,by decide,by unfold mg;decide,by decide⟩,List.pairwise_singleton _ _⟩
 have hr:iw [(⟨0,0,2,3⟩:aI)]=0:=DV (s:=[⟨0,3,[0,2]⟩]) hc (by decide) (by decide);unfold fN;rw[Kt hr hN,aB];have e:DS [(⟨0,0,2,3⟩:aI)]=6:=by rfl
 rw[e];rfl
theorem wS{b s:bG}(h:b.bX.length+s.bX.length<=9223372036854775807):vH b s=some (pre b s):=by unfold vH pre;rw[aG h]
theorem Fv{x:aT}{b:bG}(hx:bk x<=1048576)(hb:bk b<=1048576):gG N x b=some (km b x):=by
 have hsm:=E9 hx;have h1:=hsm.pl;have h2:=hsm.nl;rw[m8]at hb;rw[rz]at hx;refine RD ?_;unfold gG;refine Qv (Q3 (λk s=>s=(x.cJ.take k).map (pf b)) (by omega) rfl<|λk s hk e=>?_) ?_
 ·subst e;have hp:x.cJ[k]? =some x.cJ[k]:=aK hk;have hn:=hsm.pn _<|cU hk
  refine QK hp<|Qn (wS (by omega))<|Rg (by simp only[dL,cZ,fY,List.length_nil];omega)<|Qo ?_
  rw[dF hk,eE];rfl
 rintro _ rfl;rw[dG];refine Qv (Q3 (λk s=>s=(x.bA.take k).map (rQ b)) (by omega) rfl<|λk s hk e=>?_) ?_
 ·subst e;have hn:x.bA[k]? =some x.bA[k]:=aK hk;have hnn:=hsm.nn _<|cU hk
  have hnp:=hsm.np _<|cU hk
  refine QK hn<|Qn (wS (by omega)) ?_
  refine Qv (Q3 (λj s=>s=(x.bA[k].aP.take j).map (eY b)) (by omega) rfl<|λj s hj e=>?_) ?_
  ·subst e;have hq:x.bA[k].aP[j]? =some x.bA[k].aP[j]:=aK hj;have hs:x.bA[k].aP[j].Part.bX.length<=1048576:=by
    have a1:=m7<|cU hk
    rw[zg]at a1;have a2:=m7<|cU hj
    rw[IC,m8]at a2;omega
   refine QK hq<|Qn (wS (by omega))<|Rg (by simp only[dL,cZ,fY,List.length_nil];omega)<|Qo ?_
   rw[dF hj,eE];rfl
  ·rintro _ rfl;rw[dG];refine Rg (by simp only[dL,cZ,fY,List.length_nil];omega)<|Qo ?_
   rw[dF hk,eE];rfl
 rintro _ rfl;rw[dG];exact Qo rfl
theorem Hz{a:jg}{b:bG}(ha:bk a<=1048576)(hb:bk b<=1048576):∀{β:Type}{f:List dD->Option β}{Q:β->Prop},Ok (f<|a.bC.map<|oy b) Q->
  Ok ((gN a.bC.length (λ(k56:Nat)(s57:List dD)=>((idx s57 (k56:Int)).bind λx64=>(vH b x64.Part).bind λx65=>(idx s57 (k56:Int)).bind λx66=>some (s57.set (Int.toNat (k56:Int))<|{x66 with Part:=x65}):Option (List dD))) a.bC).bind f) Q:=by
 intro β f Q hQ;have hs:=nQ ha;have h1:=hs.ls;rw[m8]at hb;refine Qv (Q3 (λk s=>s=(a.bC.take k).map (oy b)++a.bC.drop k) (by omega) (by simp)<|λk s hk e=>?_) ?_
 ·subst e;have hl:((a.bC.take k).map<|oy b).length=k:=by rw[dL,cZ];omega
  have hx:((a.bC.take k).map (oy b)++a.bC.drop k)[k]? =some a.bC[k]:=by
   rw[gE (by omega),hl,Nat.sub_self,i9,Nat.add_zero];exact aK hk
  have hn:=(hs.nm _<|cU hk).1;refine QK hx<|Qn (wS (by omega))<|QK hx<|Qo ?_
  rw[cT,List.set_append_right _ _ (by omega),hl,Nat.sub_self,pA hk,List.set_cons_zero,dF hk,eE,kE];rfl
 ·rintro _ rfl;rw[dG,List.drop_length,ll];exact hQ
theorem rS{t:List aJ}{x:aT}{a:jg}{b:bG}(hbt:bk t<=1048576)(hbx:bk x<=1048576)(ha:bk a<=1048576)(hb:bk b<=1048576)(hN:4398046511104<=N):eK N t x a b=some true:=by
 have aw:=Hy (N:=N) hN;have hls:=(nQ ha).ls;refine RD ?_;unfold eK
 rcases Fu (N:=N) hbt hbx ha hb hN with⟨f,hf,h⟩|⟨was,is,f,h1,h2,hl,h3⟩
 ·have hb2:(f != 0)=true:=by simpa using hf
  rw[h,aB];simp only[hb2,aR,aw,aB];exact Qo rfl
 ·rw[h1,aB];simp only[bne_self_eq_false,bF];have ec:jH N a.bC=some a.bC:=by
   unfold jH;rw[gu (by simp only[List.length_nil];omega)];rfl
  rw[ec,aB];refine Hz ha hb ?_;rw[Fv hbx hb,aB,show(⟨a.aN,a.cL,a.bN,a.bC.map<|oy b⟩:jg)=l5 b a from rfl,h2,aB]
  rcases h3 with⟨h4,h5⟩|⟨rfl,h4⟩
  ·have hb2:(f != 0)=true:=by simpa using h5
   have hb3:((f==5)||(f==2))=true:=by
    rcases h4 with h4|h4 <;> subst h4 <;> rfl
   simp only[hb2,hb3,aR,aw,aB];exact Qo rfl
  ·have hlen:was.length=is.length:=by
    have:=congrArg List.length h4;simpa using this.symm
   simp only[bne_self_eq_false,bF,hlen];refine Qv (So (Go:=λ_=>True) (Rt:=λ_=>False) (λ_ _=>True) (by omega) trivial (λk s hk _=>?_)<|λ_ _=>trivial) ?_
   ·have hx:was[k]? =some was[k]:=aK (by omega);have hy:is[k]? =some is[k]:=aK hk;have he:gA is[k]=gA was[k]:=by
     have h5:=congrArg (λl=>l[k]?) h4;simp only[eR,hx,hy,Option.map_some]at h5;injection h5
    unfold gA at he;injection he with e1 e2
    injection e2 with e2 e3
    simp only[eW hx,eW hy,aB,e1,e2,e3,bne_self_eq_false,bF];exact Rk trivial
   ·intro o ho;refine Ro ho (λs _=>?_)<|λr h=>h.elim
    rw[aw,aB];exact Qo rfl
end
end Go.Gk
