/-
  Helping texts: plain functions and plain laws. No statement of the seed is proved here.
-/
import Derived.Test.YtfidohbopcdgdaaGreatDoorE1
import Derived.Test.YtfidohbopcdgdaaGreatDoorA2
set_option linter.unusedVariables false
set_option linter.unusedSimpArgs false
set_option linter.unusedSectionVars false
namespace Go.Gk
open Go IntKind Classical
section
variable {N:Nat}{t:List aG}{l:List aF}{ρ:Nat->Nat}
structure FK (N:Nat) (l:List aF) (k:Nat) (I:List (Nat×aN×Nat)) (r:Nat->Nat) (st:List Int×List (Int×aC)×List (Int×List Pin)) (Ps:List Part) (Ns:List Net) (ok:Bool):Prop where
 fI:I=dV l N k ⟨[]⟩ 0
 fr:r=gY (λi=>i) (CQ l N k 0)
 xx:(I.flatMap<|w6 l).length<=1000
 len:(I.flatMap<|rD l).length=(I.flatMap<|t9 l).length
 fU:∃up,UF (I.flatMap<|t9 l).length up r
 Et:FJ (I.flatMap<|w6 l) (I.flatMap<|t9 l) (I.flatMap<|rD l) r st Ps Ns ok
theorem Fm(hbt:bk t<=1048576)(hbl:bk l<=1048576)(hN:4398046511104<=N)(top:aN):
  (eA t l≠0/\fT N t l top=some (⟨[],[]⟩,eA t l))\/
  (eA t l=0/\nat? aF.Name l top<0/\fT N t l top=some (⟨[],[]⟩,9))\/
  ∃k:Nat,eA t l=0/\fQ t l/\nat? aF.Name l top=((k:Nat):Int)/\((2000<(jT l k).1\/1000<(jT l k).2)/\fT N t l top=some (⟨[],[]⟩,2)\/
   ¬(2000<(jT l k).1\/1000<(jT l k).2)/\∃I r st Ps Ns ok,FK N l k I r st Ps Ns ok/\fT N t l top=some (if ok=true then(⟨Ps,Ns⟩,0)else(⟨[],[]⟩,2))):=by
 obtain⟨c1,c2⟩:=vq (N:=N) hbt hbl (by omega)
 by_cases h0:eA t l≠0
 ·refine .inl ⟨h0,?_⟩;unfold fT;rw[c1,aA,show(eA t l != 0)=true by simpa using h0,bK]
 replace h0:=Decidable.not_not.1 h0
 obtain⟨S,ρ,hR⟩:=c2 h0;have SI:=S.Jz hbl;have hll:=S.xx;right
 by_cases ht:nat? aF.Name l top<0
 ·refine .inl ⟨h0,ht,?_⟩;unfold fT;rw[c1,aA,h0,bne_self_eq_false,aW,k8 (by omega),aA,bR ht,bK]
 right;obtain⟨k,s,e,hk,hkn,hkl⟩:=uI (key:=aF.Name) (l:=l) (w:=top) (by omega);refine⟨k,h0,S,e,?_⟩;have hrk:=(hR k hkl).1;obtain⟨sz,z1,z2,_⟩:=BB (N:=N) hR SI.there (by omega) (λs hs=>⟨SI.sO s hs,SI.parts s hs⟩) N k [] hkl (by omega) (λj hj=>by cases hj);have hcond:(bif decide (sz.1.e0>2000)then some true else some (decide<|sz.1.e1>1000))=some (decide<|2000<(jT l k).1\/1000<(jT l k).2):=by
  rw[z2];unfold Gt;dsimp only
  by_cases h1:2000<(jT l k).1
  ·rw[bR (show((min (jT l k).1 2001:Nat):Int)>2000 by omega),bK,bR<|.inl h1]
  ·rw[bJ (show ¬((min (jT l k).1 2001:Nat):Int)>2000 by omega),aW];congr 1;rw[decide_eq_decide];omega
 by_cases hbig:2000<(jT l k).1\/1000<(jT l k).2
 ·refine .inl ⟨hbig,?_⟩;unfold fT nY;rw[c1,aA,h0,bne_self_eq_false,aW,k8 (by omega),aA,e,bJ (by omega),aW,z1,aA,hcond,aA,bR hbig,bK]
 refine .inr ⟨hbig,?_⟩;simp only[not_or,Nat.not_lt]at hbig;have hcs:jE l N k=jT l k:=qH hR SI.there N l.length k (by omega) hrk;obtain⟨⟨num,P,K,Q,U⟩,q1,q2,q3,q4,q5,q6,q7⟩:=D6 SI hR hN N k ⟨[]⟩ 0 [] [] [] [] (λi=>i) hkl (by omega) (by show 0+41*ρ k<=5000;omega) (by omega) (by rw[hcs];simp only[List.length_nil];omega) (by rw[hcs];simp only[List.length_nil];omega) rfl ⟨rfl,λi h=>by cases h⟩<|λ_ _=>rfl
 dsimp only at q2 q3 q4 q5 q6;rw[List.nil_append]at q2 q3 q4;subst q2;subst q3;subst q4;have hI:=S.inst N k;have hp1:=w7 l N k ⟨[]⟩ 0;have hn1:=vr l N k ⟨[]⟩ 0;have hn2:=vt (ta SI) N k;rw[hcs]at hp1 hn2;have hlen:((dV l N k ⟨[]⟩ 0).flatMap<|rD l).length=((dV l N k ⟨[]⟩ 0).flatMap<|t9 l).length:=by
  rw[lF,lF];congr 1;exact List.map_congr_left λe _=>by unfold rD t9;rw[eK,eK]
 have hq500:∀q∈(dV l N k ⟨[]⟩ 0).flatMap (rD l),q.length<=500:=λq hq=>by
  obtain⟨e,he,s,_,hs,n,hn,rfl⟩:=yT hq;unfold lJ;rw[eK];exact iG (List.length_filter_le _ _)<|SI.pins s hs n hn
 obtain⟨st,Ps,Ns,ok,g1,g2⟩:=Fk (N:=N) (by omega) (D8 S hI) (by omega) (HG S hI) hlen hq500 q5 hN;refine⟨_,_,st,Ps,Ns,ok,⟨rfl,rfl,by omega,hlen,⟨U,q5⟩,g2⟩,?_⟩;have q1':jL N l [] [] [] [] ((k:Nat):Int) ⟨[]⟩ 0=some (num,(dV l N k ⟨[]⟩ 0).flatMap<|w6 l,(dV l N k ⟨[]⟩ 0).flatMap<|t9 l,(dV l N k ⟨[]⟩ 0).flatMap<|rD l,U):=q1;unfold fT nY;rw[c1,aA,h0,bne_self_eq_false,aW,k8 (by omega),aA,e,bJ (by omega),aW,z1,aA,hcond,aA,bJ (by omega),aW,q1',aA];dsimp only;rw[g1,aA]
 cases ok <;> rfl
theorem A7(S:fQ t l){k:Nat}{I:List (Nat×aN×Nat)}{r:Nat->Nat}{st:List Int×List (Int×aC)×List (Int×List Pin)}{Ps:List Part}{Ns:List Net}(F:FK N l k I r st Ps Ns true):Gb t ⟨Ps,Ns⟩:=by
 have hI:=S.inst N k;rw[<-F.fI]at hI;have L:=F.Et;have hok:=L.ok.symm;simp only[cJ,Bool.not_eq_true',il]at hok;obtain⟨⟨o1,o2⟩,o3⟩:=hok;rw[List.any_eq_false]at o1;rw[jY]at o2;have hU:=F.fU;obtain⟨up,hU⟩:=hU;have hnet:∀n∈Ns,∃e∈st.2.2,n= ⟨mF st.2.1 e.1,lS e.2,[]⟩/\e.2.length≠0/\e.2=pf (I.flatMap<|rD l) r (I.flatMap<|t9 l).length e.1/\(mF st.2.1 e.1).bL.length<=200/\e.2.length<=500:=by
  intro n hn;obtain⟨e,he,h⟩:=List.mem_filterMap.1<|L.np.mem_iff.1 hn
  unfold mq at h;split at h
  ·cases h
  rename_i h0;injection h with h
  have h1:=uQ (z:=[]) L.Et.pk he;rw[L.Et.pv]at h1;have h2:=o2 e he;unfold BF at h2;simp only[fK,cJ,il]at h2
  rcases h2 with h2|h2
  ·exact absurd h2 h0
  ·exact⟨e,he,h.symm,h0,h1.symm,h2.1,h2.2⟩
 have hpin:∀(h:Int)(x:Pin),x∈pf (I.flatMap<|rD l) r (I.flatMap<|t9 l).length h->∃i q,((r i:Nat):Int)=h/\(I.flatMap<|rD l)[i]? =some q/\x∈q:=by
  intro h x hx;unfold pf at hx;obtain⟨i,hi,hxi⟩:=List.mem_flatMap.1 hx;obtain⟨i1,i2⟩:=ky.1 hi;rw[il]at i2;rw[List.getD_eq_getElem?_getD]at hxi
  cases hq:(I.flatMap<|rD l)[i]? with
  |none=>rw[hq]at hxi;cases hxi
  |some q=>rw[hq]at hxi;exact⟨i,q,i2,hq,hxi⟩
 have hnd:=HH S hI;unfold List.Nodup at hnd;rw[List.pairwise_flatten]at hnd;have hdis:∀(i j:Nat)(q q':List Pin)(x:Pin),(I.flatMap<|rD l)[i]? =some q->(I.flatMap<|rD l)[j]? =some q'->x∈q->x∈q'->i=j:=by
  intro i j q q' x hi hj hx hx';obtain⟨hi',rfl⟩:=bM.1 hi;obtain⟨hj',rfl⟩:=bM.1 hj
  rcases Nat.lt_trichotomy i j with h|h|h
  ·exact absurd rfl<|gV.1 hnd.2 i j hi' hj' h x hx x hx'
  ·exact h
  ·exact absurd rfl<|gV.1 hnd.2 j i hj' hi' h x hx' x hx
 have hcnd:∀h,(pf (I.flatMap<|rD l) r (I.flatMap<|t9 l).length h).Nodup:=by
  intro h;unfold pf List.Nodup;rw[List.pairwise_flatMap];refine⟨λi hi=>?_,List.Pairwise.imp_of_mem (λ{i j}hi hj hij x hx y hy hxy=>?_)<|List.pairwise_lt_range.filter _⟩
  ·rw[List.getD_eq_getElem?_getD]
   cases hq:(I.flatMap<|rD l)[i]? with
   |none=>exact mV
   |some q=>exact hnd.1 q (dD hq)
  ·subst hxy;rw[List.getD_eq_getElem?_getD]at hx hy
   cases hq:(I.flatMap<|rD l)[i]? with
   |none=>rw[hq]at hx;cases hx
   |some q=>
    cases hq':(I.flatMap<|rD l)[j]? with
    |none=>rw[hq']at hy;cases hy
    |some q'=>
     rw[hq]at hx;rw[hq']at hy;have:=hdis i j q q' x hq hq' hx hy;omega
 have hsp:∀(e:List Pin)(p:Pin),p∈lS e->p∈e:=λe p hp=>(mT e).mem_iff.1 hp;refine⟨S.types,⟨L.ps,λx hx=>?_⟩,by show Ps.length<=1000;rw[L.pp.length_eq];exact F.xx,o3,λn hn=>?_,λn hn=>?_,L.ns,λn hn=>?_,λp hp=>?_,λn hn p hp=>?_,λn hn=>?_,λi j n m p hi hj hp hq=>?_⟩
 ·obtain⟨e,he,s,_,hs,y,hy,rfl⟩:=D7<|L.pp.mem_iff.1 hx
  exact(S.ok s hs).parts.typed y hy
 ·obtain⟨e,he,rfl,h0,_,_,h5⟩:=hnet n hn;have:=(mT e.2).length_eq;show 0<(lS e.2).length/\(lS e.2).length<=500;omega
 ·obtain⟨e,he,rfl,_⟩:=hnet n hn;rfl
 ·obtain⟨e,he,rfl,h0,_,h4,_⟩:=hnet n hn;have k1:=(L.Et.nk e.1).2<|(L.Et.pm e.1).1<|fH.2 ⟨e,he,rfl⟩
  obtain⟨⟨i,_,_,i3⟩,_⟩:=L.Et.nv _ k1;obtain⟨e',he',s,_,hs,n',hn',e2⟩:=D9<|dD i3
  have e3:mF st.2.1 e.1=lB e'.2.1 n'.Name:=by unfold mF;rw[e2]
  show t6 (mF st.2.1 e.1)=true;rw[e3]at h4 ⊢;exact yc (hI.pre e' he') ((S.ok s hs).og.word n' hn') h4
 ·have hp':=L.pp.mem_iff.1 hp;obtain⟨e,he,s,_,hs,y,hy,rfl⟩:=D7 hp';have h1:=o1 _ hp';rw[il]at h1;exact yc (hI.pre e he) ((S.ok s hs).oT y hy)<|Nat.le_of_not_lt h1
 ·obtain⟨e,he,rfl,_,h3,_⟩:=hnet n hn;have hp':=hsp _ _ hp;rw[h3]at hp';obtain⟨i,q,_,hq,hpq⟩:=hpin _ _ hp';exact Gh S hI L.pp (dD hq) hpq
 ·obtain⟨e,he,rfl,_,h3,_⟩:=hnet n hn;refine AZ.2<|Eh ?_
  rw[h3];exact hcnd e.1
 ·obtain⟨e,he,rfl,_,h3,_⟩:=hnet n<|dD hi
  obtain⟨e',he',rfl,_,h3',_⟩:=hnet m<|dD hj
  have p1:=hsp _ _ hp;have p2:=hsp _ _ hq;rw[h3]at p1;rw[h3']at p2;obtain⟨a,q,a1,a2,a3⟩:=hpin _ _ p1;obtain⟨c,q',c1,c2,c3⟩:=hpin _ _ p2;have hac:=hdis a c q q' p a2 c2 a3 c3;have hk:e.1=e'.1:=by rw[<-a1,<-c1,hac]
  exact L.ns.inj hi hj (by show mF st.2.1 e.1=mF st.2.1 e'.1;rw[hk])
end
theorem CI{K:List aC}{Q:List (List Pin)}{r r':Nat->Nat}{st:List Int×List (Int×aC)×List (Int×List Pin)}{st':List aN×List (List Pin)}(L:Ei K Q r K.length st)(R:CC (K.map aC.path) Q r' K.length st')(he:∀i,i<K.length->r i=r' i)
  (hk:∀q∈K,q.words=((q.path.bL.count 47+1:Nat):Int)) (rr:∀i,i<K.length->r (r i)=r i) (rl:∀i,i<K.length->r i<=i) {i:Nat} (hi:i<K.length):st'.1.getD (r i) ⟨[]⟩=mF st.2.1 ((r i:Nat):Int):=by
 have hri:=rl i hi;obtain⟨⟨i1,a1,a2,a3⟩,a4⟩:=L.nv _<|(L.nk ((r i:Nat):Int)).2 ⟨i,hi,rfl⟩
 obtain⟨s,b1,b2,b3⟩:=R.nv (r i) (by rw[eK];omega);have hj:∃j,j<K.length/\r j=r i/\(K.map aC.path)[j]? =some s:=by
  rcases b2 with h|⟨j,h1,h2,h3⟩
  ·exact⟨r i,by omega,rr i hi,h⟩
  ·exact⟨j,h1,by rw[he j h1];exact h2,h3⟩
 obtain⟨j,j1,j2,j3⟩:=hj;rw[lC,Option.map_eq_some_iff]at j3;obtain⟨q,q1,rfl⟩:=j3;have h1:=a4 j q j1 (by rw[j2]) q1;have h2:=b3 i1 (cP st.2.1 ((r i:Nat):Int) ⟨⟨[]⟩,0⟩).path a1 (by rw[<-he i1 a1];omega) (by rw[lC,a3];rfl);rw[List.getD_eq_getElem?_getD,b1,Option.getD_some];unfold mF;generalize cP st.2.1 ((r i:Nat):Int) ⟨⟨[]⟩,0⟩=q0 at *;rw[Ek (hk q<|dD q1)<|hk q0<|dD a3]at h1;rw[<-lX,vz]at h2;simp only[not_or,not_and]at h1 h2;have e:q.path.bL.count 47=q0.path.bL.count 47:=by omega
 rcases aN.kW q.path q0.path with h|h|h
 ·exact absurd h<|h1.2 e
 ·exact h
 ·exact absurd h<|h2.2 e.symm
theorem sT{α β:Type}{f:α->Option β}{p:α->Bool}:∀{l:List α},(∀x∈l,p x=false->f x=none)->l.filterMap f=(l.filter p).filterMap f
 | [],_=>rfl
 |x::l,h=>by
  have ih:=sT (f:=f) (p:=p) (l:=l)<|λy hy=>h y (by simp[hy])
  cases hp:p x with
  |true=>rw[List.filter_cons,aH hp,List.filterMap_cons,List.filterMap_cons,ih]
  |false=>rw[List.filter_cons,aJ (by simp[hp]),List.filterMap_cons,h x (by simp) hp];exact ih
theorem mU{α β:Type}{f g:α->Option β}:∀{l:List α},(∀x∈l,f x=g x)->l.filterMap f=l.filterMap g
 | [],_=>rfl
 |x::l,h=>by
  rw[List.filterMap_cons,List.filterMap_cons,h x (by simp),mU (l:=l)<|λy hy=>h y (by simp[hy])]
theorem CJ{K:List aC}{Q:List (List Pin)}{r r':Nat->Nat}{st:List Int×List (Int×aC)×List (Int×List Pin)}{st':List aN×List (List Pin)}(L:Ei K Q r K.length st)(R:CC (K.map aC.path) Q r' K.length st')(he:∀i,i<K.length->r i=r' i)
  (hk:∀q∈K,q.words=((q.path.bL.count 47+1:Nat):Int)) (rr:∀i,i<K.length->r (r i)=r i) (rl:∀i,i<K.length->r i<=i):(st.2.2.filterMap<|mq st.2.1).Perm ((List.range K.length).filterMap<|v9 st'.1 st'.2):=by
 have hc:∀h,pf Q r' K.length h=pf Q r K.length h:=λh=>by
  unfold pf;congr 1;refine List.filter_congr λi hi=>?_;rw[he i<|lD.1 hi]
 have hpn:∀h,h<K.length->st'.2.getD h []=pf Q r K.length ((h:Nat):Int):=λh hh=>by
  rw[List.getD_eq_getElem?_getD,R.pv h (by rw[eK];exact hh),Option.getD_some,hc]
 let g:Int->Option Net:=λh=>if(pf Q r K.length h).length=0 then none else some ⟨mF st.2.1 h,lS<|pf Q r K.length h,[]⟩
 have e1:st.2.2.filterMap (mq st.2.1)=(st.2.2.map Prod.fst).filterMap g:=by
  rw[List.filterMap_map];refine mU λe hem=>?_;have h1:=uQ (z:=[]) L.pk hem;rw[L.pv]at h1;show mq st.2.1 e=g e.1;show _=(if(pf Q r K.length e.1).length=0 then none else some _);unfold mq;rw[h1]
 have e2:(List.range K.length).filterMap (v9 st'.1 st'.2)=(((List.range K.length).filter λh=>decide<|r h=h).map λh=>((h:Nat):Int)).filterMap g:=by
  rw[sT (p:=λh=>decide<|r h=h)<|λh hh hp=>?_,List.filterMap_map]
  ·refine mU λh hh=>?_;obtain⟨h1,h2⟩:=ky.1 hh;have h3:=lD.1 h1;have h4:r h=h:=of_decide_eq_true h2;show v9 st'.1 st'.2 h=(if(pf Q r K.length ((h:Nat):Int)).length=0 then none else some _);have hn:=CI L R he hk rr rl h3;rw[h4]at hn;unfold v9;rw[hpn h h3,hn]
  ·have h3:=lD.1 hh;unfold v9;rw[hpn h h3,aH];have:pf Q r K.length ((h:Nat):Int)= []:=by
    unfold pf;rw[List.flatMap_eq_nil_iff];intro i hi;obtain⟨i1,i2⟩:=ky.1 hi;have i3:=lD.1 i1;have i4:=of_decide_eq_true i2;have i5:r i=h:=by omega
    have:=rr i i3;rw[i5]at this;exact absurd this<|of_decide_eq_false hp
   rw[this];rfl
 rw[e1,e2];refine List.Perm.filterMap g<|(List.perm_ext_iff_of_nodup L.pk ?_).2 λh=>?_
 ·unfold List.Nodup;rw[List.pairwise_map];exact(List.Pairwise.filter _ List.nodup_range).imp λ{a b}hne e=>hne (by omega)
 ·rw[L.pm,fH];constructor
  ·rintro⟨i,h1,rfl⟩;have:=rl i h1;exact⟨r i,ky.2 ⟨lD.2 (by omega),bR<|rr i h1⟩,rfl⟩
  ·rintro⟨i,h1,rfl⟩;obtain⟨h2,h3⟩:=ky.1 h1;exact⟨i,lD.1 h2,by rw[of_decide_eq_true h3]⟩
theorem Em{l m:List Net}(hl:eF Net.Name l)(hm:m.Pairwise λx y=>¬aN.lt y.Name x.Name)(hp:m.Perm l):m=l:=by
 have h0:l.Pairwise λx y=>x.Name≠y.Name:=by
  rw[gV];intro i j hi hj hij e;exact aN.sw (hl i j _ _ hij (aP hi)<|aP hj) e
 have h4:m.Pairwise λx y=>x.Name≠y.Name:=hp.symm.pairwise h0<|λ{a c}h h'=>h h'.symm
 refine sR (key:=Net.Name) ?_ hl hp;intro i j x y hij hx hy;obtain⟨hi,rfl⟩:=bM.1 hx;obtain⟨hj,rfl⟩:=bM.1 hy;have a1:=gV.1 hm i j hi hj hij;have a2:=gV.1 h4 i j hi hj hij
 rcases aN.kW m[i].Name m[j].Name with h|h|h
 ·exact h
 ·exact absurd h a2
 ·exact absurd h a1
section
variable {N:Nat}
theorem CK{n:Nat}(hn:n<=1000000):Ok (kJ n (λ(k45:Nat)(s46:List Int)=>((idx s46 (k45:Int)).bind λx49=>some (s46.set (Int.toNat (k45:Int))<|-1):Option (List Int)))<|List.replicate n (0:Int)) (λps=>ps.length=n/\∀v∈ps,v = -1):=by
 refine Ok.mono (KI (m:=n) (λk(ps:List Int)=>ps.length=n/\∀j:Nat,j<k->ps[j]? =some (-1)) (by omega) ⟨by simp,λj h=>by omega⟩ ?_) ?_
 ·rintro k ps hk⟨h1,h2⟩;rw[bQ<|aP (show k<ps.length by omega),aA,dA];refine Kn ⟨by rw[ij];exact h1,λj hj=>?_⟩;rw[gH]
  by_cases e:k=j
  ·subst e;rw[aH rfl,aH (by omega)]
  ·rw[aJ e];exact h2 j (by omega)
 ·rintro ps⟨h1,h2⟩;refine⟨h1,λv hv=>?_⟩;obtain⟨j,hj⟩:=gK hv;have:=h2 j (by have:=(bM.1 hj).1;omega);rw[hj]at this;injection this
end
theorem Ag(nm:List (Int×aC)):∀p:List (Int×List Pin),(!((p.filterMap<|mq nm).any λn=>decide (200<n.Name.bL.length)||decide (500<n.aU.length)))=p.all (BF nm)
 | []=>rfl
 |e::p=>by
  have ih:=Ag nm p;rw[List.all_cons,<-ih]
  by_cases h0:e.2.length=0
  ·have e1:mq nm e=none:=aH h0;have e2:BF nm e=true:=by unfold BF;simp[h0]
   rw[List.filterMap_cons,e1,e2,Bool.true_and]
  ·have e1:mq nm e=some ⟨mF nm e.1,lS e.2,[]⟩:=aJ h0;have hsl:(lS e.2).length=e.2.length:=(mT e.2).length_eq;rw[List.filterMap_cons,e1];show(!(List.any (_::_) _))=_;rw[List.any_cons,Bool.not_or];congr 1;unfold BF;dsimp only;rw[bJ h0,Bool.false_or,hsl,Bool.not_or];congr 1
   ·rw[lY];simp
   ·rw[lY];simp
section
variable {N:Nat}{t:List aG}{l:List aF}{ρ:Nat->Nat}
structure HJ (N:Nat) (l:List aF) (k:Nat) (r:Nat->Nat) (st:List aN×List (List Pin)) (Ps:List Part) (Ns:List Net):Prop where
 root:∀i,i<((dV l N k ⟨[]⟩ 0).flatMap<|t9 l).length->gY (λi=>i) (CQ l N k 0) i=r i
 Et:CC (((dV l N k ⟨[]⟩ 0).flatMap<|t9 l).map aC.path) ((dV l N k ⟨[]⟩ 0).flatMap<|rD l) r ((dV l N k ⟨[]⟩ 0).flatMap<|t9 l).length st
 pp:Ps.Perm ((dV l N k ⟨[]⟩ 0).flatMap<|w6 l)
 ps:eF Part.Name Ps
 np:Ns.Perm ((List.range ((dV l N k ⟨[]⟩ 0).flatMap<|t9 l).length).filterMap<|v9 st.1 st.2)
 ns:Ns.Pairwise λx y=>¬aN.lt y.Name x.Name
theorem CL(hbt:bk t<=1048576)(hbl:bk l<=1048576)(hN:4398046511104<=N){top:aN}(h:eA t l≠0):cM N t l top=some (⟨[],[]⟩,eA t l):=by
 unfold cM;rw[oU hbt hbl (by omega),aA,show(eA t l != 0)=true by simpa using h,bK]
theorem A8(hbt:bk t<=1048576)(hbl:bk l<=1048576)(hN:4398046511104<=N){top:aN}(h:eA t l=0)(ht:nat? aF.Name l top<0):cM N t l top=some (⟨[],[]⟩,9):=by
 have hll:=dO l;unfold cM;rw[oU hbt hbl (by omega),aA,h,bne_self_eq_false,aW,k9 (by omega),aA,bR ht,bK]
theorem En(hbt:bk t<=1048576)(hbl:bk l<=1048576)(hN:4398046511104<=N){top:aN}(h0:eA t l=0)(S:fQ t l)(hR:pD l ρ){k:Nat}(hkl:k<l.length)(e:nat? aF.Name l top=((k:Nat):Int)):
  (2000<(jT l k).1/\cM N t l top=some (⟨[],[]⟩,2))\/
  ((jT l k).1<=2000/\∃r st Ps Ns,HJ N l k r st Ps Ns/\cM N t l top=some (if xj ⟨Ps,Ns⟩=true then(⟨Ps,Ns⟩,0)else(⟨[],[]⟩,2))):=by
 have SI:=S.Jz hbl;have hll:=S.xx;have hrk:=(hR k hkl).1;have hin:jM N l ((k:Nat):Int)=some ((min (jT l k).1 2001:Nat):Int):=uL hR SI.there (by omega) SI.sO N k hkl (by omega)
 by_cases hc:2000<(jT l k).1
 ·refine .inl ⟨hc,?_⟩;unfold cM;rw[oU hbt hbl (by omega),aA,h0,bne_self_eq_false,aW,k9 (by omega),aA,e,bJ (by omega),aW,hin,aA,bR (by omega),bK]
 refine .inr ⟨by omega,?_⟩;have hs:l[k]? =some l[k]:=aP hkl;have hpo:=(S.ok _<|cB hkl).sN;have hps:=tc hs;have hcs:jE l N k=jT l k:=qH hR SI.there N l.length k (by omega) hrk
 have hpt:(jE l N k).2<=1000*(jE l N k).1:=Ea (λi=>by
  unfold sP
  cases h:l[i]? with
  |none=>exact la _
  |some s=>exact SI.parts s (dD h)) N k
 have hI:=S.inst N k;have hp1:=w7 l N k ⟨[]⟩ 0;have hn1:=vr l N k ⟨[]⟩ 0;have hn2:=vt (ta SI) N k;rw[hcs]at hp1 hn2 hpt;obtain⟨ps,p1,p2,p3⟩:=CK (n:=l[k].aO.length) (by omega);obtain⟨⟨P,K,Q,U⟩,q1,q2,q3,q4,q5,q6⟩:=BE S SI hR hN N k ⟨[]⟩ 0 [] [] [] [] (λi=>i) ps hkl (by omega) (by show 0+41*ρ k<=5000;omega) (by rw[hcs];simp only[List.length_nil];omega) (by rw[hcs];simp only[List.length_nil];omega) rfl ⟨rfl,λi h=>by cases h⟩ (λ_ _=>rfl) (by rw[p2,hps])<|λv hv=> .inl<|p3 v hv
 dsimp only at q2 q3 q4 q5 q6;rw[List.nil_append]at q2 q3 q4;subst q2;subst q3;subst q4;have hlen:((dV l N k ⟨[]⟩ 0).flatMap<|rD l).length=((dV l N k ⟨[]⟩ 0).flatMap<|BD l).length:=by
  rw[lF,lF];congr 1;exact List.map_congr_left λe _=>by unfold rD BD;rw[eK,eK]
 have hq500:∀q∈(dV l N k ⟨[]⟩ 0).flatMap (rD l),q.length<=500:=λq hq=>by
  obtain⟨e,he,s,_,hs,n,hn,rfl⟩:=yT hq;unfold lJ;rw[eK];exact iG (List.length_filter_le _ _)<|SI.pins s hs n hn
 have hkl2:=yV l<|dV l N k ⟨[]⟩ 0
 obtain⟨st,Ps,Ns,g1,g2,g3,g4,g5,g6⟩:=El (N:=N) (by omega) (D8 S hI) (by omega) hlen hq500 q5 hN;refine⟨_,st,Ps,Ns,⟨λi hi=>Cz S hR SI.there (d:=N) (by omega) p3 i (by omega),?_,g3,g4,?_,g6⟩,?_⟩
 ·rw[<-hkl2,<-Ec];exact g2
 ·rw[<-hkl2];exact g5
 have q1':iy N l [] [] [] [] ((k:Nat):Int) ⟨[]⟩ ps=some ((dV l N k ⟨[]⟩ 0).flatMap<|w6 l,(dV l N k ⟨[]⟩ 0).flatMap<|BD l,(dV l N k ⟨[]⟩ 0).flatMap<|rD l,U):=q1;have hPl:=g3.length_eq;have hNl:=g5.length_eq;have hNr:((List.range ((dV l N k ⟨[]⟩ 0).flatMap<|BD l).length).filterMap<|v9 st.1 st.2).length<=((dV l N k ⟨[]⟩ 0).flatMap<|BD l).length:=iG (List.length_filterMap_le _ _) (by simp);unfold cM;rw[oU hbt hbl (by omega),aA,h0,bne_self_eq_false,aW,k9 (by omega),aA,e,bJ (by omega),aW,hin,aA,bJ (by omega),aW,bQ hs,aA,wh 0 (by omega),aA,lW,p1,aA,q1',aA];dsimp only;rw[g1,aA,Fj (by show Ps.length<=_;omega) (by show Ns.length<=_;omega),aA]
 cases xj ⟨Ps,Ns⟩ <;> rfl
theorem CM(hbt:bk t<=1048576)(hbl:bk l<=1048576)(hN:4398046511104<=N)(top:aN):∃x e,fT N t l top=some (x,e)/\cM N t l top=some (x,e)/\x.bB.length<=1048576/\x.aM.length<=1048576/\∀n∈x.aM,n.aU.length<=1048576/\n.aO.length<=1048576:=by
 have em:(⟨[],[]⟩:bG).bB.length<=1048576/\(⟨[],[]⟩:bG).aM.length<=1048576/\∀n∈(⟨[],[]⟩:bG).aM,n.aU.length<=1048576/\n.aO.length<=1048576:=⟨la _,la _,λn hn=>by cases hn⟩
 rcases Fm (N:=N) hbt hbl hN top with⟨h1,h2⟩|⟨h0,ht,h2⟩|⟨k,h0,S,hk,h⟩
 ·exact⟨_,_,h2,CL hbt hbl hN h1,em⟩
 ·exact⟨_,_,h2,A8 hbt hbl hN h0 ht,em⟩
 have hll:=S.xx;obtain⟨_,ρ,hR⟩:=(vq (N:=N) hbt hbl (by omega)).2 h0;obtain⟨k',s,e',hk',hkn,hkl⟩:=uI (key:=aF.Name) (l:=l) (w:=top) (by omega);have:k'=k:=by omega
 subst this;have hR2:=En (N:=N) hbt hbl hN h0 S hR hkl hk
 rcases h with⟨hbig,h2⟩|⟨hsm,I,r,st,Ps,Ns,ok,F,h2⟩
 ·rcases hR2 with⟨_,h3⟩|⟨hc,r',st',Ps,Ns,R,h3⟩
  ·exact⟨_,_,h2,h3,em⟩
  ·refine⟨_,_,h2,?_,em⟩;rw[h3,aJ];have SI:=S.Jz hbl;have hrk:=(hR k' hkl).1;have hcs:jE l N k'=jT l k':=qH hR SI.there N l.length k' (by omega) hrk;have hp1:=w7 l N k' ⟨[]⟩ 0;have hp2:=R.pp.length_eq;rw[hcs]at hp1;unfold xj;dsimp only;rw[bJ (show ¬Ps.length<=1000 by omega),Bool.false_and,Bool.and_false];simp
 ·simp only[not_or,Nat.not_lt]at hsm
  rcases hR2 with⟨hc,_⟩|⟨hc,r',st',Ps',Ns',R,h3⟩
  ·omega
  have F2:=F;obtain⟨fI,fr,xx,len,⟨up,hU⟩,L⟩:=F;subst fI;subst fr;have eP:Ps'=Ps:=sR R.ps L.ps<|R.pp.trans L.pp.symm
  have eN:Ns'=Ns:=Em L.ns R.ns<|R.np.trans<|(CJ L.Et R.Et R.root (λq hq=>Fi S N k' hq) hU.rr hU.le).symm.trans L.np.symm
  subst eP;subst eN;have hf:xj ⟨Ps',Ns'⟩=ok:=by
   rw[L.ok,<-Ag,<-L.np.any_eq,<-L.pp.any_eq];have hle:Ps'.length<=1000:=by rw[L.pp.length_eq];exact xx
   unfold xj;dsimp only;rw[bR hle,Bool.true_and]
  rw[hf]at h3
  cases ok with
  |false=>exact⟨_,_,h2,h3,em⟩
  |true=>
   have o:=A7 S F2;refine⟨_,_,h2,h3,?_⟩;exact⟨iG o.xx (by decide),iG o.E6 (by decide),λn hn=>⟨iG (o.yR n hn).2 (by decide),by rw[o.E7 n hn];exact la _⟩⟩
theorem pg{top:aN}(hbt:bk t<=1048576)(hbl:bk l<=1048576)(_htp:bk top<=1048576)(hN:4398046511104<=N):dC N t l top=some true:=by
 obtain⟨x,e,h1,h2,b1,b2,b3⟩:=CM (N:=N) hbt hbl hN top;unfold dC;rw[h1,aA,h2,aA,mE hbt,aA,pB hbt,aA,BEq.rfl,bK,(vq (N:=N) hbt hbl (by omega)).1,aA,oU hbt hbl (by omega),aA];simp only[BEq.rfl,Bool.true_and,bK];rw[Cx b1 b2 b3,aA,DL (by omega)];rfl
end
end Go.Gk
