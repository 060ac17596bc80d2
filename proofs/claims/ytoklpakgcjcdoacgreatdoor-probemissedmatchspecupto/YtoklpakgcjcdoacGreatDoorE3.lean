/-
  Helping texts: plain functions and plain laws. No statement of the seed is proved here.
-/
import Derived.Test.YtoklpakgcjcdoacGreatDoorE1
import Derived.Test.YtoklpakgcjcdoacGreatDoorE2
import Derived.Test.YtoklpakgcjcdoacGreatDoorA2
set_option linter.unusedVariables false
set_option linter.unusedSimpArgs false
set_option linter.unusedSectionVars false
namespace Go.Gk
open Go IntKind Classical
def EI(r:Nat->Nat)(p q:Nat):Nat->Nat:=λx=>if r x=q then p else r x
theorem oq.rel{r:Nat->Nat}{E:Z (Nat×Nat)}(h:oq r E)(i k:Nat):oq (EI r (r i)<|r k) (E++[(i,k)]):=λp hp=>by
 rcases dJ.1 hp with hp|hp
 ·unfold EI;rw[h p hp]
 ·simp at hp;subst hp;unfold EI;dsimp only;rw[aF rfl];split <;> rfl
theorem yT.rel{n:Nat}{r:Nat->Nat}{E:Z (Nat×Nat)}(h:yT n r E){i k:Nat}(hi:i<n)(hk:k<n):yT n (EI r (r i)<|r k) (E++[(i,k)]):=λS hS x y hx hy hr hSx=>by
 have hE:∀p∈E,S p.1↔S p.2:=λp hp=>hS p<|List.mem_append_left _ hp
 have hik:S i↔S k:=hS (i,k) (by simp);have key:=h S hE;unfold EI at hr
 by_cases h1:r x=r y
 ·exact key x y hx hy h1 hSx
 ·by_cases h2:r x=r k
  ·rw[aF h2]at hr
   by_cases h3:r y=r k
   ·exact absurd (h2.trans h3.symm) h1
   ·rw[aH h3]at hr;exact key i y hi hy hr<|hik.2<|key x k hx hk h2 hSx
  ·rw[aH h2]at hr
   by_cases h3:r y=r k
   ·rw[aF h3]at hr;exact key k y hk hy h3.symm<|hik.1<|key x i hx hi hr hSx
   ·rw[aH h3]at hr;exact absurd hr h1
def I4(t:Nat)(u:Z Int)(r:Nat->Nat):Prop:=u=(List.range t).map (λi=>((r i:Nat):Int))
theorem I4.len{t:Nat}{u:Z Int}{r:Nat->Nat}(h:I4 t u r):u.length=t:=by rw[h];simp
theorem I4.at{t:Nat}{u:Z Int}{r:Nat->Nat}(h:I4 t u r){i:Nat}(hi:i<t):u[i]? =some ((r i:Nat):Int):=by rw[h,iE,List.getElem?_range hi];rfl
structure C0 (t:Nat) (L:Nat->Nat->Prop) (r:Nat->Nat):Prop where
 co:∀i j,L i j->r i=r j
 fi:∀S:Nat->Prop,(∀i j,L i j->(S i↔S j))->∀i j,i<t->j<t->r i=r j->S i->S j
theorem C0.uniq{t:Nat}{L:Nat->Nat->Prop}{r1 r2:Nat->Nat}(h1:C0 t L r1)(h2:C0 t L r2){i j:Nat}(hi:i<t)(hj:j<t):r1 i=r1 j↔r2 i=r2 j:=by
 have key:∀{r1 r2:Nat->Nat},C0 t L r1->C0 t L r2->r1 i=r1 j->r2 i=r2 j:=λ{r1 r2}h1 h2 e=>
  (h1.fi (λx=>r2 i=r2 x) (λa b hab=>by rw[h2.co a b hab]) i j hi hj e) rfl
 exact⟨key h1 h2,key h2 h1⟩
def Av(l:Z Test)(k:Nat)(t:Test):Prop:=ik t.B t.A<=0\/(0<k/\((l[k - 1]?).elim false λu=>decide<|qC t u<=0)=true)
theorem NT{a:gM}{l:Z Test}{k:Nat}{t:Test}(hx:l[k]? =some t):qf a l k=if jf a t.A<0\/jf a t.B<0 then some 9 else if Av l k t then some 8 else none:=by
 unfold qf Av
 grind
section
variable {N:Nat}
theorem GA(p q:eG):iR N p q=some (decide<|zT p q):=by
 unfold iR;congr 1;rw[jd,dF,jc,dB,Cu];rfl
theorem GB(t u:Test):jA N t u=some (decide<|QN t u):=by
 unfold jA;simp only[GA,aB]
 grind [zT,QN,bS,aB,cA]
theorem GC{a:gM}(hl:a.bO.length<=1000000)(p:eG)(hN:ns N):fE N a p=some (jf a p):=by
 refine XL ?_;unfold fE;refine WO (Xv (n:=a.bO.length) (λs=>s) (λk _=>∀(j:Nat)x,j<k->a.bO[j]? =some x->decide (lj x=p)=false) (Go:=λ_=>jf a p = -1) (Rt:=λr=>r=jf a p) ?_ ?_ (cP _) rfl (λj x hj=>by omega) (by omega)) ?_
 ·rintro k s hk e hI;subst e;rw[iO hk,aP];have hx:a.bO[k]? =some a.bO[k]:=aM hk;refine IT (x:=decide<|lj a.bO[k]=p) ?_<|Xn (λh=>XR ?_)<|λh=>W8 ⟨bF (by omega),λj x hj hjx=>?_⟩
  ·rw[cB hx,aB,aB,MA,MA]
   grind [bS,QD,cA]
  ·exact(Kb hx h hI).symm
  grind
 ·grind [Xd,jf,Ka,List.any_eq_false,eE,bR]
 intro o ho;exact Xf ho (λs hs=>IS hs.symm)<|λr hr=>IS hr
theorem C1{a:gM}{e:Int}(he:e≠0)(h:eH N a=some e)(l:Z Test):dA N a l=some e:=by
 grind [dA,aB]
theorem DV{a:gM}(ha:a.bO.length<=1000000)(h:eH N a=some 0){l:Z Test}(hl:l.length<=1048576)(hN:ns N):dA N a l=some (sm a l):=by
 refine XL ?_;unfold dA;refine IT h ?_;rw[bne_self_eq_false,aR];unfold sm
 by_cases h2:2000<l.length
 ·grind [bS,IS]
 rw[cA (show ¬(l.length:Int)>2000 by omega),aR,aH h2];have hA:∀p,fE N a p=some (jf a p):=λp=>GC ha p hN;refine WO (Xv (n:=l.length) (λs=>s) (λk _=>∀j,j<k->qf a l j=none) (Go:=λ_=>rY l.length (qf a l)=none) (Rt:=λr=>rY l.length (qf a l)=some r) ?_ ?_ (cP _) rfl (λj hj=>by omega) (by omega)) ?_
 ·rintro k s hk e hI;subst e;rw[iO hk,aP];have hx:l[k]? =some l[k]:=aM hk;have hte:=NT (a:=a) hx;generalize l[k]=t at hx hte;refine IT (x:=decide<|jf a t.A<0\/jf a t.B<0) ?_<|Xn (λh1=>XR ?_)<|λh1=>?_
  ·grind [cB,aB,jf,bS,cA]
  ·grind [kn]
  rw[aH<|of_decide_eq_false h1]at hte;refine IT (x:=decide<|Av l k t) ?_<|Xn (λh2=>XR ?_)<|λh2=>W8 ⟨bF (by omega),λj hj=>?_⟩
  ·simp only[cB hx,aB,GA,GB];have hle:ik t.B t.A<=0↔¬zT t.A t.B:=by rw[<-qT];omega
   by_cases q:zT t.A t.B
   ·rw[bS q,lq,aR]
    by_cases h0:0<k
    ·have hp:k - 1<l.length:=by omega
     have hy:l[k - 1]? =some l[k - 1]:=aM hp;have hgt:qC t l[k - 1]<=0↔¬QN l[k - 1] t:=by rw[<-K2];omega
     rw[bS (show((k:Nat):Int)>0 by omega),aP,iL h0 (by omega),cB hy,aB]
     grind [Bool.not_eq_true',decide_eq_false_iff_not,Av,hle]
    grind [Av,hle,cA]
   grind [Av,hle,cA,ka,bS]
  ·grind [kn]
  grind
 ·grind [Xd,km]
 intro o ho;exact Xf ho (λ_ h=>IS (by rw[h];rfl))<|λr hr=>IS (by rw[hr];rfl)
end
def GM(t:Nat)(L:Nat->Nat->Prop)(op:Nat->Prop)(done:Nat->Nat->Prop)(u:Z Int):Prop:=
 ∃r E,I4 t u r/\oq r E/\yT t r E/\(∀p∈E,(L p.1 p.2\/L p.2 p.1)/\¬op p.1/\¬op p.2)/\∀i j,done i j->¬op i->¬op j->(i,j)∈E\/(j,i)∈E
theorem GM.mono{t:Nat}{L:Nat->Nat->Prop}{op:Nat->Prop}{d d':Nat->Nat->Prop}{u:Z Int}(h:GM t L op d u)(hd:∀i j,d' i j->d i j):GM t L op d' u:=by
 obtain⟨r,E,h1,h2,h3,h4,h5⟩:=h;exact⟨r,E,h1,h2,h3,h4,λi j hij=>h5 i j<|hd i j hij⟩
theorem GM.skip{t:Nat}{L:Nat->Nat->Prop}{op:Nat->Prop}{d:Nat->Nat->Prop}{u:Z Int}(h:GM t L op d u){i k:Nat}(ho:op i\/op k):GM t L op (λa b=>d a b\/(a=i/\b=k)) u:=by
 obtain⟨r,E,h1,h2,h3,h4,h5⟩:=h;refine⟨r,E,h1,h2,h3,h4,λa b hab ha hb=>?_⟩
 grind
section
variable {N:Nat}
theorem GD{t:Nat}{u:Z Int}{r:Nat->Nat}(h:I4 t u r){i k:Nat}(hi:i<t)(hk:k<t)(ht:t<N)(ht2:t<=1000000000):
  Ok (gO N u ((i:Nat):Int) (k:Int)) (λu'=>I4 t u'<|EI r (r i)<|r k):=by
 have hl:=h.len;unfold gO;refine WV (h.at hi)<|WV (h.at hk) ?_
 refine WO (Xv (n:=t) (λst=>st.2) (λj st=>st.1=GL t (λx=>if x<j then((EI r (r i) (r k) x:Nat):Int)else((r x:Nat):Int))) (Go:=λst=>I4 t st.1<|EI r (r i)<|r k) (Rt:=λ_=>False) ?_ ?_ (cP _) rfl ?_ ht) ?_
 ·rintro j⟨u1,jj⟩hj e hI;dsimp only at e hI ⊢;subst e;subst hI;rw[Au,iO hj,aP];have hx:=BW (n:=t) (f:=λx=>if x<j then((EI r (r i) (r k) x:Nat):Int)else((r x:Nat):Int)) hj;rw[aH<|Nat.lt_irrefl j]at hx;refine WV hx ?_;refine WO (P:=λs=>s=GL t (λx=>if x<j+1 then((EI r (r i) (r k) x:Nat):Int)else((r x:Nat):Int))) (Xn (λhb=>WV hx<|IS ?_)<|λhb=>IS ?_)<|λs hs=>W8 ⟨bF (by omega),hs⟩
  ·have hb:r j=r k:=by grind
   rw[cK]
   grind [EX,EI]
  grind [lG,EI]
 ·rintro⟨u1,jj⟩e hI;dsimp only at e hI ⊢;subst e;subst hI;rw[Au,l4,aR];refine Xd ?_;show GL t _=(List.range t).map _;exact lG λx hx=>by rw[aF hx]
 ·dsimp only;rw[show u=GL t (λi=>((r i:Nat):Int))from h];rfl
 intro o ho;exact Xf ho (λs hs=>IS hs)<|λr hr=>hr.elim
theorem GM.join{t:Nat}{L:Nat->Nat->Prop}{op:Nat->Prop}{d:Nat->Nat->Prop}{u:Z Int}(h:GM t L op d u){i k:Nat}(hi:i<t)(hk:k<t)(ht:t<N)(ht2:t<=1000000000)(hL:L i k)(hoi:¬op i)(hok:¬op k):
  Ok (gO N u (i:Int) (k:Int)) (GM t L op<|λa b=>d a b\/(a=i/\b=k)):=by
 obtain⟨r,E,h1,h2,h3,h4,h5⟩:=h;refine(GD h1 hi hk ht ht2).mono λu' hu'=>⟨_,_,hu',h2.rel i k,h3.rel hi hk,λp hp=>?_,λa b hab ha hb=>?_⟩
 ·grind
 grind
theorem GM.tW{t:Nat}{L:Nat->Nat->Prop}{op:Nat->Prop}{d:Nat->Nat->Prop}{u:Z Int}(h:GM t L op d u){i k:Nat}(hi:i<t)(hk:k<t)(ht:t<N)(ht2:t<=1000000000)(hL:L i k)(hoi:¬op i)(hok:¬op k):
  Ok (gO N u (k:Int) (i:Int)) (GM t L op<|λa b=>d a b\/(a=i/\b=k)):=by
 obtain⟨r,E,h1,h2,h3,h4,h5⟩:=h;refine(GD h1 hk hi ht ht2).mono λu' hu'=>⟨_,_,hu',h2.rel k i,h3.rel hk hi,λp hp=>?_,λa b hab ha hb=>?_⟩
 ·grind
 grind
theorem I5{bs:Z bU}{n m:Nat}{h:dZ}{rs:Z (Z aG)}(hh:F9 bs n m h)(hr:rs.length=n)(hn:n+m<=1000000000):gl N rs h=some ((eB n h:Nat):Int)/\eB n h<n+m:=by
 obtain⟨k,e,h1,h2⟩:=hh.num
 grind [gl,eB,cK,wrap_add]
end
structure Ma (bs:Z bU) (pcs:Z aD) (fl:Z bL) (ls:Z cX) (r2:Nat->Nat) (j:Nat) (W:Z Int):Prop where
 len:W.length=j
 no:∀i l,i<j->ls[i]? =some l->lT bs pcs fl l=none->W[i]? =some (-1)
 yes:∀i l v,i<j->ls[i]? =some l->lT bs pcs fl l=some v->W[i]? =some ((r2 v:Nat):Int)
theorem Ma.conn{bs:Z bU}{pcs:Z aD}{fl:Z bL}{ls:Z cX}{r2:Nat->Nat}{W:Z Int}(h:Ma bs pcs fl ls r2 ls.length W){i k:Nat}{x y:cX}(hx:ls[i]? =some x)(hy:ls[k]? =some y):
  jg W i k=true↔∃u v,lT bs pcs fl x=some u/\lT bs pcs fl y=some v/\r2 u=r2 v:=by
 have hi:=(bR.1 hx).1;have hk:=(bR.1 hy).1;unfold jg;rw[dB,dF,beq_iff_eq,List.getD_eq_getElem?_getD,List.getD_eq_getElem?_getD]
 cases hn:lT bs pcs fl x with
 |none=>
  rw[h.no i x hi hx hn,Option.getD_some];simp
 |some u=>
  rw[h.yes i x u hi hx hn,Option.getD_some]
  cases hm:lT bs pcs fl y with
  |none=>
   rw[h.no k y hk hy hm,Option.getD_some];simp
  |some v=>
   rw[h.yes k y v hk hy hm,Option.getD_some]
   grind
theorem C2{bs:Z bU}{pcs:Z aD}{fl:Z bL}{l:cX}{v:Nat}(h:lT bs pcs fl l=some v):v<pcs.length+bs.length:=by
 unfold lT at h
 cases hh:rF bs pcs l with
 |none=>grind
 |some q=>
  rw[hh,Option.bind_some]at h;split at h
  ·cases h
  ·injection h with h
   obtain⟨k,e,h1,h2⟩:=(DF hh).num
   grind [eB]
section
variable {N:Nat}
theorem PB{bs:Z bU}{pcs:Z aD}{ls:Z cX}{fl:Z bL}(hfl:SF bs pcs.length bs.length fl)(hfn:fl.length<=1073741824)(hb:lF bs)(hp:pcs.length<=1000000)(hr:∀p∈pcs,p.dY.length<=1000000/\∀x∈p.dY,x.X0<x.X1)(hl:ls.length<=1000000)(hd:∀l:cX,∀b∈bs,∀p∈pcs,nE l b=true->mz l p=true->False)(hN:ns N):
  ∃r2 W,fQ N bs ls (pcs.map aD.cM) (pcs.map aD.dY) (cU bs pcs) fl=some W/\C0 (pcs.length+bs.length) (QI pcs.length (cU bs pcs) fl) r2/\Ma bs pcs fl ls r2 ls.length W:=by
 suffices h:Ok (fQ N bs ls (pcs.map aD.cM) (pcs.map aD.dY) (cU bs pcs) fl) (λW=>∃r2,C0 (pcs.length+bs.length) (QI pcs.length (cU bs pcs) fl) r2/\Ma bs pcs fl ls r2 ls.length W)by
  obtain⟨W,h1,r2,h2,h3⟩:=h
  grind
 have hbl:=hb.len;have hrl:(pcs.map aD.dY).length=pcs.length:=dQ _;have hnum:∀{h:dZ},F9 bs pcs.length bs.length h->gl N (pcs.map aD.dY) h=some ((eB pcs.length h:Nat):Int)/\eB pcs.length h<pcs.length+bs.length:=λhh=>I5 hh hrl (by omega);unfold fQ;rw[hrl,wrap_add (by omega)];refine IT (oC false (by omega)) ?_
 refine WO (Xv (n:=fl.length) (λst=>st.2) (λq st=>st.1.length=pcs.length+bs.length/\∀v,v<pcs.length+bs.length->st.1[v]? =some (decide (mB pcs.length (fl.take q) v)))
  (Go:=λst=>st.1.length=pcs.length+bs.length/\∀v,v<pcs.length+bs.length->st.1[v]? =some (decide (mB pcs.length fl v))) (Rt:=λ_=>False) ?_ ?_ (cP _) rfl ⟨List.length_replicate,λv hv=>?_⟩ (by omega)) ?_
 ·rintro q⟨om,qq⟩hq e⟨hI1,hI2⟩;dsimp only at e hI1 hI2 ⊢;subst e;have hx:fl[q]? =some fl[q]:=aM hq;have hts:=dM hq;rw[iO hq,aP];refine WV hx<|WO (P:=λs=>s.length=pcs.length+bs.length/\∀v,v<pcs.length+bs.length->s[v]? =some (decide<|mB pcs.length (fl.take<|q+1) v)) (Xn (λho=>?_)<|λho=>IS ⟨hI1,λv hv=>?_⟩)<|λs hs=>W8 ⟨bF (by omega),hs⟩
  ·obtain⟨c1,c2⟩:=hnum<|hfl.op _ (cH hq) ho
   refine WV hx<|IT c1<|WV (hI2 _ c2)<|IS ⟨by grind,λv hv=>?_⟩
   rw[cK,hts]
   by_cases e:eB pcs.length fl[q].dZ=v
   ·subst e;rw[List.getElem?_set_self (by omega)];congr 1;exact(bS ⟨fl[q],List.mem_append_right _<|mg.2 rfl,ho,rfl⟩).symm
   ·rw[List.getElem?_set_ne e,hI2 v hv];congr 1;rw[decide_eq_decide];constructor
    ·rintro⟨x,hx,h1,h2⟩;exact⟨x,List.mem_append_left _ hx,h1,h2⟩
    ·rintro⟨x,hx,h1,h2⟩
     rcases dJ.1 hx with hx|hx
     ·exact⟨x,hx,h1,h2⟩
     ·rw[mg]at hx;subst hx;exact absurd h2 e
  ·rw[hI2 v hv,hts];congr 1;rw[decide_eq_decide];constructor
   ·rintro⟨x,hx,h1,h2⟩;exact⟨x,List.mem_append_left _ hx,h1,h2⟩
   ·rintro⟨x,hx,h1,h2⟩
    rcases dJ.1 hx with hx|hx
    ·exact⟨x,hx,h1,h2⟩
    ·rw[mg]at hx;subst hx;rw[ho]at h1;cases h1
 ·rintro⟨om,qq⟩e hI;dsimp only at e hI ⊢;subst e;rw[l4,aR];rw[eD]at hI;exact Xd hI
 ·rw[List.getElem?_replicate,aF hv];congr 1;exact(cA (λ⟨x,hx,_⟩=>by simp at hx)).symm
 intro o ho;refine Xf ho ?_<|λr hr=>hr.elim
 rintro⟨om,qq⟩⟨hol,hom⟩;dsimp only at hol hom ⊢;rw[hol];refine IT (oC 0 (by omega)) ?_;refine WO (Xv (n:=pcs.length+bs.length) (λst=>st.2) (λq st=>st.1=GL (pcs.length+bs.length) (λx=>if x<q then((x:Nat):Int)else 0)) (Go:=λst=>I4 (pcs.length+bs.length) st.1<|λi=>i) (Rt:=λ_=>False) ?_ ?_ (cP _) rfl ?_ (by omega)) ?_
 ·rintro q⟨u,qq⟩hq e hI;dsimp only at e hI ⊢;subst e;subst hI;rw[Au,iO hq,aP];refine WV (BW hq)<|W8 ⟨bF (by omega),?_⟩
  dsimp only;rw[cK];refine EX (λ_=>by rw[aF (by omega)])<|λx _ hne=>?_
  by_cases h1:x<q
  ·rw[aF h1,aF (by omega)]
  ·rw[aH h1,aH (by omega)]
 ·rintro⟨u,qq⟩e hI;dsimp only at e hI ⊢;subst e;subst hI;rw[Au,l4,aR];refine Xd ?_;exact lG λx hx=>by rw[aF hx]
 ·dsimp only;rw[K0];exact lG λx _=>by rw[aH (by omega)]
 intro o ho;refine Xf ho ?_<|λr hr=>hr.elim
 rintro⟨u0,qq0⟩h0;dsimp only at h0 ⊢;have htl:(cU bs pcs).length=bs.length:=by unfold cU;simp
 have hto:=zO (bs:=bs) (pcs:=pcs) (by omega);have omT:∀{v},v<pcs.length+bs.length->mB pcs.length fl v->om[v]? =some true:=λhv h=>by rw[hom _ hv,bS h]
 have omF:∀{v},v<pcs.length+bs.length->¬mB pcs.length fl v->om[v]? =some false:=λhv h=>by rw[hom _ hv,cA h]
 refine WO (Xv (n:=bs.length) (λst=>st.2) (λq st=>GM (pcs.length+bs.length) (Jb pcs.length (cU bs pcs) fl) (mB pcs.length fl) (λa b=>∃k l,k<q/\(cU bs pcs)[k]? =some l/\((a:Nat):Int)∈l/\b=pcs.length+k) st.1)
  (Go:=λst=>GM (pcs.length+bs.length) (Jb pcs.length (cU bs pcs) fl) (mB pcs.length fl) (λa b=>Lk pcs.length (cU bs pcs) a b) st.1) (Rt:=λ_=>False) ?_ ?_ (cP _) rfl
  ⟨_,_,h0,oq.id,yT.id _,λp hp=>(by cases hp),λi j⟨k,l,hk,_⟩=>by omega⟩ (by omega)) ?_
 ·rintro q⟨u,qq⟩hq e hI;dsimp only at e hI ⊢;subst e;rw[iO hq,aP];have hqx:(cU bs pcs)[q]? =some ((cU bs pcs)[q]'(by omega)):=aM _;have hqm:(cU bs pcs)[q]'(by omega)∈cU bs pcs:=cH _;generalize (cU bs pcs)[q]'(by omega)=T at hqx hqm;obtain⟨hl1,hl2⟩:=hto _ hqm;have hT:gY N (cU bs pcs) ((q:Nat):Int)=some T:=by
   unfold gY;rw[cB hqx];rfl
  refine IT hT ?_;rw[wrap_add (by omega)]
  refine WO (Xv (n:=T.length) (λst=>st.2) (λt st=>GM (pcs.length+bs.length) (Jb pcs.length (cU bs pcs) fl) (mB pcs.length fl) (λa b=>(∃k l,k<q/\(cU bs pcs)[k]? =some l/\((a:Nat):Int)∈l/\b=pcs.length+k)\/(((a:Nat):Int)∈T.take t/\b=pcs.length+q)) st.1)
   (Go:=λst=>GM (pcs.length+bs.length) (Jb pcs.length (cU bs pcs) fl) (mB pcs.length fl) (λa b=>(∃k l,k<q/\(cU bs pcs)[k]? =some l/\((a:Nat):Int)∈l/\b=pcs.length+k)\/(((a:Nat):Int)∈T/\b=pcs.length+q)) st.1) (Rt:=λ_=>False) ?_ ?_ (cP _) rfl
   (hI.mono λi j h=>by rcases h with h|⟨h,_⟩;exact h;simp at h) (by omega)) ?_
  ·rintro t⟨u,tt⟩ht e hJ;dsimp only at e hJ ⊢;subst e;rw[iO ht,aP];have htx:T[t]? =some T[t]:=aM ht;obtain⟨i,hi,e⟩:=hl2 _<|cH ht
   have hLk:Jb pcs.length (cU bs pcs) fl i (pcs.length+q):= .inl ⟨q,_,hqx,by rw[<-e];exact cH ht,rfl⟩;have hfin:∀s,GM (pcs.length+bs.length) (Jb pcs.length (cU bs pcs) fl) (mB pcs.length fl) (λa b=>((∃k l,k<q/\(cU bs pcs)[k]? =some l/\((a:Nat):Int)∈l/\b=pcs.length+k)\/(((a:Nat):Int)∈T.take t/\b=pcs.length+q))\/(a=i/\b=pcs.length+q)) s->
     GM (pcs.length+bs.length) (Jb pcs.length (cU bs pcs) fl) (mB pcs.length fl) (λa b=>(∃k l,k<q/\(cU bs pcs)[k]? =some l/\((a:Nat):Int)∈l/\b=pcs.length+k)\/(((a:Nat):Int)∈T.take (t+1)/\b=pcs.length+q)) s:=λs hs=>hs.mono λa b h=>by
    rw[dM ht]at h
    rcases h with h|⟨h,hb⟩
    ·exact .inl<|.inl h
    ·rcases dJ.1 h with h|h
     ·exact .inl<|.inr ⟨h,hb⟩
     ·rw[mg,e]at h;exact .inr ⟨by omega,hb⟩
   by_cases hoq:mB pcs.length fl (pcs.length+q)
   ·refine IT (x:=false) (by rw[cB<|omT (by omega) hoq];rfl) ?_;rw[aR];exact W8 ⟨bF (by omega),hfin _<|hJ.skip<|.inr hoq⟩
   by_cases hoi:mB pcs.length fl i
   ·refine IT (x:=false) (by rw[cB<|omF (by omega) hoq,aB,ka,aP,cB htx,aB,e,cB<|omT (by omega) hoi];rfl) ?_;rw[aR];exact W8 ⟨bF (by omega),hfin _<|hJ.skip<|.inl hoi⟩
   ·refine IT (x:=true) (by rw[cB<|omF (by omega) hoq,aB,ka,aP,cB htx,aB,e,cB<|omF (by omega) hoi];rfl) ?_;rw[aP];refine WO (WV htx ?_)<|λs hs=>W8 ⟨bF (by omega),hfin s hs⟩
    rw[e];exact WO (hJ.tW (by omega) (by omega) (by omega) (by omega) hLk hoi hoq)<|λs hs=>IS hs
  ·rintro⟨u,tt⟩e hJ;dsimp only at e hJ ⊢;subst e;rw[l4,aR];rw[eD]at hJ;exact Xd hJ
  intro o ho;refine Xf ho (λst hst=>W8 ⟨bF (by omega),hst.mono λa b⟨k,l,hk,h1,h2,h3⟩=>?_⟩)<|λr hr=>hr.elim
  by_cases hkq:k<q
  ·exact .inl ⟨k,l,hkq,h1,h2,h3⟩
  ·have:k=q:=by omega
   subst this;rw[hqx]at h1;injection h1 with h1;subst h1
   exact .inr ⟨h2,h3⟩
 ·rintro⟨u,qq⟩e hI;dsimp only at e hI ⊢;subst e;rw[l4,aR];exact Xd<|hI.mono λa b⟨k,l,h1,h2,h3⟩=>⟨k,l,by have:=(bR.1 h1).1;omega,h1,h2,h3⟩
 intro o ho;refine Xf ho ?_<|λr hr=>hr.elim
 rintro⟨u1,qq1⟩h1;dsimp only at h1 ⊢
 refine WO (Xv (n:=fl.length) (λst=>st.2) (λq st=>GM (pcs.length+bs.length) (Jb pcs.length (cU bs pcs) fl) (mB pcs.length fl) (λa b=>Lk pcs.length (cU bs pcs) a b\/∃x∈fl.take q,x.Open=false/\x.A=((a:Nat):Int)/\x.B=((b:Nat):Int)) st.1)
  (Go:=λst=>GM (pcs.length+bs.length) (Jb pcs.length (cU bs pcs) fl) (mB pcs.length fl) (Jb pcs.length (cU bs pcs) fl) st.1) (Rt:=λ_=>False) ?_ ?_ (cP _) rfl
  (h1.mono λi j h=>h.elim id (λ⟨x,hx,_⟩=>by simp at hx)) (by omega)) ?_
 ·rintro q⟨u,qq⟩hq e hI;dsimp only at e hI ⊢;subst e;rw[iO hq,aP];have hx:fl[q]? =some fl[q]:=aM hq;have hxm:fl[q]∈fl:=cH hq;have hts:=dM hq;generalize fl[q]=x at hx hxm hts
  cases ho:x.Open with
  |true=>
   refine IT (x:=false) (by rw[cB hx,aB,ho];rfl) ?_;rw[aR];refine W8 ⟨bF (by omega),hI.mono λa b h=>?_⟩;rw[hts]at h
   rcases h with h|⟨y,hy,g1,g2⟩
   ·exact .inl h
   ·rcases dJ.1 hy with hy|hy
    ·exact .inr ⟨y,hy,g1,g2⟩
    ·rw[mg]at hy;subst hy;rw[ho]at g1;cases g1
  |false=>
   obtain⟨i,k,e1,e2,e3,e4⟩:=hfl.br _ hxm ho;have hLk:Jb pcs.length (cU bs pcs) fl i k:= .inr ⟨x,hxm,ho,e1,e2⟩;have hfin:∀s,GM (pcs.length+bs.length) (Jb pcs.length (cU bs pcs) fl) (mB pcs.length fl) (λa b=>(Lk pcs.length (cU bs pcs) a b\/∃x∈fl.take q,x.Open=false/\x.A=((a:Nat):Int)/\x.B=((b:Nat):Int))\/(a=i/\b=k)) s->
     GM (pcs.length+bs.length) (Jb pcs.length (cU bs pcs) fl) (mB pcs.length fl) (λa b=>Lk pcs.length (cU bs pcs) a b\/∃x∈fl.take (q+1),x.Open=false/\x.A=((a:Nat):Int)/\x.B=((b:Nat):Int)) s:=λs hs=>hs.mono λa b h=>by
    rw[hts]at h
    rcases h with h|⟨y,hy,g1,g2,g3⟩
    ·exact .inl<|.inl h
    ·rcases dJ.1 hy with hy|hy
     ·exact .inl<|.inr ⟨y,hy,g1,g2,g3⟩
     ·rw[mg]at hy;subst hy;rw[e1]at g2;rw[e2]at g3;exact .inr ⟨by omega,by omega⟩
   by_cases hoi:mB pcs.length fl i
   ·refine IT (x:=false) (by rw[cB hx,aB,ho,ka,aP,aB,e1,cB<|omT (by omega) hoi];rfl) ?_;rw[aR];exact W8 ⟨bF (by omega),hfin _<|hI.skip<|.inl hoi⟩
   by_cases hok:mB pcs.length fl k
   ·refine IT (x:=false) (by rw[cB hx,aB,ho,ka,aP,aB,e1,cB<|omF (by omega) hoi,aB,ka,aP,aB,e2,cB<|omT (by omega) hok];rfl) ?_;rw[aR];exact W8 ⟨bF (by omega),hfin _<|hI.skip<|.inr hok⟩
   ·refine IT (x:=true) (by rw[cB hx,aB,ho,ka,aP,aB,e1,cB<|omF (by omega) hoi,aB,ka,aP,aB,e2,cB<|omF (by omega) hok];rfl) ?_;rw[aP];refine WO (WV hx<|WV hx ?_)<|λs hs=>W8 ⟨bF (by omega),hfin s hs⟩
    rw[e1,e2];exact WO (hI.join (by omega) (by omega) (by omega) (by omega) hLk hoi hok)<|λs hs=>IS hs
 ·rintro⟨u,qq⟩e hI;dsimp only at e hI ⊢;subst e;rw[l4,aR];rw[eD]at hI;exact Xd hI
 intro o ho;refine Xf ho ?_<|λr hr=>hr.elim
 rintro⟨u2,qq2⟩⟨r2,E,v1,v2,v3,v4,v5⟩;dsimp only at v1 ⊢;have hC:C0 (pcs.length+bs.length) (QI pcs.length (cU bs pcs) fl) r2:=
  ⟨λi j h=>(v5 i j h.1 h.2.1 h.2.2).elim (λh=>v2 (i,j) h) (λh=>(v2 (j,i) h).symm),λS hS i j hi hj=>v3 S (λp hp=>by
   obtain⟨g1,g2,g3⟩:=v4 p hp
   rcases g1 with g1|g1
   ·exact hS p.1 p.2 ⟨g1,g2,g3⟩
   ·exact(hS p.2 p.1 ⟨g1,g3,g2⟩).symm) i j hi hj⟩
 refine WO (Xv (n:=ls.length) (λst=>st.2) (λj st=>Ma bs pcs fl ls r2 j st.1) (Go:=λst=>Ma bs pcs fl ls r2 ls.length st.1) (Rt:=λ_=>False) ?_ ?_ (cP _) rfl ⟨rfl,λi l h=>by omega,λi l v h=>by omega⟩ (by omega)) ?_
 ·rintro j⟨W,jj⟩hj e I;dsimp only at e I ⊢;subst e;rw[iO hj,aP];have hx:ls[j]? =some ls[j]:=aM hj;have hWl:=I.len;have push:∀(c:Int),(lT bs pcs fl ls[j]=none->c = -1)->(∀v,lT bs pcs fl ls[j]=some v->c=((r2 v:Nat):Int))->Ma bs pcs fl ls r2 (j+1) (W++[c]):=λc g1 g2=>by
   have hlast:(W++[c])[j]? =some c:=by rw[ku (by omega),hWl];simp
   have hold:∀i,i<j->(W++[c])[i]? =W[i]? :=λi hi=>kM (by omega);refine⟨by rw[eC,hWl];rfl,λi l hi hil hn=>?_,λi l v hi hil hs=>?_⟩
   ·by_cases e:i=j
    ·subst e;rw[hx]at hil;injection hil with hil;subst hil;rw[hlast,g1 hn]
    ·rw[hold i (by omega)];exact I.no i l (by omega) hil hn
   ·by_cases e:i=j
    ·subst e;rw[hx]at hil;injection hil with hil;subst hil;rw[hlast,g2 v hs]
    ·rw[hold i (by omega)];exact I.yes i l v (by omega) hil hs
  refine WV hx<|IT (HU hb hp hr ls[j] hN) ?_
  rw[MW<|hd ls[j]];dsimp only
  cases hh:rF bs pcs ls[j]with
  |none=>
   refine IT (x:=true) rfl ?_;rw[aP];refine WO (XC (by simp only[eN,List.length_nil];omega)<|IS rfl)<|λs hs=>W8 ⟨bF (by omega),?_⟩
   dsimp only;rw[<-hs];exact push _ (λ_=>rfl) (λv hv=>by unfold lT at hv;rw[hh]at hv;cases hv)
  |some h=>
   obtain⟨c1,c2⟩:=hnum<|DF hh
   rw[Option.getD_some,Option.isSome_some]
   by_cases hop:mB pcs.length fl (eB pcs.length h)
   ·refine IT (x:=true) (by rw[lq,aR,c1,aB,cB<|omT c2 hop];rfl) ?_;rw[aP];refine WO (XC (by simp only[eN,List.length_nil];omega)<|IS rfl)<|λs hs=>W8 ⟨bF (by omega),?_⟩
    dsimp only;rw[<-hs];exact push _ (λ_=>rfl) (λv hv=>by unfold lT at hv;rw[hh,Option.bind_some,aF hop]at hv;cases hv)
   ·refine IT (x:=false) (by rw[lq,aR,c1,aB,cB<|omF c2 hop];rfl) ?_;rw[aR];refine WO (IT c1<|WV (v1.at c2)<|XC (by simp only[eN,List.length_nil];omega)<|IS rfl)<|λs hs=>W8 ⟨bF (by omega),?_⟩
    dsimp only;rw[<-hs];refine push _ (λhn=>?_)<|λv hv=>?_
    ·unfold lT at hn;rw[hh,Option.bind_some,aH hop]at hn;cases hn
    ·unfold lT at hv;rw[hh,Option.bind_some,aH hop]at hv;injection hv with hv;rw[hv]
 ·rintro⟨W,jj⟩e I;dsimp only at e I ⊢;subst e;rw[l4,aR];exact Xd I
 intro o ho;exact Xf ho (λst hst=>IS ⟨r2,hC,hst⟩)<|λr hr=>hr.elim
end
section
variable {N:Nat}{a:gM}{kb:Z (Z aA)}{cI:Z (Z (Z aA))}{r:Nat->Nat}{gs:Z bZ}{ofP ofB eY:Z Int}{eT:Z dZ}
theorem Mb(b:iB a kb cI r gs ofP ofB eY eT){fl:Z bL}(h0:pq a.aN (bP 0 cI).length fl=0)(hN:ns N):
  ∃W,fQ N a.aN a.bO ((bP 0 cI).map aD.cM) ((bP 0 cI).map aD.dY) (cU a.aN<|bP 0 cI) fl=some W/\W.length=a.bO.length/\∀i k,i<a.bO.length->k<a.bO.length->jg W i k=jg (tV N a cI eY eT fl) i k:=by
 have hf:=b.yU.2;have hlf:=b.vt.yU;obtain⟨h20,hok⟩:=Ej h0;obtain⟨rW,W,w1,w2,w3⟩:=PB (N:=N) (bs:=a.aN) (pcs:=bP 0 cI) (ls:=a.bO) (fl:=fl) hok (by omega) b.zQ.gb (by omega) (λp hp=>⟨by have:=(tI b hp).1;omega,λx hx=>((tI b hp).2.1 x hx).2.1⟩) (by omega) (λl=>MX b l) hN;obtain⟨rC,c2,c3⟩:=PA b h0 hN;have cW:C0 ((bP 0 cI).length+a.aN.length) (QI (bP 0 cI).length (cU a.aN<|bP 0 cI) fl) rC:=⟨c2.co,c2.fi⟩;refine⟨W,w1,w3.len,λi k hi hk=>?_⟩;have hx:a.bO[i]? =some a.bO[i]:=aM hi;have hy:a.bO[k]? =some a.bO[k]:=aM hk;rw[jd,w3.conn hx hy,c3 hx hy];constructor
 ·rintro⟨u,v,g1,g2,g3⟩;exact⟨u,v,g1,g2,(w2.uniq cW (C2 g1)<|C2 g2).1 g3⟩
 ·rintro⟨u,v,g1,g2,g3⟩;exact⟨u,v,g1,g2,(w2.uniq cW (C2 g1)<|C2 g2).2 g3⟩
theorem yB{W:Z Int}{i k:Nat}(hi:i<W.length)(hk:k<W.length):fX N W (i:Int) (k:Int)=some (jg W i k):=by
 grind [aM,fX,jg,cB,aB,decide]
end
section
variable {N:Nat}{a:gM}{kb:Z (Z aA)}{cI:Z (Z (Z aA))}{r:Nat->Nat}{gs:Z bZ}{ofP ofB eY:Z Int}{eT:Z dZ}
theorem El(b:iB a kb cI r gs ofP ofB eY eT){fl:Z bL}(h0:pq a.aN (bP 0 cI).length fl=0){l:Z Test}(hl:l.length<=1048576)(ht:∀t∈l,Bc a t)(hN:ns N):
  jD N a.aL a.cQ a.aN a.bO ((bP 0 cI).map aD.cM) ((bP 0 cI).map aD.dY) (cU a.aN<|bP 0 cI) l fl=some (lB N a cI eY eT l fl):=by
 obtain⟨W,w1,w2,w3⟩:=Mb b h0 hN;have hlf:=b.vt.yU;have hA:∀p,fE N (⟨a.aL,a.cQ,a.aN,a.bO⟩:gM) p=some (jf a p):=λp=>GC (a:=a) (by omega) p hN;have hsh:pr a W l=lB N a cI eY eT l fl:=by
  unfold lB pr;refine List.map_congr_left λt ht'=>?_;obtain⟨t1,t2,_⟩:=ht _ ht';obtain⟨i,_,e1,_,_,hi⟩:=xy t1;obtain⟨j,_,e2,_,_,hj⟩:=xy t2;rw[e1,e2,cK,cK,w3 i j hi hj]
 refine XL ?_;unfold jD;refine IT w1 ?_;refine WO (Xv (n:=l.length) (λst=>st.2.2) (λk st=>st.1=W/\st.2.1=pr a W (l.take k)) (Go:=λst=>st.2.1=pr a W l) (Rt:=λ_=>False) ?_ ?_ (cP _) rfl ⟨rfl,rfl⟩ (by omega)) ?_
 ·rintro k⟨W',out,kk⟩hk e⟨h1,h2⟩;dsimp only at e h1 h2 ⊢;subst e;subst h1;subst h2;rw[iO hk,aP];have hx:l[k]? =some l[k]:=aM hk;obtain⟨t1,t2,_⟩:=ht _<|cH hk
  obtain⟨i,_,e1,_,_,hi⟩:=xy t1;obtain⟨j,_,e2,_,_,hj⟩:=xy t2;have hlen:(pr a W'<|l.take k).length=k:=by rw[HZ,dE];omega
  refine WV hx<|WV hx<|IT (hA _)<|IT (hA _) ?_
  rw[e1,e2];refine IT (yB (by omega) (by omega))<|XC (by rw[hlen];simp only[eN,List.length_nil];omega)<|W8 ⟨bF (by omega),rfl,?_⟩
  dsimp only;unfold pr;rw[dM hk,fH,eW,List.map_nil,e1,e2,cK,cK]
 ·rintro⟨W',out,kk⟩e⟨h1,h2⟩;dsimp only at e h1 h2 ⊢;subst e;subst h2;rw[l4,aR];exact Xd (by dsimp only;rw[eD])
 intro o ho;exact Xf ho (λst hst=>IS (by rw[hst,hsh]))<|λr hr=>hr.elim
end
theorem GF{x:aG}:∀(b:Z aG),(∀y∈b,0<=yp x y)->∀{s:Int},0<=s->0<=wD s x b
 | [],_,s,h=>h
 |y::b,hb,s,h=>by
  have hf:=hb y<|xC ..
  unfold wD;rw[List.foldl_cons];refine GF (x:=x) b (λz hz=>hb z<|ja _ hz) ?_;split <;> omega
theorem Mc{a b:Z aG}{x y:aG}(hx:a[0]? =some x)(hy:b[0]? =some y)(h0:0<=yp x y):xx a b=a.foldl (λs x=>wD s x b) (yp x y):=by
 obtain⟨a',rfl⟩:∃a',a=x::a':=by
  cases a with
  |nil=>cases hx
  |cons z a'=>grind
 obtain⟨b',rfl⟩:∃b',b=y::b':=by
  cases b with
  |nil=>cases hy
  |cons z b'=>grind
 simp[xx,List.foldl_cons,congr,wD,aF,aH]
section
variable {N:Nat}
theorem PC{a0 a1 b0 b1:Int}(h0: -1000000<=a0/\a0<=1000000)(h1: -1000000<=a1/\a1<=1000000)(h2: -1000000<=b0/\b0<=1000000)(h3: -1000000<=b1/\b1<=1000000):kS N a0 a1 b0 b1=some (I1 a0 a1 b0 b1):=by
 unfold kS I1
 grind [sg,tg]
theorem Bf{a b:aG}(ha:dO a=true)(hb:dO b=true):iI N a b=some (yp a b):=by
 obtain⟨a1,a2,a3,a4⟩:=jI ha;obtain⟨b1,b2,b3,b4⟩:=jI hb;unfold iI yp
 grind [PC,aB,tg]
theorem EJ{a b:Z aG}(rG:a.length<=1000000)(hbl:b.length<=1000000)(ha:∀y∈a,dO y=true)(hb:∀y∈b,dO y=true)(ha0:a≠[])(hb0:b≠[])(hN:ns N):i6 N a b=some (xx a b):=by
 have hax:a[0]? =some (a[0]'(List.length_pos_iff.2 ha0)):=aM _;have hbx:b[0]? =some (b[0]'(List.length_pos_iff.2 hb0)):=aM _;have ham:a[0]'(List.length_pos_iff.2 ha0)∈a:=cH _;have hbm:b[0]'(List.length_pos_iff.2 hb0)∈b:=cH _;generalize a[0]'(List.length_pos_iff.2 ha0)=x at hax ham;generalize b[0]'(List.length_pos_iff.2 hb0)=y at hbx hbm;have h0:=(L2 (ha x ham)<|hb y hbm).1;rw[Mc hax hbx h0];have hfp:∀x∈a,∀y∈b,0<=yp x y:=λx hx y hy=>(L2 (ha x hx)<|hb y hy).1;refine XL ?_;unfold i6;refine WV (i:=0) hax<|WV (i:=0) hbx<|IT (Bf (ha x ham)<|hb y hbm) ?_
 refine WO (Xv (n:=a.length) (λst=>st.2) (λk st=>0<=st.1/\st.1=(a.take k).foldl (λs x=>wD s x b) (yp x y)) (Go:=λst=>st.1=a.foldl (λs x=>wD s x b) (yp x y)) (Rt:=λ_=>False) ?_ ?_ (cP _) rfl ⟨h0,rfl⟩ (by omega)) ?_
 ·rintro k⟨s,kk⟩hk e⟨hs,hI⟩;dsimp only at e hs hI ⊢;subst e;rw[iO hk,aP];have hx:a[k]? =some a[k]:=aM hk;have hxm:a[k]∈a:=cH hk;have hts:(a.take<|k+1).foldl (λs x=>wD s x b) (yp x y)=wD s a[k] b:=by grind [dM]
  rw[hts];generalize a[k]=z at *;refine WO (Xv (n:=b.length) (λst=>st.2) (λj st=>st.1=wD s z (b.take j)) (Go:=λst=>st.1=wD s z b) (Rt:=λ_=>False) ?_ ?_ (cP _) rfl rfl (by omega)) ?_
  ·rintro j⟨t,jj⟩hj e hJ;dsimp only at e hJ ⊢;subst e;rw[iO hj,aP];have hy:b[j]? =some b[j]:=aM hj;have hym:b[j]∈b:=cH hj;have ht0:0<=t:=by rw[hJ];exact GF _ (λy hy=>hfp z hxm y<|List.mem_of_mem_take hy) hs
   refine WV hx<|WV hy<|IT (Bf (ha z hxm)<|hb _ hym)<|W8 ⟨bF (by omega),?_⟩
   grind [wD,dM]
  ·simp[l4,aR,eD,Xd]
  intro o ho;refine Xf ho (λst hst=>W8 ⟨bF (by omega),?_,hst⟩)<|λr hr=>hr.elim
  simp_all[GF]
 ·grind [eD,Xd]
 intro o ho;exact Xf ho (λst hst=>IS hst)<|λr hr=>hr.elim
theorem C3{a b:Z aG}(rG:a.length<=1000000)(hbl:b.length<=1000000)(n:Int)(hN:ns N):Ok (iW N a b n) (λ_=>True):=by
 unfold iW;refine WO (Xv (n:=a.length) (λst=>st.2.2) (λk st=>True) (Go:=λst=>True) (Rt:=λ_=>False) ?_ ?_ (cP _) rfl trivial (by omega)) ?_
 ·rintro k⟨p,q,kk⟩hk e _;dsimp only at e ⊢;subst e;rw[iO hk,aP];have hx:a[k]? =some a[k]:=aM hk;refine WO (Xv (n:=b.length) (λst=>st.2.2) (λj st=>True) (Go:=λst=>True) (Rt:=λ_=>False) ?_ ?_ (cP _) rfl trivial (by omega)) ?_
  ·rintro j⟨p,q,jj⟩hj e _;dsimp only at e ⊢;subst e;rw[iO hj,aP];have hy:b[j]? =some b[j]:=aM hj;refine WV hx<|WV hy<|WV hx<|WV hy ?_
   refine WO (P:=λ_=>True) (WV hx<|WV hy<|Xn (λ_=>IS trivial)<|λ_=>WV hx<|WV hy<|IS trivial)<|λc _=>Xn (λ_=>W8 ⟨bF (by omega),trivial⟩)<|λ_=>?_
   grind [WO,IS,W8,bF]
  ·simp[l4,aR,Xd,trivial]
  intro o ho;exact Xf ho (λst hst=>W8 ⟨bF (by omega),trivial⟩)<|λr hr=>hr.elim
 ·simp[l4,aR,Xd,trivial]
 intro o ho;exact Xf ho (λst hst=>IS trivial)<|λr hr=>hr.elim
theorem Md{a b:Z aG}(rG:a.length<=1000000)(hbl:b.length<=1000000)(ha:∀y∈a,dO y=true)(hb:∀y∈b,dO y=true)(ha0:a≠[])(hb0:b≠[])(hN:ns N):∃g,j8 N a b=some g/\g.iX=xx a b - 1:=by
 have hd:=MZ ha hb
 suffices h:Ok (j8 N a b) (λg=>g.iX=xx a b - 1)from h
 unfold j8;refine IT (EJ rG hbl ha hb ha0 hb0 hN)<|WO (C3 rG hbl _ hN)<|λp _=>WO (C3 hbl (by simp) _ hN)<|λq _=>IS ?_
 dsimp only;exact sg (by omega)
end
theorem yi.nr{a:gM}{kb:Z (Z aA)}{cI:Z (Z<|Z aA)}{p:aD}{i:Nat}{r:Z aG}{s:Z aA}{ps:Z (Z aA)}{u:Nat->Nat}{j k:Nat}(h:yi a kb cI p i r s ps u j k):p.dY≠[]:=by
 intro e;rw[h.RF]at e;have hh:=iN.1<|gh h.head
 have hx:(bA s)[k]? =some (bA s)[k]:=aM hh.1;have hm:(bA s)[k]∈pj (bA s) (bA s).length u k:=m6.2 ⟨k,hh.1,hh.2,hx⟩;obtain⟨b,hb,q,hq,hr⟩:=sR<|gh hx
 have hbm:cR b∈s.map cR:=dN.2 ⟨b,hb,rfl⟩;have hq1:=IC (h.dr.can.each _ hbm).2.2.1 q hq;have hb1:=(h.dr.can.each _ hbm).1;have hc:=h.set.cover q.1 b.Y0;rw[<-ru h.set.can,e]at hc;have:vW (pj (bA s) (bA s).length u k) q.1 b.Y0=true:=kV.2 ⟨_,hm,by rw[hr];exact⟨⟨Int.le_refl _,hq1⟩,Int.le_refl _,hb1⟩⟩;rw[this]at hc
 cases hc
section
variable {N:Nat}{a:gM}{kb:Z (Z aA)}{cI:Z (Z (Z aA))}{r:Nat->Nat}{gs:Z bZ}{ofP ofB eY:Z Int}{eT:Z dZ}
theorem SJ(b:iB a kb cI r gs ofP ofB eY eT){p:aD}(hp:p∈bP 0 cI):p.dY≠[]:=by
 obtain⟨i,r',s,ps,u,j,k,hP⟩:=Ky b.zQ b.dr hp;exact hP.nr
theorem Hc(b:iB a kb cI r gs ofP ofB eY eT)(hN:ns N):jX N ((bP 0 cI).map aD.dY) gs=some ofP:=by
 have hf:=b.yU.2;have hbl:=b.zQ.gb.len;have hlp:=b.AQ.of.lp;have hgl:=(IY b.AQ).2;have hgrp:=λ(g:Nat)(x:bZ)(hg:gs[g]? =some x)=>SA b.AQ hg;have hnat:=λ(g:Nat)(x:bZ)(hg:gs[g]? =some x)=>QB b.AQ hg;have hglen:=λ(g:Nat)(x:bZ)(hg:gs[g]? =some x)=>QC b.AQ hg;have hofp:=λ(k:Nat)(hk:k<ofP.length)=>Gw b hk;refine XL ?_;unfold jX;rw[dQ];generalize hpcs:bP 0 cI=pcs at *;refine IT (oC 0 (by omega)) ?_;refine WO (Xv (n:=gs.length) (λst=>st.2) (λi st=>st.1.length=pcs.length/\∀(k g:Nat),k<pcs.length->ofP[k]? =some ((g:Nat):Int)->g<i->st.1[k]? =some ((g:Nat):Int)) (Go:=λst=>st.1=ofP) (Rt:=λ_=>False) ?_ ?_ (cP _) rfl ⟨by simp,λk g _ _ h=>by omega⟩ (by omega)) ?_
 ·rintro i⟨G,ii⟩hi e⟨h1,h2⟩;dsimp only at e h1 h2 ⊢;subst e;rw[iO hi,aP];have hx:gs[i]? =some gs[i]:=aM hi;have hin:=hgrp i _ hx;have hnt:=hnat i _ hx;have hgl2:=(hglen i _ hx).1;generalize gs[i]=x at *
  refine WO (Xv (n:=x.fN.length) (λst=>st.2) (λj st=>st.1.length=pcs.length/\(∀(k g:Nat),k<pcs.length->ofP[k]? =some ((g:Nat):Int)->g<i->st.1[k]? =some ((g:Nat):Int))/\∀k:Nat,((k:Nat):Int)∈x.fN.take j->st.1[k]? =some ((i:Nat):Int))
   (Go:=λst=>st.1.length=pcs.length/\∀(k g:Nat),k<pcs.length->ofP[k]? =some ((g:Nat):Int)->g<i+1->st.1[k]? =some ((g:Nat):Int)) (Rt:=λ_=>False) ?_ ?_ (cP _) rfl ⟨h1,h2,λk hk=>by simp at hk⟩ (by omega)) ?_
  ·rintro j⟨G,jj⟩hj e⟨g1,g2,g3⟩;dsimp only at e g1 g2 g3 ⊢;subst e;refine WV hx ?_;rw[iO hj,aP];have hy:x.fN[j]? =some x.fN[j]:=aM hj;have hym:x.fN[j]∈x.fN:=cH hj;have hts:=dM hj;obtain⟨c,hc⟩:=hnt _ hym;rw[hc]at hy hym hts;obtain⟨c1,c2⟩:=(hin c).1 hym;have hGc:G[c]? =some (G[c]'(by omega)):=aM _;refine WV hx<|WV hy<|WV hGc<|W8 ⟨bF (by omega),?_,λk g hk hg hgi=>?_,λk hk=>?_⟩
   ·dsimp only;rw[ig];exact g1
   ·dsimp only;rw[cK];have hne:c≠k:=λe=>by
     subst e;rw[c2]at hg;injection hg with hg;omega
    rw[List.getElem?_set_ne hne];exact g2 k g hk hg hgi
   ·dsimp only;rw[cK]
    by_cases e:c=k
    ·subst e;rw[List.getElem?_set_self (by omega)]
    ·rw[List.getElem?_set_ne e];rw[hts]at hk
     rcases dJ.1 hk with hk|hk
     ·exact g3 k hk
     ·rw[mg]at hk;omega
  ·rintro⟨G,jj⟩e⟨g1,g2,g3⟩;dsimp only at e g1 g2 g3 ⊢;subst e;refine WV hx ?_;rw[l4,aR];refine Xd ⟨g1,λk g hk hg hgi=>?_⟩;dsimp only
   by_cases e:g=i
   ·subst e;refine g3 k ?_;rw[eD];exact(hin k).2 ⟨hk,hg⟩
   ·exact g2 k g hk hg (by omega)
  intro o ho;exact Xf ho (λst hst=>W8 ⟨bF (by omega),hst⟩)<|λr hr=>hr.elim
 ·rintro⟨G,ii⟩e⟨h1,h2⟩;dsimp only at e h1 h2 ⊢;subst e;rw[l4,aR];refine Xd ?_;dsimp only;refine List.ext_getElem? λk=>?_
  by_cases hk:k<pcs.length
  ·obtain⟨g,q1,q2⟩:=hofp k (by omega);rw[q1,h2 k g hk q1 q2]
  ·rw[List.getElem?_eq_none (by omega),List.getElem?_eq_none (by omega)]
 intro o ho;exact Xf ho (λst hst=>IS hst)<|λr hr=>hr.elim
theorem I6(G:Z bZ)(h:dZ):eV N G h=dS N G h:=rfl
theorem I7{gs:Z bZ}{g:Nat}{x:bZ}(hx:gs[g]? =some x):QJ gs (g:Int)=decide ((x.fB.length:Int)>=2):=by
 unfold QJ
 grind
theorem I8(b:iB a kb cI r gs ofP ofB eY eT)(near:Int)(hN:ns N):
  ke N a.aN ((bP 0 cI).map aD.cM) ((bP 0 cI).map aD.dY) gs near=some (Hb (bP 0 cI) gs ofP ofB near):=by
 have hf:=b.yU.2;have hbl:=b.zQ.gb.len;have hlp:=b.AQ.of.lp;have hlb:=b.AQ.of.lb;have hgl:=(IY b.AQ).2;have hG:=Hc (N:=N) b hN;have hofp:=λ(k:Nat)(hk:k<ofP.length)=>Gw b hk;have hofb:=λ(k:Nat)(hk:k<ofB.length)=>L4 b hk;have hfact:=λ(p:aD)(hp:p∈bP 0 cI)=>(⟨(tI b hp).1,λq hq=>((tI b hp).2.1 q hq).1,SJ b hp⟩:p.dY.length<=2000/\(∀q∈p.dY,dO q=true)/\p.dY≠[]);have hhop:∀k,k<a.aN.length->sS a.aN k=true->∀g:Nat,ofB[k]? =some ((g:Nat):Int)->eV N gs ⟨true,((k:Nat):Int)⟩=some ((g:Nat):Int):=λk hk hp g hg=>by
  have hok:F9 a.aN (bP 0 cI).length a.aN.length ⟨true,((k:Nat):Int)⟩:=⟨k,rfl,λ_=>⟨hk,hp⟩,λh=>by cases h⟩;rw[I6,(zW (N:=N) rfl (by omega) (by omega) b.AQ.conn.le b.AQ.conn.rr (G:=gs) (by rw[b.AQ.gs];exact Ba _ _ _) hok hN).1];have hm:r ((bP 0 cI).length+k)∈bV ((bP 0 cI).length+a.aN.length) r:=iN.2 ⟨by have:=b.AQ.conn.le ((bP 0 cI).length+k) (by omega);omega,b.AQ.conn.rr _ (by omega)⟩;have:=b.AQ.of.bo k (by omega) hm;rw[hp,aF rfl,hg]at this;injection this with this
  have hix:eB (bP 0 cI).length ⟨true,((k:Nat):Int)⟩=(bP 0 cI).length+k:=by unfold eB;rw[aF rfl,cK]
  unfold Pf;rw[hix,this]
 refine XL ?_;unfold ke;refine IT hG ?_;rw[dQ];generalize hpcs:bP 0 cI=pcs at *;refine WO (Xv (n:=pcs.length) (λst=>st.2) (λk st=>st.1=qe gs false ofP k) (Go:=λst=>st.1=qe gs false ofP pcs.length) (Rt:=λ_=>False) ?_ ?_ (cP _) rfl (by simp[qe]) (by omega)) ?_
 ·rintro k⟨s,kk⟩hk e hI;dsimp only at e hI ⊢;subst e;subst hI;rw[iO hk,aP];obtain⟨g,h1,h2⟩:=hofp k (by omega);have hgx:gs[g]? =some gs[g]:=aM h2;have hsl:=sj gs false ofP k;refine WV h1<|WV hgx<|WO (P:=λs=>s=qe gs false ofP (k+1)) (Xn (λhc=>XC (by simp only[eN,List.length_nil];omega)<|IS ?_)<|λhc=>IS ?_)<|λs hs=>W8 ⟨bF (by omega),hs⟩
  ·rw[uM,h1,Option.elim_some,I7 hgx,hc,aF rfl]
  ·rw[uM,h1,Option.elim_some,I7 hgx,hc,aH jS]
 ·rintro⟨s,kk⟩e hI;dsimp only at e hI ⊢;subst e;rw[l4,aR];exact Xd hI
 intro o ho;refine Xf ho ?_<|λr hr=>hr.elim
 rintro⟨s0,kk0⟩h0;dsimp only at h0 ⊢;subst h0;have hl0:=sj gs false ofP pcs.length;refine WO (Xv (n:=a.aN.length) (λst=>st.2) (λk st=>st.1=qe gs false ofP pcs.length++qe gs true ofB k) (Go:=λst=>st.1=qe gs false ofP pcs.length++qe gs true ofB a.aN.length) (Rt:=λ_=>False) ?_ ?_ (cP _) rfl (by simp[qe]) (by omega)) ?_
 ·rintro k⟨s,kk⟩hk e hI;dsimp only at e hI ⊢;subst e;subst hI;rw[iO hk,aP];have hx:a.aN[k]? =some a.aN[k]:=aM hk;have hpl:sS a.aN k=a.aN[k].fJ:=by unfold sS;rw[hx];rfl
  have hsl:=sj gs true ofB k;have key:∃c:Int,ofB[k]? =some c/\(((idx a.aN ((k:Nat):Int)).bind λx190=>bif x190.fJ then((eV N gs (⟨true,((k:Nat):Int)⟩:dZ)).bind λx195=>(idx gs x195).bind λy7=>some<|decide<|(y7.fB.length:Int)>=2)else some false)=some (QJ gs c)):=by
   rcases hofb k (by omega)with⟨hp,g,h1,h2⟩|⟨hp,h1⟩
   ·have hgx:gs[g]? =some gs[g]:=aM h2;refine⟨_,h1,?_⟩;rw[cB hx,aB,<-hpl,hp,aP,hhop k hk hp g h1,aB,cB hgx,aB,I7 hgx]
   ·refine⟨_,h1,?_⟩;rw[cB hx,aB,<-hpl,hp,aR];rfl
  obtain⟨c,h1,h2⟩:=key;refine IT h2<|WO (P:=λs=>s=qe gs false ofP pcs.length++qe gs true ofB (k+1)) (Xn (λhc=>XC (by simp only[eC,eN,List.length_nil];omega)<|IS ?_)<|λhc=>IS ?_)<|λs hs=>W8 ⟨bF (by omega),hs⟩
  ·rw[uM,h1,Option.elim_some,hc,aF rfl,kN]
  ·rw[uM,h1,Option.elim_some,hc,aH jS]
 ·rintro⟨s,kk⟩e hI;dsimp only at e hI ⊢;subst e;rw[l4,aR];exact Xd hI
 intro o ho;refine Xf ho ?_<|λr hr=>hr.elim
 rintro⟨s1,kk1⟩h1;dsimp only at h1 ⊢;subst h1;have hl1:=sj gs true ofB a.aN.length;have hsgl:Hb pcs gs ofP ofB near=qe gs false ofP pcs.length++qe gs true ofB a.aN.length++uF pcs ofP near pcs.length:=by unfold Hb;rw[hlp,hlb]
 rw[hsgl];generalize hB:qe gs false ofP pcs.length++qe gs true ofB a.aN.length=base;have hbase:base.length<=2500:=by rw[<-hB,eC];omega
 refine WO (Xv (n:=pcs.length) (λst=>st.2) (λi st=>st.1=base++uF pcs ofP near i) (Go:=λst=>st.1=base++uF pcs ofP near pcs.length) (Rt:=λ_=>False) ?_ ?_ (cP _) rfl (by simp[uF]) (by omega)) ?_
 ·rintro i⟨s,ii⟩hi e hI;dsimp only at e hI ⊢;subst e;subst hI;rw[iO hi,aP,bF (by omega)];have hx:pcs[i]? =some pcs[i]:=aM hi;have hLx:(pcs.map aD.cM)[i]? =some pcs[i].cM:=by rw[iE,hx];rfl
  have hRx:(pcs.map aD.dY)[i]? =some pcs[i].dY:=by rw[iE,hx];rfl
  have hpl:(uF pcs ofP near i).length<=2000*2000:=px (Gv pcs ofP near i)<|Nat.mul_le_mul (by omega) hf
  obtain⟨r1,r2,r3⟩:=hfact pcs[i]<|cH hi
  obtain⟨gi_,hgi,_⟩:=hofp i (by omega);have hskip:rz pcs ofP near i (i+1)= []:=by
   have e0:rz pcs ofP near i 0= []:=by simp[rz]
   have:=yq (pcs:=pcs) (ofP:=ofP) (near:=near) (i:=i) (m:=0) (d:=i+1) (λk _ hk=>by
    unfold sU;rw[hx,Option.elim_some]
    cases pcs[k]? with
    |none=>rfl
    |some q=>rw[Option.elim_some,cA (show ¬i<k by omega),Bool.false_and])
   rw[jT]at this;rw[this,e0]
  refine WO (Xv (n:=pcs.length) (λst=>st.2) (λk st=>i+1<=k/\st.1=base++uF pcs ofP near i++rz pcs ofP near i k) (Go:=λst=>st.1=base++uF pcs ofP near (i+1)) (Rt:=λ_=>False) ?_ ?_ (k0:=i+1) (by omega) rfl ⟨cJ _,by dsimp only;rw[hskip,ng]⟩ (by omega)) ?_
  ·rintro k⟨s,j⟩hk e⟨hik,hI⟩;dsimp only at e hI ⊢;subst e;subst hI;rw[iO hk,aP];have hy:pcs[k]? =some pcs[k]:=aM hk;have hLy:(pcs.map aD.cM)[k]? =some pcs[k].cM:=by rw[iE,hy];rfl
   have hRy:(pcs.map aD.dY)[k]? =some pcs[k].dY:=by rw[iE,hy];rfl
   have h1l:=DS pcs ofP near i k;obtain⟨t1,t2,t3⟩:=hfact pcs[k]<|cH hk
   obtain⟨gk_,hgk,_⟩:=hofp k (by omega);refine IT (x:=sU pcs ofP near i k) ?_ ?_
   ·rw[cB hLx,aB,cB hLy,aB];unfold sU;rw[hx,hy,Option.elim_some,Option.elim_some,bS (show i<k by omega),Bool.true_and,hgi,hgk]
    by_cases eL:pcs[i].cM=pcs[k].cM
    ·rw[eL,BEq.rfl,aP,Bool.true_and,cB hgi,aB,cB hgk,aB]
     by_cases e:gi_=gk_
     ·subst e;rw[bne_self_eq_false,aR,show decide (some (gi_:Int)≠some (gi_:Int))=false by simp,Bool.false_and]
     ·obtain⟨g,g1,g2⟩:=Md (N:=N) (a:=pcs[i].dY) (b:=pcs[k].dY) (by omega) (by omega) r2 t2 r3 t3 hN;rw[show((gi_:Int) != (gk_:Int))=true by rw[bne_iff_ne];omega,aP,cB hRx,aB,cB hRy,aB,g1,aB,g2,show decide (some (gi_:Int)≠some (gk_:Int))=true by rw[dF];intro h;injection h with h;omega,Bool.true_and]
    ·rw[show(pcs[i].cM==pcs[k].cM)=false by rw[beq_eq_false_iff_ne];exact eL,aR,show(pcs[k].cM==pcs[i].cM)=false by rw[beq_eq_false_iff_ne];exact λh=>eL h.symm,Bool.false_and]
   ·cases hsP:sU pcs ofP near i k with
    |true=>
     rw[aP];refine WO (P:=λs=>s=base++uF pcs ofP near i++rz pcs ofP near i (k+1)) (XC (by simp only[eC,eN,List.length_nil];omega)<|IS ?_)<|λs hs=>W8 ⟨bF (by omega),by omega,hs⟩
     rw[vx,hsP,aF rfl,kN]
    |false=>
     rw[aR,aB];refine W8 ⟨bF (by omega),by omega,?_⟩;dsimp only;rw[vx,hsP,aH jS]
  ·rintro⟨s,j⟩e⟨_,hI⟩;dsimp only at e hI ⊢;subst e;subst hI;rw[l4,aR];exact Xd (by dsimp only;rw[Ar,kN])
  intro o ho;exact Xf ho (λst hst=>W8 ⟨rfl,hst⟩)<|λr hr=>hr.elim
 ·rintro⟨s,ii⟩e hI;dsimp only at e hI ⊢;subst e;rw[l4,aR];exact Xd hI
 intro o ho;exact Xf ho (λst hst=>IS hst)<|λr hr=>hr.elim
theorem Em{a:gM}{e:Int}(he:e≠0)(near:Int):gN N e a near=some (none,[],e):=by
 grind [gN]
theorem GG(b:iB a kb cI r gs ofP ofB eY eT)(near:Int)(hN:ns N):
  gN N 0 a near=some (if near<0\/100000<near then(none,[],1)else if 20000<(Hb (bP 0 cI) gs ofP ofB near).length then(none,[],2)else(some (a.aL,a.cQ,a.aN,a.bO,(bP 0 cI).map aD.cM,(bP 0 cI).map aD.dY,gs,cU a.aN<|bP 0 cI),Hb (bP 0 cI) gs ofP ofB near,0)):=by
 unfold gN;rw[bne_self_eq_false,aR];have w:lY N near 0 100000=some (decide (near>=0)&&decide (near<=100000)):=rfl;rw[w,aB]
 by_cases hn:near<0\/100000<near
 ·grind
 rw[aH hn,show(decide (near>=0)&&decide (near<=100000))=true by grind,lq,aR,KU b hN,aB];dsimp only;rw[I8 b near hN,aB]
 grind
theorem GH(b:iB a kb cI r gs ofP ofB eY eT){x:bL}(h0:pq a.aN (bP 0 cI).length [x]=0)(hN:ns N):
  jC N a.aN a.bO ((bP 0 cI).map aD.cM) ((bP 0 cI).map aD.dY) (cU a.aN<|bP 0 cI) x=some (DT N a cI eY eT x):=by
 have hlf:=b.vt.yU;obtain⟨W,w1,w2,w3⟩:=Mb b (fl:=[]) sV hN;obtain⟨V,v1,v2,v3⟩:=Mb b h0 hN;obtain⟨_,c2,c3⟩:=Gx b (fl:=[]) sV hN;obtain⟨_,d2,d3⟩:=Gx b h0 hN;have rG:=QO d3 c3 (Pz b h0 hN) (Pz b (fl:=[]) sV hN) (by rw[c2,d2]);refine XL ?_;unfold jC;refine IT w1<|IT v1 ?_
 refine WO (Xv (n:=a.bO.length) (λst=>st.2.2) (λi st=>st.1=W/\st.2.1=V/\∀i' k,i'<i->k<i'->jg W i' k=jg V i' k) (Go:=λ_=>∀i' k,i'<a.bO.length->k<i'->jg W i' k=jg V i' k) (Rt:=λr=>r=false/\∃i' k,i'<a.bO.length/\k<i'/\jg W i' k≠jg V i' k) ?_ ?_ (cP _) rfl ⟨rfl,rfl,λi' k h=>by omega⟩ (by omega)) ?_
 ·rintro i⟨W',V',ii⟩hi e⟨e1,e2,hI⟩;dsimp only at e e1 e2 ⊢;subst e;subst e1;subst e2;rw[w2,iO hi,aP];refine WO (Xv (n:=i) (λs=>s) (λj _=>∀k,k<j->jg W' i k=jg V' i k) (Go:=λ_=>∀k,k<i->jg W' i k=jg V' i k) (Rt:=λr=>r=false/\∃i' k,i'<a.bO.length/\k<i'/\jg W' i' k≠jg V' i' k) ?_ ?_ (cP _) rfl (λk hk=>by omega) (by omega)) ?_
  ·grind [iO,IT,yB,XR,W8,bF]
  ·grind [Xd]
  intro o ho;refine Xf ho (λ_ hJ=>W8 ⟨bF (by omega),rfl,rfl,λi' k hi' hk=>?_⟩)<|λr hr=>XR hr
  grind
 ·rintro⟨W',V',ii⟩e⟨e1,e2,hI⟩;dsimp only at e e1 e2 ⊢;subst e;subst e1;subst e2;rw[w2,l4,aR];exact Xd hI
 intro o ho;refine Xf ho (λ_ h=>IS ?_)<|λr hr=>IS ?_
 ·refine(rG.2 λi k hk hi=>?_).symm;rw[d2]at hi;rw[<-w3 i k hi (by omega),<-v3 i k hi (by omega)];exact(h i k hi hk).symm
 ·obtain⟨hr,i,k,hi,hk,hne⟩:=hr;rw[hr];refine(Bool.eq_false_iff.2 λht=>hne ?_).symm;have:=rG.1 ht i k hk (by omega);rw[w3 i k hi (by omega),v3 i k hi (by omega)];exact this.symm
end
theorem C4{α:Type}{p q:α->Bool}:∀{l:Z α},(∀x∈l,p x=true->q x=true)->l.countP p<=l.countP q
 | [],_=>cJ _
 |x::l,h=>by
  have ih:=C4 (p:=p) (q:=q) (l:=l)<|λy hy=>h y<|ja _ hy
  have h0:=h x<|xC ..
  rw[List.countP_cons,List.countP_cons]
  cases hp:p x with
  |true=>rw[h0 hp];simp;omega
  |false=>cases q x <;> simp <;> omega
theorem Bg{α:Type}{p q:α->Bool}:∀{l:Z α},(∀x∈l,p x=true->q x=true)->(l.countP p=l.countP q↔∀x∈l,q x=true->p x=true)
 | [],_=>⟨λ_ x hx=>by(cases hx),λ_=>rfl⟩
 |x::l,h=>by
  have hl:∀y∈l,p y=true->q y=true:=λy hy=>h y<|ja _ hy
  have ih:=Bg (p:=p) (q:=q) hl;have hle:=C4 (p:=p) (q:=q) hl;have h0:=h x<|xC ..
  rw[List.countP_cons,List.countP_cons];constructor
  ·intro e
   cases hp:p x with
   |true=>
    rw[hp,h0 hp]at e;have:=ih.1 (by simpa using e);intro y hy hq
    rcases fp.1 hy with rfl|hy
    ·exact hp
    ·exact this y hy hq
   |false=>
    cases hq:q x with
    |true=>rw[hp,hq]at e;simp at e;omega
    |false=>
     rw[hp,hq]at e;have:=ih.1 (by simpa using e);intro y hy hqy
     rcases fp.1 hy with rfl|hy
     ·rw[hq]at hqy;cases hqy
     ·exact this y hy hqy
  ·intro a;have e:=ih.2<|λy hy=>a y<|ja _ hy
   have a0:=a x<|xC ..
   have:p x=q x:=by
    cases hp:p x with
    |true=>rw[h0 hp]
    |false=>
     cases hq:q x with
     |true=>rw[a0 hq]at hp;cases hp
     |false=>rfl
   rw[e,this]
section
variable {T:Nat->Nat->Bool}{n:Nat}
theorem PD{m k:Nat}{K:Z Nat}(h:xz T n m (k+1) K)(hk:k<m):DU T n K k=false↔(List.range n).countP (λi=>decide<|jJ T i k K=0)=(List.range n).countP (λi=>decide (∀j,j<m->T i j=false)):=by
 have hsub:∀i∈List.range n,decide (∀j,j<m->T i j=false)=true->decide (jJ T i k K=0)=true:=λi _ hi=>by
  rw[dF]at hi ⊢;unfold jJ;have h1:(List.range k).countP (T i)=0:=List.countP_eq_zero.2 λj hj=>by rw[hi j (by have:=kx.1 hj;omega)];exact jS
  have h2:K.countP (T i)=0:=List.countP_eq_zero.2 λj hj=>by rw[hi j (h.lo j hj).2];exact jS
  omega
 rw[eq_comm (a:=(List.range n).countP _),Bg hsub];unfold DU;rw[List.any_eq_false];constructor
 ·intro hn i hi hz;rw[dF]at hz ⊢;refine Classical.byContradiction λhc=>?_;have hex:∃j,j<m/\T i j=true:=Classical.byContradiction λhne=>hc λj hj=>by
   cases ht:T i j with
   |false=>rfl
   |true=>exact absurd ⟨j,hj,ht⟩ hne
  have hall:=h.all i (kx.1 hi) hex;have hs:=qU (T:=T) i k K;have hni:=hn i hi
  cases ht:T i k with
  |false=>rw[ht,aH jS]at hs;omega
  |true=>
   rw[ht,aF rfl]at hs;rw[ht,Bool.true_and,dF]at hni;omega
 ·intro ha i hi hb;rw[dB,dF]at hb;have hs:=qU (T:=T) i k K;rw[hb.1,aF rfl]at hs;have:=ha i hi (by rw[dF];omega);rw[dF]at this;rw[this k hk]at hb;exact absurd hb.1 jS
end
theorem C5{α:Type}{l:Z α}{p:α->Bool}{q:Nat->Bool}(h:∀(i:Nat)x,l[i]? =some x->q i=p x):(List.range l.length).countP q=l.countP p:=by
 have key:∀k,k<=l.length->(List.range k).countP q=(l.take k).countP p:=by
  intro k
  induction k with
  |zero=>intro _;simp
  |succ k ih=>
   grind [List.range_succ,dM,List.countP_singleton,aM]
 grind
theorem NU{f:bL->Z Bool}{rg:Z Bool}{F:Z bL}{m:Nat}(hf:∀x,(f x).length=m)(hrg:rg.length=m):(F.filter<|λx=>decide<|f x=rg).length=(List.range F.length).countP (λi=>decide (∀j,j<m->xA f rg F i j=false)):=by
 rw[<-List.countP_eq_length_filter];refine(C5 λi x hx=>?_).symm;rw[decide_eq_decide];exact(Px hx (hf x) hrg).symm
section
variable {N:Nat}
theorem EK{l m:Z Bool}(hl:l.length<=1000000000)(hN:ns N):i7 N l m=some (decide<|l=m):=by
 refine XL ?_;unfold i7
 by_cases hn:l.length=m.length
 rotate_left
 ·grind [cA,IS]
 rw[show((l.length:Int) != (m.length:Int))=false by rw[hn,bne_self_eq_false],aR];refine WO (Xv (n:=l.length) (λs=>s) (λk _=>∀j,j<k->l[j]? =m[j]?) (Go:=λ_=>l=m) (Rt:=λr=>r=false/\l≠m) ?_ ?_ (cP _) rfl (λj hj=>by omega) (by omega)) ?_
 ·rintro k s hk e hI;subst e;rw[iO hk,aP];have h1:l[k]? =some l[k]:=aM hk
  grind [aM,WV,XR,W8,bF]
 ·rintro s e hI;subst e;rw[l4,aR];refine Xd<|List.ext_getElem? λk=>?_
  grind
 intro o ho;exact Xf ho (λ_ h=>IS (bS h).symm)<|λr hr=>IS (by grind)
end
section
variable {N:Nat}{a:gM}{kb:Z (Z aA)}{cI:Z (Z (Z aA))}{r:Nat->Nat}{gs:Z bZ}{ofP ofB eY:Z Int}{eT:Z dZ}
theorem Bh(b:iB a kb cI r gs ofP ofB eY eT){S:Z bL}(hS:∀x∈S,pq a.aN (bP 0 cI).length [x]=0)(hl:S.length<=10000000)(hN:ns N):
  iJ N a.aN a.bO ((bP 0 cI).map aD.cM) ((bP 0 cI).map aD.dY) (cU a.aN<|bP 0 cI) S=some (S.filter<|λx=> !DT N a cI eY eT x):=by
 refine XL ?_;unfold iJ;refine WO (Xv (n:=S.length) (λst=>st.2) (λk st=>st.1=(S.take k).filter (λx=> !DT N a cI eY eT x)) (Go:=λst=>st.1=S.filter (λx=> !DT N a cI eY eT x)) (Rt:=λ_=>False) ?_ ?_ (cP _) rfl rfl (by omega)) ?_
 ·rintro k⟨s,kk⟩hk e hI;dsimp only at e hI ⊢;subst e;subst hI;rw[iO hk,aP];have hx:S[k]? =some S[k]:=aM hk;have hlen:((S.take k).filter<|λx=> !DT N a cI eY eT x).length<=k:=px (ln _ _)<|List.length_take_le _ _
  refine WV hx<|IT (GH b (hS _<|cH hk) hN)<|WO (P:=λs=>s=(S.take<|k+1).filter (λx=> !DT N a cI eY eT x)) (Xn (λhc=>WV hx<|XC (by grind)<|IS ?_)<|λhc=>IS ?_)<|λs hs=>W8 ⟨bF (by omega),hs⟩
  ·grind [dM,List.filter_cons_of_pos,DT]
  ·rw[dM hk,sX,List.filter_cons_of_neg (p:=λx=> !DT N a cI eY eT x) (by grind),List.filter_nil,ng]
 ·simp[l4,aR,eD,Xd]
 intro o ho;exact Xf ho (λst hst=>IS hst)<|λr hr=>hr.elim
noncomputable def yC(N:Nat)(a:gM)(cI:Z (Z<|Z aA))(eY:Z Int)(eT:Z dZ)(S:Z bL)(l:Z Test):Z bL:=S.filter<|λx=>decide<|lB N a cI eY eT l [x]=lB N a cI eY eT l []
theorem C6(b:iB a kb cI r gs ofP ofB eY eT){S:Z bL}(hS:∀x∈S,pq a.aN (bP 0 cI).length [x]=0)(hSl:S.length<=10000000){l:Z Test}(hl:l.length<=1048576)(ht:∀t∈l,Bc a t)(hN:ns N):
  gm N a.aL a.cQ a.aN a.bO ((bP 0 cI).map aD.cM) ((bP 0 cI).map aD.dY) (cU a.aN<|bP 0 cI) S l=some (yC N a cI eY eT S l):=by
 refine XL ?_;unfold gm;refine IT (El b sV hl ht hN) ?_;refine WO (Xv (n:=S.length) (λst=>st.2.2) (λk st=>st.1=lB N a cI eY eT l []/\st.2.1=yC N a cI eY eT (S.take k) l) (Go:=λst=>st.2.1=yC N a cI eY eT S l) (Rt:=λ_=>False) ?_ ?_ (cP _) rfl ⟨rfl,rfl⟩ (by omega)) ?_
 ·rintro k⟨g,s,kk⟩hk e⟨h1,hI⟩;dsimp only at e h1 hI ⊢;subst e;subst h1;subst hI;rw[iO hk,aP];have hx:S[k]? =some S[k]:=aM hk;have hlen:(yC N a cI eY eT (S.take k) l).length<=k:=px (ln _ _)<|List.length_take_le _ _
  refine IT (QL hx (by omega))<|IT (El b (hS _<|cH hk) hl ht hN)<|IT (EK (by rw[uN];omega) hN)<|WO (P:=λs=>s=yC N a cI eY eT (S.take<|k+1) l) (Xn (λhc=>WV hx<|XC (by simp only[eN,List.length_nil];omega)<|IS ?_)<|λhc=>IS ?_)<|λs hs=>W8 ⟨bF (by omega),rfl,hs⟩
  ·unfold yC;rw[dM hk,sX,List.filter_cons_of_pos (p:=λx=>decide<|lB N a cI eY eT l [x]=lB N a cI eY eT l []) hc,List.filter_nil]
  ·unfold yC;rw[dM hk,sX,List.filter_cons_of_neg (p:=λx=>decide<|lB N a cI eY eT l [x]=lB N a cI eY eT l []) (by rw[hc];exact jS),List.filter_nil,ng]
 ·rintro⟨g,s,kk⟩e⟨_,hI⟩;dsimp only at e hI ⊢;subst e;rw[l4,aR];rw[eD]at hI;exact Xd hI
 intro o ho;exact Xf ho (λst hst=>IS hst)<|λr hr=>hr.elim
theorem C7{a:gM}{l:Z Test}{e:Int}(he:e≠0)(h:dA N a l=some e)(near:Int):fu N a l near=some ([],e):=by
 unfold fu;rw[h,aB,Em he,aB];simp only[Hi,show(e != 0)=true by simpa using he,aP]
theorem GI{a:gM}{l:Z Test}{e:Int}(he:e≠0)(h:dA N a l=some e)(near:Int):gq N a l near=some ([],e):=by
 unfold gq;rw[h,aB,Em he,aB];simp only[Hi,show(e != 0)=true by simpa using he,aP]
theorem En(b:iB a kb cI r gs ofP ofB eY eT){near:Int}{x:bL}(hx:x∈vz N a cI gs ofP ofB eY eT near):pq a.aN (bP 0 cI).length [x]=0:=As b (ll.1 hx).1
theorem K3(b:iB a kb cI r gs ofP ofB eY eT){l:Z Test}(h:dA N a l=some 0)(hl:l.length<=1048576)(ht:∀t∈l,Bc a t)(near:Int)(hN:ns N):
  fu N a l near=some (if near<0\/100000<near then([],1)else if 20000<(Hb (bP 0 cI) gs ofP ofB near).length then([],2)else(yC N a cI eY eT (vz N a cI gs ofP ofB eY eT near) l,0)):=by
 unfold fu;rw[h,aB,GG b near hN,aB]
 by_cases hn:near<0\/100000<near
 ·rw[aF hn,aF hn];rfl
 rw[aH hn,aH hn]
 by_cases hs:20000<(Hb (bP 0 cI) gs ofP ofB near).length
 ·rw[aF hs,aF hs];rfl
 rw[aH hs,aH hs];simp only[Hi,bne_self_eq_false,aR];have hFl:(vz N a cI gs ofP ofB eY eT near).length<=20000:=px (ln _ _) (by omega);rw[Bh b (λx hx=>As b hx) (by omega) hN,aB];show(gm N a.aL a.cQ a.aN a.bO _ _ _ (vz N a cI gs ofP ofB eY eT near) l).bind _=_;rw[C6 b (λx hx=>En b hx) (by omega) hl ht hN,aB]
theorem Me{l M:Z Test}{S:Z bL}{i k:Nat}{K:Z Nat}{x:bL}(hx:S[i]? =some x)(hk:k<=l.length)(hK:∀j∈K,j<l.length)(hM:M=l.take k++K.map (λj=>l.getD j sA)):
  lB N a cI eY eT M [x]=lB N a cI eY eT M []↔jJ (xA (λx=>lB N a cI eY eT l [x]) (lB N a cI eY eT l []) S) i k K=0:=by
 have hT:∀j,j<l.length->xA (λx=>lB N a cI eY eT l [x]) (lB N a cI eY eT l []) S i j=(jg (tV N a cI eY eT [x]) (jf a (l.getD j sA).A).toNat (jf a (l.getD j sA).B).toNat != jg (tV N a cI eY eT []) (jf a (l.getD j sA).A).toNat (jf a (l.getD j sA).B).toNat):=λj hj=>by
  have hlx:l[j]? =some (l.getD j sA):=by grind
  refine CY hx ?_ ?_
  ·show(pr a _ l)[j]? =_;unfold pr;grind
  ·show(pr a _ l)[j]? =_;unfold pr;grind
 generalize xA (λx=>lB N a cI eY eT l [x]) (lB N a cI eY eT l []) S=T at hT ⊢;unfold lB pr;rw[List.map_inj_left];unfold jJ;constructor
 ·intro h;have h1:(List.range k).countP (T i)=0:=List.countP_eq_zero.2 λj hj=>by
   have hj:=kx.1 hj;have hjl:j<l.length:=by omega
   have hm:l.getD j sA∈M:=by
    rw[hM,List.getD_eq_getElem?_getD,aM hjl];refine List.mem_append_left _<|gh (i:=j) ?_
    grind
   grind
  grind [List.countP_eq_zero,sA,List.mem_append_right]
 ·intro h t htm;have key:∀j,j<l.length->T i j≠true->jg (tV N a cI eY eT [x]) (jf a (l.getD j sA).A).toNat (jf a (l.getD j sA).B).toNat=jg (tV N a cI eY eT []) (jf a (l.getD j sA).A).toNat (jf a (l.getD j sA).B).toNat:=λj hj hne=>by
   grind
  rw[hM]at htm
  rcases dJ.1 htm with hm|hm
  ·obtain⟨j,hj⟩:=eE hm
   grind [bR,dE,List.getElem?_take_of_lt,sA,List.countP_eq_zero,List.range]
  ·obtain⟨j,hj,rfl⟩:=dN.1 hm;exact key j (hK j hj)<|(List.countP_eq_zero (l:=K)).1 (by omega) j hj
theorem NV(b:iB a kb cI r gs ofP ofB eY eT){l:Z Test}(h:dA N a l=some 0)(hl:l.length<=1048576)(ht:∀t∈l,Bc a t)(near:Int)(hN:ns N):
  gq N a l near=some (if near<0\/100000<near then([],1)else if 20000<(Hb (bP 0 cI) gs ofP ofB near).length then([],2)else(CZ (xA (λx=>lB N a cI eY eT l [x]) (lB N a cI eY eT l [])<|vz N a cI gs ofP ofB eY eT near) (vz N a cI gs ofP ofB eY eT near).length l,0)):=by
 unfold gq;rw[h,aB,GG b near hN,aB]
 by_cases hn:near<0\/100000<near
 ·rw[aF hn,aF hn];rfl
 rw[aH hn,aH hn]
 by_cases hs:20000<(Hb (bP 0 cI) gs ofP ofB near).length
 ·rw[aF hs,aF hs];rfl
 rw[aH hs,aH hs];simp only[Hi,bne_self_eq_false,aR];have hFl:(vz N a cI gs ofP ofB eY eT near).length<=20000:=px (ln _ _) (by omega);rw[Bh b (λx hx=>As b hx) (by omega) hN,aB];have hF0:(Hb (bP 0 cI) gs ofP ofB near).filter (λx=> !DT N a cI eY eT x)=vz N a cI gs ofP ofB eY eT near:=rfl;rw[hF0];have hMi:=λ(M:Z Test)(hM:M.length<=1048576)(htM:∀t∈M,Bc a t)=>C6 b (S:=vz N a cI gs ofP ofB eY eT near) (λx hx=>En b hx) (by omega) hM htM hN;generalize hF:vz N a cI gs ofP ofB eY eT near=F at *;rw[hMi l hl ht,aB,j4 (by simp;omega),aB,List.nil_append];generalize hT:xA (λx=>lB N a cI eY eT l [x]) (lB N a cI eY eT l []) F=T;have hpart:=λ(M:Z Test)(i k:Nat)(K:Z Nat)(x:bL)(hx:F[i]? =some x)(hk:k<=l.length)(hK:∀j∈K,j<l.length)(hM:M=l.take k++K.map (λj=>l.getD j sA))=>Me (N:=N) (a:=a) (cI:=cI) (eY:=eY) (eT:=eT) hx hk hK hM;rw[hT]at hpart;have hmost:(yC N a cI eY eT F l).length=(List.range F.length).countP (λi=>decide (∀j,j<l.length->T i j=false)):=by
  rw[<-hT];exact NU (f:=λx=>lB N a cI eY eT l [x]) (λx=>uN) uN
 have hw0:wrap .i64 (((l.length:Nat):Int) - 1)=((l.length:Nat):Int) - 1:=sg (by omega);rw[hw0];refine XL ?_
 refine WO (Xv (n:=l.length) (λst=>((l.length:Nat):Int) - 1 - st.2) (λj st=>∃K:Z Nat,K.length<=j/\xz T F.length l.length (l.length - j) K/\Be T F.length (l.length - j) K=zX T F.length l.length/\st.1=l.take (l.length - j)++K.map (λj=>l.getD j sA))
  (Go:=λst=>st.1=CZ T F.length l) (Rt:=λ_=>False) ?_ ?_ (cP _) (by dsimp only;omega) ⟨[],cJ _,xz.start _ _ _,rfl,by simp⟩ (by omega)) ?_
 ·rintro j⟨o,c⟩hj e⟨K,k1,k2,k3,k4⟩;dsimp only at e k4 ⊢;subst k4;obtain⟨k,hk⟩:∃k,l.length - j=k+1:=⟨l.length - j - 1,by omega⟩;have hc:c=((k:Nat):Int):=by omega
  subst hc;have hkl:k<l.length:=by omega
  have hmj:l.length -(j+1)=k:=by omega
  have hlx:l[k]? =some (l.getD k sA):=by rw[List.getD_eq_getElem?_getD,aM (by omega)];rfl
  rw[hk]at k2 k3 ⊢;rw[hmj];have hKl:∀j∈K,j<l.length:=λj hj=>(k2.lo j hj).2;have hol:(l.take (k+1)++K.map (λj=>l.getD j sA)).length=k+1+K.length:=by rw[eC,dE,dQ];omega
  have ht1:(l.take (k+1)++K.map (λj=>l.getD j sA)).take k=l.take k:=by
   rw[List.take_append_of_le_length (by rw[dE];omega),List.take_take,Nat.min_eq_left (by omega)]
  have hd1:(l.take (k+1)++K.map (λj=>l.getD j sA)).drop (k+1)=K.map (λj=>l.getD j sA):=by
   rw[List.drop_append_of_le_length (by rw[dE];omega),List.drop_eq_nil_of_le (by rw[dE];omega),List.nil_append]
  have hKll:K.length<=l.length:=by omega
  have hMm:∀t∈l.take k++K.map (λj=>l.getD j sA),Bc a t:=λt htm=>by
   rcases dJ.1 htm with hm|hm
   ·exact ht t<|List.mem_of_mem_take hm
   ·obtain⟨j,hj,rfl⟩:=dN.1 hm;have hjl:=hKl j hj;rw[List.getD_eq_getElem?_getD,aM hjl];exact ht _<|cH hjl
  have hcnt:(yC N a cI eY eT F<|l.take k++K.map (λj=>l.getD j sA)).length=(List.range F.length).countP (λi=>decide<|jJ T i k K=0):=by
   unfold yC;rw[<-List.countP_eq_length_filter];refine(C5 λi x hx=>?_).symm;rw[decide_eq_decide];exact(hpart _ i k K x hx (by omega) hKl rfl).symm
  have hni:=PD k2 hkl;have hMl:(yC N a cI eY eT F<|l.take k++K.map (λj=>l.getD j sA)).length<=F.length:=ln _ _;have hstep:=k2.step hkl;rw[bS (show((k:Nat):Int)>=0 by omega),aP];refine IT (tv _ k (by rw[hol];omega)) ?_;rw[ht1];refine XC (by simp only[List.length_nil,dE];omega) ?_;rw[List.nil_append,bF (by omega)];refine IT (r5 _ (k+1) (by rw[hol];omega)) ?_;rw[hd1];refine XC (by simp only[dE,dQ];omega) ?_;refine IT (hMi _ (by rw[eC,dE,dQ];omega) hMm) ?_;have ek:Be T F.length (k+1) K=Be T F.length k (if DU T F.length K k=true then k::K else K):=rfl;refine WO (P:=λs=>∃K':Z Nat,K'.length<=j+1/\xz T F.length l.length k K'/\Be T F.length k K'=zX T F.length l.length/\s=l.take k++K'.map (λj=>l.getD j sA)) (Xn (λhb=>IS ?_)<|λhb=>IS ?_)<|λs hs=>W8 ⟨?_,hs⟩
  ·have hb:=beq_iff_eq.1 hb;have hnd:DU T F.length K k=false:=hni.2 (by rw[<-hcnt,<-hmost];omega);rw[ek,hnd,aH jS]at k3;rw[hnd,aH jS]at hstep;exact⟨K,by omega,hstep,k3,rfl⟩
  ·have hb:=beq_eq_false_iff_ne.1 hb;have hnd:DU T F.length K k=true:=by
    cases hq:DU T F.length K k with
    |true=>rfl
    |false=>
     have:=hni.1 hq;rw[<-hcnt,<-hmost]at this;exact absurd (by rw[this]) hb
   rw[ek,hnd,aF rfl]at k3;rw[hnd,aF rfl]at hstep;refine⟨k::K,by simp only[eN];omega,hstep,k3,?_⟩;have el:l[k]=l.getD k sA:=by rw[aM hkl]at hlx;injection hlx
   rw[dM hkl,eW,kN,el];rfl
  ·show((l.length:Nat):Int) - 1 - wrap .i64 (((k:Nat):Int) - 1)=_;rw[sg (by omega)];omega
 ·rintro⟨o,c⟩e⟨K,k1,k2,k3,k4⟩;dsimp only at e k4 ⊢;rw[cA (by omega),aR];refine Xd ?_;dsimp only;have k3:K=zX T F.length l.length:=by rw[Nat.sub_self]at k3;exact k3
  rw[k4,k3,Nat.sub_self,List.take_zero,List.nil_append];rfl
 intro o ho;exact Xf ho (λst hst=>IS (by rw[hst]))<|λr hr=>hr.elim
end
section
variable {N:Nat}
theorem xB{a:gM}{l:Z Test}{near:Int}(ha:bk a<=1048576)(hl:bk l<=1048576)(_hn:bk near<=1048576)(hN:ns N):dX N a l near=some true:=by
 have hs:=KB ha;have hll:l.length<=1048576:=by have:=BC l;omega
 have aw:=QH hN;have fin:∀{x:Z bL×Int}{y:Z Test×Int},x.1.length<=1000000000->y.1.length<=1000000000->mu N a l near=some x->fu N a l near=some x->oT N a l near=some y->gq N a l near=some y->dX N a l near=some true:=λ{x y}l1 l2 h1 h2 h3 h4=>by
  unfold dX;rw[h1,aB,h2,aB,h3,aB,h4,aB,aw,L8 (by omega),L9 (by omega)];simp
 have bad:∀{e:Int},e≠0->gL N a l near=some ([],[],e)->fu N a l near=some ([],e)->gq N a l near=some ([],e)->dX N a l near=some true:=λ{e}he h h2 h3=>
  fin (by simp) (by simp) (L7 he h) h2 (Pv he h) h3
 rcases checked (N:=N) hs hN with⟨e,he,h1,h2⟩|⟨b,h1,h2⟩
 ·have hc:=C1 he h2 l;exact bad he (Ek he<|Ps he h1 l) (C7 he hc near)<|GI he hc near
 rename_i kb cI r gs ofP ofB eY eT;have hlf:=b.vt.yU;have hT:=DV (N:=N) (by omega) h2 hll hN
 rcases QK b h1 hll hN with⟨e1,e2⟩|⟨e1,e2⟩
 ·exact bad e1 (Ek e1 e2) (C7 e1 hT near)<|GI e1 hT near
 rw[e1]at hT;obtain⟨_,t2,_⟩:=I2 e1;have hH:=L6 b e2 hll t2 near hN;have hM:=K3 b hT hll t2 near hN;have hL:=NV b hT hll t2 near hN
 by_cases hn:near<0\/100000<near
 ·rw[aF hn]at hH hM hL;exact bad (by decide) hH hM hL
 rw[aH hn]at hH hM hL
 by_cases hsl:20000<(Hb (bP 0 cI) gs ofP ofB near).length
 ·rw[aF hsl]at hH hM hL;exact bad (by decide) hH hM hL
 rw[aH hsl]at hH hM hL;have hFl:(vz N a cI gs ofP ofB eY eT near).length<=20000:=px (ln _ _) (by omega);have hX:=NQ hH (by omega) (λx=>by rw[uN];omega);have hY:=QM hH (by omega) hll (λx=>uN) uN hN;refine fin ?_ ?_ hX hM hY hL
 ·exact px (ln _ _) (by omega)
 ·dsimp only;rw[NR];have:=Pw (T:=xA (λx=>lB N a cI eY eT l [x]) (lB N a cI eY eT l [])<|vz N a cI gs ofP ofB eY eT near) (n:=(vz N a cI gs ofP ofB eY eT near).length) (l:=l);omega
end
end Go.Gk
