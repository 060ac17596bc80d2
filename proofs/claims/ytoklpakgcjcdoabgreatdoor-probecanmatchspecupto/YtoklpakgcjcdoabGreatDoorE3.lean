/-
  Helping texts: plain functions and plain laws. No statement of the seed is proved here.
-/
import Derived.Test.YtoklpakgcjcdoabGreatDoorE2
import Derived.Test.YtoklpakgcjcdoabGreatDoorA2
set_option linter.unusedVariables false
set_option linter.unusedSimpArgs false
set_option linter.unusedSectionVars false
namespace Go.Gk
open Go IntKind Classical
def GM(t:Nat)(L:Nat->Nat->Prop)(op:Nat->Prop)(done:Nat->Nat->Prop)(u:Z Int):Prop:=
 ∃r E,I7 t u r/\oq r E/\yN t r E/\(∀p∈E,(L p.1 p.2\/L p.2 p.1)/\¬op p.1/\¬op p.2)/\∀i j,done i j->¬op i->¬op j->(i,j)∈E\/(j,i)∈E
theorem GM.mono{t:Nat}{L:Nat->Nat->Prop}{op:Nat->Prop}{d d':Nat->Nat->Prop}{u:Z Int}(h:GM t L op d u)(hd:∀i j,d' i j->d i j):GM t L op d' u:=by
 obtain⟨r,E,h1,h2,h3,h4,h5⟩:=h;exact⟨r,E,h1,h2,h3,h4,λi j hij=>h5 i j<|hd i j hij⟩
theorem GM.skip{t:Nat}{L:Nat->Nat->Prop}{op:Nat->Prop}{d:Nat->Nat->Prop}{u:Z Int}(h:GM t L op d u){i k:Nat}(ho:op i\/op k):GM t L op (λa b=>d a b\/(a=i/\b=k)) u:=by
 obtain⟨r,E,h1,h2,h3,h4,h5⟩:=h;refine⟨r,E,h1,h2,h3,h4,λa b hab ha hb=>?_⟩
 grind
section
variable {N:Nat}
theorem GB{t:Nat}{u:Z Int}{r:Nat->Nat}(h:I7 t u r){i k:Nat}(hi:i<t)(hk:k<t)(ht:t<N)(ht2:t<=1000000000):
  Ok (gR N u ((i:Nat):Int) (k:Int)) (λu'=>I7 t u'<|EH r (r i)<|r k):=by
 have hl:=h.len;unfold gR;refine WR (h.at hi)<|WR (h.at hk) ?_
 refine WJ (Xr (n:=t) (λst=>st.2) (λj st=>st.1=MQ t (λx=>if x<j then((EH r (r i) (r k) x:Nat):Int)else((r x:Nat):Int))) (Go:=λst=>I7 t st.1<|EH r (r i)<|r k) (Rt:=λ_=>False) ?_ ?_ (cO _) rfl ?_ ht) ?_
 ·rintro j⟨u1,jj⟩hj e hI;dsimp only at e hI ⊢;subst e;subst hI;rw[An,iG hj,aP];have hx:=I6 (n:=t) (f:=λx=>if x<j then((EH r (r i) (r k) x:Nat):Int)else((r x:Nat):Int)) hj;rw[aI<|Nat.lt_irrefl j]at hx;refine WR hx ?_;refine WJ (P:=λs=>s=MQ t (λx=>if x<j+1 then((EH r (r i) (r k) x:Nat):Int)else((r x:Nat):Int))) (Xj (λhb=>WR hx<|OF ?_)<|λhb=>OF ?_)<|λs hs=>W4 ⟨bF (by omega),hs⟩
  ·have hb:r j=r k:=by grind
   rw[cK]
   grind [MR,EH]
  grind [Ao,EH]
 ·rintro⟨u1,jj⟩e hI;dsimp only at e hI ⊢;subst e;subst hI;rw[An,lL,aQ];refine W9 ?_;show MQ t _=(List.range t).map _;exact Ao λx hx=>by rw[aH hx]
 ·dsimp only;rw[show u=MQ t (λi=>((r i:Nat):Int))from h];rfl
 intro o ho;exact Xa ho (λs hs=>OF hs)<|λr hr=>hr.elim
theorem GM.join{t:Nat}{L:Nat->Nat->Prop}{op:Nat->Prop}{d:Nat->Nat->Prop}{u:Z Int}(h:GM t L op d u){i k:Nat}(hi:i<t)(hk:k<t)(ht:t<N)(ht2:t<=1000000000)(hL:L i k)(hoi:¬op i)(hok:¬op k):
  Ok (gR N u (i:Int) (k:Int)) (GM t L op<|λa b=>d a b\/(a=i/\b=k)):=by
 obtain⟨r,E,h1,h2,h3,h4,h5⟩:=h;refine(GB h1 hi hk ht ht2).mono λu' hu'=>⟨_,_,hu',h2.rel i k,h3.rel hi hk,λp hp=>?_,λa b hab ha hb=>?_⟩
 ·grind
 grind
theorem GM.tU{t:Nat}{L:Nat->Nat->Prop}{op:Nat->Prop}{d:Nat->Nat->Prop}{u:Z Int}(h:GM t L op d u){i k:Nat}(hi:i<t)(hk:k<t)(ht:t<N)(ht2:t<=1000000000)(hL:L i k)(hoi:¬op i)(hok:¬op k):
  Ok (gR N u (k:Int) (i:Int)) (GM t L op<|λa b=>d a b\/(a=i/\b=k)):=by
 obtain⟨r,E,h1,h2,h3,h4,h5⟩:=h;refine(GB h1 hk hi ht ht2).mono λu' hu'=>⟨_,_,hu',h2.rel k i,h3.rel hk hi,λp hp=>?_,λa b hab ha hb=>?_⟩
 ·grind
 grind
theorem I8{bs:Z bV}{n m:Nat}{h:eB}{rs:Z (Z aF)}(hh:F5 bs n m h)(hr:rs.length=n)(hn:n+m<=1000000000):gr N rs h=some ((eI n h:Nat):Int)/\eI n h<n+m:=by
 obtain⟨k,e,h1,h2⟩:=hh.num
 grind [gr,eI,cK,wrap_add]
end
structure L1 (bs:Z bV) (pcs:Z aD) (fl:Z aU) (ls:Z dA) (r2:Nat->Nat) (j:Nat) (W:Z Int):Prop where
 len:W.length=j
 no:∀i l,i<j->ls[i]? =some l->lX bs pcs fl l=none->W[i]? =some (-1)
 yes:∀i l v,i<j->ls[i]? =some l->lX bs pcs fl l=some v->W[i]? =some ((r2 v:Nat):Int)
theorem L1.conn{bs:Z bV}{pcs:Z aD}{fl:Z aU}{ls:Z dA}{r2:Nat->Nat}{W:Z Int}(h:L1 bs pcs fl ls r2 ls.length W){i k:Nat}{x y:dA}(hx:ls[i]? =some x)(hy:ls[k]? =some y):
  j9 W i k=true↔∃u v,lX bs pcs fl x=some u/\lX bs pcs fl y=some v/\r2 u=r2 v:=by
 have hi:=(bS.1 hx).1;have hk:=(bS.1 hy).1;unfold j9;rw[dD,dR,beq_iff_eq,List.getD_eq_getElem?_getD,List.getD_eq_getElem?_getD]
 cases hn:lX bs pcs fl x with
 |none=>
  rw[h.no i x hi hx hn,Option.getD_some];simp
 |some u=>
  rw[h.yes i x u hi hx hn,Option.getD_some]
  cases hm:lX bs pcs fl y with
  |none=>
   rw[h.no k y hk hy hm,Option.getD_some];simp
  |some v=>
   rw[h.yes k y v hk hy hm,Option.getD_some]
   grind
theorem CT{bs:Z bV}{pcs:Z aD}{fl:Z aU}{l:dA}{v:Nat}(h:lX bs pcs fl l=some v):v<pcs.length+bs.length:=by
 unfold lX at h
 cases hh:rB bs pcs l with
 |none=>grind
 |some q=>
  rw[hh,Option.bind_some]at h;split at h
  ·cases h
  ·injection h with h
   obtain⟨k,e,h1,h2⟩:=(Dx hh).num
   grind [eI]
section
variable {N:Nat}
theorem Pf{bs:Z bV}{pcs:Z aD}{ls:Z dA}{fl:Z aU}(hfl:Si bs pcs.length bs.length fl)(hfn:fl.length<=1073741824)(hb:lK bs)(hp:pcs.length<=1000000)(hr:∀p∈pcs,p.eD.length<=1000000/\∀x∈p.eD,x.X0<x.X1)(hl:ls.length<=1000000)(hd:∀l:dA,∀b∈bs,∀p∈pcs,nE l b=true->mA l p=true->False)(hN:nq N):
  ∃r2 W,fR N bs ls (pcs.map aD.cN) (pcs.map aD.eD) (cU bs pcs) fl=some W/\CR (pcs.length+bs.length) (Qm pcs.length (cU bs pcs) fl) r2/\L1 bs pcs fl ls r2 ls.length W:=by
 suffices h:Ok (fR N bs ls (pcs.map aD.cN) (pcs.map aD.eD) (cU bs pcs) fl) (λW=>∃r2,CR (pcs.length+bs.length) (Qm pcs.length (cU bs pcs) fl) r2/\L1 bs pcs fl ls r2 ls.length W)by
  obtain⟨W,h1,r2,h2,h3⟩:=h
  grind
 have hbl:=hb.len;have hrl:(pcs.map aD.eD).length=pcs.length:=dM _;have hnum:∀{h:eB},F5 bs pcs.length bs.length h->gr N (pcs.map aD.eD) h=some ((eI pcs.length h:Nat):Int)/\eI pcs.length h<pcs.length+bs.length:=λhh=>I8 hh hrl (by omega);unfold fR;rw[hrl,wrap_add (by omega)];refine IS (pI false (by omega)) ?_
 refine WJ (Xr (n:=fl.length) (λst=>st.2) (λq st=>st.1.length=pcs.length+bs.length/\∀v,v<pcs.length+bs.length->st.1[v]? =some (decide (mC pcs.length (fl.take q) v)))
  (Go:=λst=>st.1.length=pcs.length+bs.length/\∀v,v<pcs.length+bs.length->st.1[v]? =some (decide (mC pcs.length fl v))) (Rt:=λ_=>False) ?_ ?_ (cO _) rfl ⟨List.length_replicate,λv hv=>?_⟩ (by omega)) ?_
 ·rintro q⟨om,qq⟩hq e⟨hI1,hI2⟩;dsimp only at e hI1 hI2 ⊢;subst e;have hx:fl[q]? =some fl[q]:=aM hq;have hts:=dH hq;rw[iG hq,aP];refine WR hx<|WJ (P:=λs=>s.length=pcs.length+bs.length/\∀v,v<pcs.length+bs.length->s[v]? =some (decide<|mC pcs.length (fl.take<|q+1) v)) (Xj (λho=>?_)<|λho=>OF ⟨hI1,λv hv=>?_⟩)<|λs hs=>W4 ⟨bF (by omega),hs⟩
  ·obtain⟨c1,c2⟩:=hnum<|hfl.op _ (cH hq) ho
   refine WR hx<|IS c1<|WR (hI2 _ c2)<|OF ⟨by grind,λv hv=>?_⟩
   rw[cK,hts]
   by_cases e:eI pcs.length fl[q].eB=v
   ·subst e;rw[List.getElem?_set_self (by omega)];congr 1;exact(bQ ⟨fl[q],List.mem_append_right _<|lY.2 rfl,ho,rfl⟩).symm
   ·rw[List.getElem?_set_ne e,hI2 v hv];congr 1;rw[decide_eq_decide];constructor
    ·rintro⟨x,hx,h1,h2⟩;exact⟨x,List.mem_append_left _ hx,h1,h2⟩
    ·rintro⟨x,hx,h1,h2⟩
     rcases dI.1 hx with hx|hx
     ·exact⟨x,hx,h1,h2⟩
     ·rw[lY]at hx;subst hx;exact absurd h2 e
  ·rw[hI2 v hv,hts];congr 1;rw[decide_eq_decide];constructor
   ·rintro⟨x,hx,h1,h2⟩;exact⟨x,List.mem_append_left _ hx,h1,h2⟩
   ·rintro⟨x,hx,h1,h2⟩
    rcases dI.1 hx with hx|hx
    ·exact⟨x,hx,h1,h2⟩
    ·rw[lY]at hx;subst hx;rw[ho]at h1;cases h1
 ·rintro⟨om,qq⟩e hI;dsimp only at e hI ⊢;subst e;rw[lL,aQ];rw[dY]at hI;exact W9 hI
 ·rw[List.getElem?_replicate,aH hv];congr 1;exact(bY (λ⟨x,hx,_⟩=>by simp at hx)).symm
 intro o ho;refine Xa ho ?_<|λr hr=>hr.elim
 rintro⟨om,qq⟩⟨hol,hom⟩;dsimp only at hol hom ⊢;rw[hol];refine IS (pI 0 (by omega)) ?_;refine WJ (Xr (n:=pcs.length+bs.length) (λst=>st.2) (λq st=>st.1=MQ (pcs.length+bs.length) (λx=>if x<q then((x:Nat):Int)else 0)) (Go:=λst=>I7 (pcs.length+bs.length) st.1<|λi=>i) (Rt:=λ_=>False) ?_ ?_ (cO _) rfl ?_ (by omega)) ?_
 ·rintro q⟨u,qq⟩hq e hI;dsimp only at e hI ⊢;subst e;subst hI;rw[An,iG hq,aP];refine WR (I6 hq)<|W4 ⟨bF (by omega),?_⟩
  dsimp only;rw[cK];refine MR (λ_=>by rw[aH (by omega)])<|λx _ hne=>?_
  by_cases h1:x<q
  ·rw[aH h1,aH (by omega)]
  ·rw[aI h1,aI (by omega)]
 ·rintro⟨u,qq⟩e hI;dsimp only at e hI ⊢;subst e;subst hI;rw[An,lL,aQ];refine W9 ?_;exact Ao λx hx=>by rw[aH hx]
 ·dsimp only;rw[Pb];exact Ao λx _=>by rw[aI (by omega)]
 intro o ho;refine Xa ho ?_<|λr hr=>hr.elim
 rintro⟨u0,qq0⟩h0;dsimp only at h0 ⊢;have htl:(cU bs pcs).length=bs.length:=by unfold cU;simp
 have hto:=zy (bs:=bs) (pcs:=pcs) (by omega);have omT:∀{v},v<pcs.length+bs.length->mC pcs.length fl v->om[v]? =some true:=λhv h=>by rw[hom _ hv,bQ h]
 have omF:∀{v},v<pcs.length+bs.length->¬mC pcs.length fl v->om[v]? =some false:=λhv h=>by rw[hom _ hv,bY h]
 refine WJ (Xr (n:=bs.length) (λst=>st.2) (λq st=>GM (pcs.length+bs.length) (Jd pcs.length (cU bs pcs) fl) (mC pcs.length fl) (λa b=>∃k l,k<q/\(cU bs pcs)[k]? =some l/\((a:Nat):Int)∈l/\b=pcs.length+k) st.1)
  (Go:=λst=>GM (pcs.length+bs.length) (Jd pcs.length (cU bs pcs) fl) (mC pcs.length fl) (λa b=>Lk pcs.length (cU bs pcs) a b) st.1) (Rt:=λ_=>False) ?_ ?_ (cO _) rfl
  ⟨_,_,h0,oq.id,yN.id _,λp hp=>(by cases hp),λi j⟨k,l,hk,_⟩=>by omega⟩ (by omega)) ?_
 ·rintro q⟨u,qq⟩hq e hI;dsimp only at e hI ⊢;subst e;rw[iG hq,aP];have hqx:(cU bs pcs)[q]? =some ((cU bs pcs)[q]'(by omega)):=aM _;have hqm:(cU bs pcs)[q]'(by omega)∈cU bs pcs:=cH _;generalize (cU bs pcs)[q]'(by omega)=T at hqx hqm;obtain⟨hl1,hl2⟩:=hto _ hqm;have hT:g9 N (cU bs pcs) ((q:Nat):Int)=some T:=by
   unfold g9;rw[cB hqx];rfl
  refine IS hT ?_;rw[wrap_add (by omega)]
  refine WJ (Xr (n:=T.length) (λst=>st.2) (λt st=>GM (pcs.length+bs.length) (Jd pcs.length (cU bs pcs) fl) (mC pcs.length fl) (λa b=>(∃k l,k<q/\(cU bs pcs)[k]? =some l/\((a:Nat):Int)∈l/\b=pcs.length+k)\/(((a:Nat):Int)∈T.take t/\b=pcs.length+q)) st.1)
   (Go:=λst=>GM (pcs.length+bs.length) (Jd pcs.length (cU bs pcs) fl) (mC pcs.length fl) (λa b=>(∃k l,k<q/\(cU bs pcs)[k]? =some l/\((a:Nat):Int)∈l/\b=pcs.length+k)\/(((a:Nat):Int)∈T/\b=pcs.length+q)) st.1) (Rt:=λ_=>False) ?_ ?_ (cO _) rfl
   (hI.mono λi j h=>by rcases h with h|⟨h,_⟩;exact h;simp at h) (by omega)) ?_
  ·rintro t⟨u,tt⟩ht e hJ;dsimp only at e hJ ⊢;subst e;rw[iG ht,aP];have htx:T[t]? =some T[t]:=aM ht;obtain⟨i,hi,e⟩:=hl2 _<|cH ht
   have hLk:Jd pcs.length (cU bs pcs) fl i (pcs.length+q):= .inl ⟨q,_,hqx,by rw[<-e];exact cH ht,rfl⟩;have hfin:∀s,GM (pcs.length+bs.length) (Jd pcs.length (cU bs pcs) fl) (mC pcs.length fl) (λa b=>((∃k l,k<q/\(cU bs pcs)[k]? =some l/\((a:Nat):Int)∈l/\b=pcs.length+k)\/(((a:Nat):Int)∈T.take t/\b=pcs.length+q))\/(a=i/\b=pcs.length+q)) s->
     GM (pcs.length+bs.length) (Jd pcs.length (cU bs pcs) fl) (mC pcs.length fl) (λa b=>(∃k l,k<q/\(cU bs pcs)[k]? =some l/\((a:Nat):Int)∈l/\b=pcs.length+k)\/(((a:Nat):Int)∈T.take (t+1)/\b=pcs.length+q)) s:=λs hs=>hs.mono λa b h=>by
    rw[dH ht]at h
    rcases h with h|⟨h,hb⟩
    ·exact .inl<|.inl h
    ·rcases dI.1 h with h|h
     ·exact .inl<|.inr ⟨h,hb⟩
     ·rw[lY,e]at h;exact .inr ⟨by omega,hb⟩
   by_cases hoq:mC pcs.length fl (pcs.length+q)
   ·refine IS (x:=false) (by rw[cB<|omT (by omega) hoq];rfl) ?_;rw[aQ];exact W4 ⟨bF (by omega),hfin _<|hJ.skip<|.inr hoq⟩
   by_cases hoi:mC pcs.length fl i
   ·refine IS (x:=false) (by rw[cB<|omF (by omega) hoq,aB,jH,aP,cB htx,aB,e,cB<|omT (by omega) hoi];rfl) ?_;rw[aQ];exact W4 ⟨bF (by omega),hfin _<|hJ.skip<|.inl hoi⟩
   ·refine IS (x:=true) (by rw[cB<|omF (by omega) hoq,aB,jH,aP,cB htx,aB,e,cB<|omF (by omega) hoi];rfl) ?_;rw[aP];refine WJ (WR htx ?_)<|λs hs=>W4 ⟨bF (by omega),hfin s hs⟩
    rw[e];exact WJ (hJ.tU (by omega) (by omega) (by omega) (by omega) hLk hoi hoq)<|λs hs=>OF hs
  ·rintro⟨u,tt⟩e hJ;dsimp only at e hJ ⊢;subst e;rw[lL,aQ];rw[dY]at hJ;exact W9 hJ
  intro o ho;refine Xa ho (λst hst=>W4 ⟨bF (by omega),hst.mono λa b⟨k,l,hk,h1,h2,h3⟩=>?_⟩)<|λr hr=>hr.elim
  by_cases hkq:k<q
  ·exact .inl ⟨k,l,hkq,h1,h2,h3⟩
  ·have:k=q:=by omega
   subst this;rw[hqx]at h1;injection h1 with h1;subst h1
   exact .inr ⟨h2,h3⟩
 ·rintro⟨u,qq⟩e hI;dsimp only at e hI ⊢;subst e;rw[lL,aQ];exact W9<|hI.mono λa b⟨k,l,h1,h2,h3⟩=>⟨k,l,by have:=(bS.1 h1).1;omega,h1,h2,h3⟩
 intro o ho;refine Xa ho ?_<|λr hr=>hr.elim
 rintro⟨u1,qq1⟩h1;dsimp only at h1 ⊢
 refine WJ (Xr (n:=fl.length) (λst=>st.2) (λq st=>GM (pcs.length+bs.length) (Jd pcs.length (cU bs pcs) fl) (mC pcs.length fl) (λa b=>Lk pcs.length (cU bs pcs) a b\/∃x∈fl.take q,x.Open=false/\x.A=((a:Nat):Int)/\x.B=((b:Nat):Int)) st.1)
  (Go:=λst=>GM (pcs.length+bs.length) (Jd pcs.length (cU bs pcs) fl) (mC pcs.length fl) (Jd pcs.length (cU bs pcs) fl) st.1) (Rt:=λ_=>False) ?_ ?_ (cO _) rfl
  (h1.mono λi j h=>h.elim id (λ⟨x,hx,_⟩=>by simp at hx)) (by omega)) ?_
 ·rintro q⟨u,qq⟩hq e hI;dsimp only at e hI ⊢;subst e;rw[iG hq,aP];have hx:fl[q]? =some fl[q]:=aM hq;have hxm:fl[q]∈fl:=cH hq;have hts:=dH hq;generalize fl[q]=x at hx hxm hts
  cases ho:x.Open with
  |true=>
   refine IS (x:=false) (by rw[cB hx,aB,ho];rfl) ?_;rw[aQ];refine W4 ⟨bF (by omega),hI.mono λa b h=>?_⟩;rw[hts]at h
   rcases h with h|⟨y,hy,g1,g2⟩
   ·exact .inl h
   ·rcases dI.1 hy with hy|hy
    ·exact .inr ⟨y,hy,g1,g2⟩
    ·rw[lY]at hy;subst hy;rw[ho]at g1;cases g1
  |false=>
   obtain⟨i,k,e1,e2,e3,e4⟩:=hfl.br _ hxm ho;have hLk:Jd pcs.length (cU bs pcs) fl i k:= .inr ⟨x,hxm,ho,e1,e2⟩;have hfin:∀s,GM (pcs.length+bs.length) (Jd pcs.length (cU bs pcs) fl) (mC pcs.length fl) (λa b=>(Lk pcs.length (cU bs pcs) a b\/∃x∈fl.take q,x.Open=false/\x.A=((a:Nat):Int)/\x.B=((b:Nat):Int))\/(a=i/\b=k)) s->
     GM (pcs.length+bs.length) (Jd pcs.length (cU bs pcs) fl) (mC pcs.length fl) (λa b=>Lk pcs.length (cU bs pcs) a b\/∃x∈fl.take (q+1),x.Open=false/\x.A=((a:Nat):Int)/\x.B=((b:Nat):Int)) s:=λs hs=>hs.mono λa b h=>by
    rw[hts]at h
    rcases h with h|⟨y,hy,g1,g2,g3⟩
    ·exact .inl<|.inl h
    ·rcases dI.1 hy with hy|hy
     ·exact .inl<|.inr ⟨y,hy,g1,g2,g3⟩
     ·rw[lY]at hy;subst hy;rw[e1]at g2;rw[e2]at g3;exact .inr ⟨by omega,by omega⟩
   by_cases hoi:mC pcs.length fl i
   ·refine IS (x:=false) (by rw[cB hx,aB,ho,jH,aP,aB,e1,cB<|omT (by omega) hoi];rfl) ?_;rw[aQ];exact W4 ⟨bF (by omega),hfin _<|hI.skip<|.inl hoi⟩
   by_cases hok:mC pcs.length fl k
   ·refine IS (x:=false) (by rw[cB hx,aB,ho,jH,aP,aB,e1,cB<|omF (by omega) hoi,aB,jH,aP,aB,e2,cB<|omT (by omega) hok];rfl) ?_;rw[aQ];exact W4 ⟨bF (by omega),hfin _<|hI.skip<|.inr hok⟩
   ·refine IS (x:=true) (by rw[cB hx,aB,ho,jH,aP,aB,e1,cB<|omF (by omega) hoi,aB,jH,aP,aB,e2,cB<|omF (by omega) hok];rfl) ?_;rw[aP];refine WJ (WR hx<|WR hx ?_)<|λs hs=>W4 ⟨bF (by omega),hfin s hs⟩
    rw[e1,e2];exact WJ (hI.join (by omega) (by omega) (by omega) (by omega) hLk hoi hok)<|λs hs=>OF hs
 ·rintro⟨u,qq⟩e hI;dsimp only at e hI ⊢;subst e;rw[lL,aQ];rw[dY]at hI;exact W9 hI
 intro o ho;refine Xa ho ?_<|λr hr=>hr.elim
 rintro⟨u2,qq2⟩⟨r2,E,v1,v2,v3,v4,v5⟩;dsimp only at v1 ⊢;have hC:CR (pcs.length+bs.length) (Qm pcs.length (cU bs pcs) fl) r2:=
  ⟨λi j h=>(v5 i j h.1 h.2.1 h.2.2).elim (λh=>v2 (i,j) h) (λh=>(v2 (j,i) h).symm),λS hS i j hi hj=>v3 S (λp hp=>by
   obtain⟨g1,g2,g3⟩:=v4 p hp
   rcases g1 with g1|g1
   ·exact hS p.1 p.2 ⟨g1,g2,g3⟩
   ·exact(hS p.2 p.1 ⟨g1,g3,g2⟩).symm) i j hi hj⟩
 refine WJ (Xr (n:=ls.length) (λst=>st.2) (λj st=>L1 bs pcs fl ls r2 j st.1) (Go:=λst=>L1 bs pcs fl ls r2 ls.length st.1) (Rt:=λ_=>False) ?_ ?_ (cO _) rfl ⟨rfl,λi l h=>by omega,λi l v h=>by omega⟩ (by omega)) ?_
 ·rintro j⟨W,jj⟩hj e I;dsimp only at e I ⊢;subst e;rw[iG hj,aP];have hx:ls[j]? =some ls[j]:=aM hj;have hWl:=I.len;have push:∀(c:Int),(lX bs pcs fl ls[j]=none->c = -1)->(∀v,lX bs pcs fl ls[j]=some v->c=((r2 v:Nat):Int))->L1 bs pcs fl ls r2 (j+1) (W++[c]):=λc g1 g2=>by
   have hlast:(W++[c])[j]? =some c:=by rw[jO (by omega),hWl];simp
   have hold:∀i,i<j->(W++[c])[i]? =W[i]? :=λi hi=>kM (by omega);refine⟨by rw[eP,hWl];rfl,λi l hi hil hn=>?_,λi l v hi hil hs=>?_⟩
   ·by_cases e:i=j
    ·subst e;rw[hx]at hil;injection hil with hil;subst hil;rw[hlast,g1 hn]
    ·rw[hold i (by omega)];exact I.no i l (by omega) hil hn
   ·by_cases e:i=j
    ·subst e;rw[hx]at hil;injection hil with hil;subst hil;rw[hlast,g2 v hs]
    ·rw[hold i (by omega)];exact I.yes i l v (by omega) hil hs
  refine WR hx<|IS (HU hb hp hr ls[j] hN) ?_
  rw[ML<|hd ls[j]];dsimp only
  cases hh:rB bs pcs ls[j]with
  |none=>
   refine IS (x:=true) rfl ?_;rw[aP];refine WJ (Xw (by simp only[dX,List.length_nil];omega)<|OF rfl)<|λs hs=>W4 ⟨bF (by omega),?_⟩
   dsimp only;rw[<-hs];exact push _ (λ_=>rfl) (λv hv=>by unfold lX at hv;rw[hh]at hv;cases hv)
  |some h=>
   obtain⟨c1,c2⟩:=hnum<|Dx hh
   rw[Option.getD_some,Option.isSome_some]
   by_cases hop:mC pcs.length fl (eI pcs.length h)
   ·refine IS (x:=true) (by rw[ku,aQ,c1,aB,cB<|omT c2 hop];rfl) ?_;rw[aP];refine WJ (Xw (by simp only[dX,List.length_nil];omega)<|OF rfl)<|λs hs=>W4 ⟨bF (by omega),?_⟩
    dsimp only;rw[<-hs];exact push _ (λ_=>rfl) (λv hv=>by unfold lX at hv;rw[hh,Option.bind_some,aH hop]at hv;cases hv)
   ·refine IS (x:=false) (by rw[ku,aQ,c1,aB,cB<|omF c2 hop];rfl) ?_;rw[aQ];refine WJ (IS c1<|WR (v1.at c2)<|Xw (by simp only[dX,List.length_nil];omega)<|OF rfl)<|λs hs=>W4 ⟨bF (by omega),?_⟩
    dsimp only;rw[<-hs];refine push _ (λhn=>?_)<|λv hv=>?_
    ·unfold lX at hn;rw[hh,Option.bind_some,aI hop]at hn;cases hn
    ·unfold lX at hv;rw[hh,Option.bind_some,aI hop]at hv;injection hv with hv;rw[hv]
 ·rintro⟨W,jj⟩e I;dsimp only at e I ⊢;subst e;rw[lL,aQ];exact W9 I
 intro o ho;exact Xa ho (λst hst=>OF ⟨r2,hC,hst⟩)<|λr hr=>hr.elim
end
section
variable {N:Nat}{a:gZ}{ka:Z (Z aA)}{cI:Z (Z (Z aA))}{r:Nat->Nat}{gs:Z bZ}{ofP ofB fK:Z Int}{fG:Z eB}
theorem L2(b:iF a ka cI r gs ofP ofB fK fG){fl:Z aU}(h0:pZ a.aN (bN 0 cI).length fl=0)(hN:nq N):
  ∃W,fR N a.aN a.bO ((bN 0 cI).map aD.cN) ((bN 0 cI).map aD.eD) (cU a.aN<|bN 0 cI) fl=some W/\W.length=a.bO.length/\∀i k,i<a.bO.length->k<a.bO.length->j9 W i k=j9 (wC N a cI fK fG fl) i k:=by
 have hf:=b.yO.2;have hlf:=b.vt.yO;obtain⟨h20,hok⟩:=Eh h0;obtain⟨rW,W,w1,w2,w3⟩:=Pf (N:=N) (bs:=a.aN) (pcs:=bN 0 cI) (ls:=a.bO) (fl:=fl) hok (by omega) b.zB.gb (by omega) (λp hp=>⟨by have:=(tE b hp).1;omega,λx hx=>((tE b hp).2.1 x hx).2.1⟩) (by omega) (λl=>MM b l) hN;obtain⟨rC,c2,c3⟩:=Pe b h0 hN;have cW:CR ((bN 0 cI).length+a.aN.length) (Qm (bN 0 cI).length (cU a.aN<|bN 0 cI) fl) rC:=⟨c2.co,c2.fi⟩;refine⟨W,w1,w3.len,λi k hi hk=>?_⟩;have hx:a.bO[i]? =some a.bO[i]:=aM hi;have hy:a.bO[k]? =some a.bO[k]:=aM hk;rw[jQ,w3.conn hx hy,c3 hx hy];constructor
 ·rintro⟨u,v,g1,g2,g3⟩;exact⟨u,v,g1,g2,(w2.uniq cW (CT g1)<|CT g2).1 g3⟩
 ·rintro⟨u,v,g1,g2,g3⟩;exact⟨u,v,g1,g2,(w2.uniq cW (CT g1)<|CT g2).2 g3⟩
theorem yv{W:Z Int}{i k:Nat}(hi:i<W.length)(hk:k<W.length):fY N W (i:Int) (k:Int)=some (j9 W i k):=by
 grind [aM,fY,j9,cB,aB,decide]
end
section
variable {N:Nat}{a:gZ}{ka:Z (Z aA)}{cI:Z (Z (Z aA))}{r:Nat->Nat}{gs:Z bZ}{ofP ofB fK:Z Int}{fG:Z eB}
theorem zL(b:iF a ka cI r gs ofP ofB fK fG){fl:Z aU}(h0:pZ a.aN (bN 0 cI).length fl=0){l:Z Test}(hl:l.length<=1048576)(ht:∀t∈l,Ei a t)(hN:nq N):
  iz N a.aL a.cS a.aN a.bO ((bN 0 cI).map aD.cN) ((bN 0 cI).map aD.eD) (cU a.aN<|bN 0 cI) l fl=some (kq N a cI fK fG l fl):=by
 obtain⟨W,w1,w2,w3⟩:=L2 b h0 hN;have hlf:=b.vt.yO;have hA:∀p,fE N (⟨a.aL,a.cS,a.aN,a.bO⟩:gZ) p=some (kY a p):=λp=>GA (a:=a) (by omega) p hN;have hsh:sw a W l=kq N a cI fK fG l fl:=by
  unfold kq sw;refine List.map_congr_left λt ht'=>?_;obtain⟨t1,t2,_⟩:=ht _ ht';obtain⟨i,_,e1,_,_,hi⟩:=xw t1;obtain⟨j,_,e2,_,_,hj⟩:=xw t2;rw[e1,e2,cK,cK,w3 i j hi hj]
 refine XC ?_;unfold iz;refine IS w1 ?_;refine WJ (Xr (n:=l.length) (λst=>st.2.2) (λk st=>st.1=W/\st.2.1=sw a W (l.take k)) (Go:=λst=>st.2.1=sw a W l) (Rt:=λ_=>False) ?_ ?_ (cO _) rfl ⟨rfl,rfl⟩ (by omega)) ?_
 ·rintro k⟨W',out,kk⟩hk e⟨h1,h2⟩;dsimp only at e h1 h2 ⊢;subst e;subst h1;subst h2;rw[iG hk,aP];have hx:l[k]? =some l[k]:=aM hk;obtain⟨t1,t2,_⟩:=ht _<|cH hk
  obtain⟨i,_,e1,_,_,hi⟩:=xw t1;obtain⟨j,_,e2,_,_,hj⟩:=xw t2;have hlen:(sw a W'<|l.take k).length=k:=by rw[H0,dO];omega
  refine WR hx<|WR hx<|IS (hA _)<|IS (hA _) ?_
  rw[e1,e2];refine IS (yv (by omega) (by omega))<|Xw (by rw[hlen];simp only[dX,List.length_nil];omega)<|W4 ⟨bF (by omega),rfl,?_⟩
  dsimp only;unfold sw;rw[dH hk,eU,eV,List.map_nil,e1,e2,cK,cK]
 ·rintro⟨W',out,kk⟩e⟨h1,h2⟩;dsimp only at e h1 h2 ⊢;subst e;subst h2;rw[lL,aQ];exact W9 (by dsimp only;rw[dY])
 intro o ho;exact Xa ho (λst hst=>OF (by rw[hst,hsh]))<|λr hr=>hr.elim
end
theorem GC{x:aF}:∀(b:Z aF),(∀y∈b,0<=yg x y)->∀{s:Int},0<=s->0<=wB s x b
 | [],_,s,h=>h
 |y::b,hb,s,h=>by
  have hf:=hb y<|List.mem_cons_self ..
  unfold wB;rw[List.foldl_cons];refine GC (x:=x) b (λz hz=>hb z<|jP _ hz) ?_;split <;> omega
theorem L3{a b:Z aF}{x y:aF}(hx:a[0]? =some x)(hy:b[0]? =some y)(h0:0<=yg x y):xu a b=a.foldl (λs x=>wB s x b) (yg x y):=by
 obtain⟨a',rfl⟩:∃a',a=x::a':=by
  cases a with
  |nil=>cases hx
  |cons z a'=>grind
 obtain⟨b',rfl⟩:∃b',b=y::b':=by
  cases b with
  |nil=>cases hy
  |cons z b'=>grind
 simp[xu,List.foldl_cons,congr,wB,aH,aI]
section
variable {N:Nat}
theorem Pg{a0 a1 b0 b1:Int}(h0: -1000000<=a0/\a0<=1000000)(h1: -1000000<=a1/\a1<=1000000)(h2: -1000000<=b0/\b0<=1000000)(h3: -1000000<=b1/\b1<=1000000):kT N a0 a1 b0 b1=some (I4 a0 a1 b0 b1):=by
 unfold kT I4
 grind [CE,s9]
theorem A8{a b:aF}(ha:dK a=true)(hb:dK b=true):iM N a b=some (yg a b):=by
 obtain⟨a1,a2,a3,a4⟩:=jG ha;obtain⟨b1,b2,b3,b4⟩:=jG hb;unfold iM yg
 grind [Pg,aB,s9]
theorem EI{a b:Z aF}(rD:a.length<=1000000)(hbl:b.length<=1000000)(ha:∀y∈a,dK y=true)(hb:∀y∈b,dK y=true)(ha0:a≠[])(hb0:b≠[])(hN:nq N):ja N a b=some (xu a b):=by
 have hax:a[0]? =some (a[0]'(List.length_pos_iff.2 ha0)):=aM _;have hbx:b[0]? =some (b[0]'(List.length_pos_iff.2 hb0)):=aM _;have ham:a[0]'(List.length_pos_iff.2 ha0)∈a:=cH _;have hbm:b[0]'(List.length_pos_iff.2 hb0)∈b:=cH _;generalize a[0]'(List.length_pos_iff.2 ha0)=x at hax ham;generalize b[0]'(List.length_pos_iff.2 hb0)=y at hbx hbm;have h0:=(LX (ha x ham)<|hb y hbm).1;rw[L3 hax hbx h0];have hfp:∀x∈a,∀y∈b,0<=yg x y:=λx hx y hy=>(LX (ha x hx)<|hb y hy).1;refine XC ?_;unfold ja;refine WR (i:=0) hax<|WR (i:=0) hbx<|IS (A8 (ha x ham)<|hb y hbm) ?_
 refine WJ (Xr (n:=a.length) (λst=>st.2) (λk st=>0<=st.1/\st.1=(a.take k).foldl (λs x=>wB s x b) (yg x y)) (Go:=λst=>st.1=a.foldl (λs x=>wB s x b) (yg x y)) (Rt:=λ_=>False) ?_ ?_ (cO _) rfl ⟨h0,rfl⟩ (by omega)) ?_
 ·rintro k⟨s,kk⟩hk e⟨hs,hI⟩;dsimp only at e hs hI ⊢;subst e;rw[iG hk,aP];have hx:a[k]? =some a[k]:=aM hk;have hxm:a[k]∈a:=cH hk;have hts:(a.take<|k+1).foldl (λs x=>wB s x b) (yg x y)=wB s a[k] b:=by grind [dH]
  rw[hts];generalize a[k]=z at *;refine WJ (Xr (n:=b.length) (λst=>st.2) (λj st=>st.1=wB s z (b.take j)) (Go:=λst=>st.1=wB s z b) (Rt:=λ_=>False) ?_ ?_ (cO _) rfl rfl (by omega)) ?_
  ·rintro j⟨t,jj⟩hj e hJ;dsimp only at e hJ ⊢;subst e;rw[iG hj,aP];have hy:b[j]? =some b[j]:=aM hj;have hym:b[j]∈b:=cH hj;have ht0:0<=t:=by rw[hJ];exact GC _ (λy hy=>hfp z hxm y<|List.mem_of_mem_take hy) hs
   refine WR hx<|WR hy<|IS (A8 (ha z hxm)<|hb _ hym)<|W4 ⟨bF (by omega),?_⟩
   grind [wB,dH]
  ·simp[lL,aQ,dY,W9]
  intro o ho;refine Xa ho (λst hst=>W4 ⟨bF (by omega),?_,hst⟩)<|λr hr=>hr.elim
  simp_all[GC]
 ·grind [dY,W9]
 intro o ho;exact Xa ho (λst hst=>OF hst)<|λr hr=>hr.elim
theorem CU{a b:Z aF}(rD:a.length<=1000000)(hbl:b.length<=1000000)(n:Int)(hN:nq N):Ok (iZ N a b n) (λ_=>True):=by
 unfold iZ;refine WJ (Xr (n:=a.length) (λst=>st.2.2) (λk st=>True) (Go:=λst=>True) (Rt:=λ_=>False) ?_ ?_ (cO _) rfl trivial (by omega)) ?_
 ·rintro k⟨p,q,kk⟩hk e _;dsimp only at e ⊢;subst e;rw[iG hk,aP];have hx:a[k]? =some a[k]:=aM hk;refine WJ (Xr (n:=b.length) (λst=>st.2.2) (λj st=>True) (Go:=λst=>True) (Rt:=λ_=>False) ?_ ?_ (cO _) rfl trivial (by omega)) ?_
  ·rintro j⟨p,q,jj⟩hj e _;dsimp only at e ⊢;subst e;rw[iG hj,aP];have hy:b[j]? =some b[j]:=aM hj;refine WR hx<|WR hy<|WR hx<|WR hy ?_
   refine WJ (P:=λ_=>True) (WR hx<|WR hy<|Xj (λ_=>OF trivial)<|λ_=>WR hx<|WR hy<|OF trivial)<|λc _=>Xj (λ_=>W4 ⟨bF (by omega),trivial⟩)<|λ_=>?_
   grind [WJ,OF,W4,bF]
  ·simp[lL,aQ,W9,trivial]
  intro o ho;exact Xa ho (λst hst=>W4 ⟨bF (by omega),trivial⟩)<|λr hr=>hr.elim
 ·simp[lL,aQ,W9,trivial]
 intro o ho;exact Xa ho (λst hst=>OF trivial)<|λr hr=>hr.elim
theorem L4{a b:Z aF}(rD:a.length<=1000000)(hbl:b.length<=1000000)(ha:∀y∈a,dK y=true)(hb:∀y∈b,dK y=true)(ha0:a≠[])(hb0:b≠[])(hN:nq N):∃g,j6 N a b=some g/\g.i5=xu a b - 1:=by
 have hd:=MO ha hb
 suffices h:Ok (j6 N a b) (λg=>g.i5=xu a b - 1)from h
 unfold j6;refine IS (EI rD hbl ha hb ha0 hb0 hN)<|WJ (CU rD hbl _ hN)<|λp _=>WJ (CU hbl (by simp) _ hN)<|λq _=>OF ?_
 dsimp only;exact CE (by omega)
end
theorem x9.nr{a:gZ}{ka:Z (Z aA)}{cI:Z (Z<|Z aA)}{p:aD}{i:Nat}{r:Z aF}{s:Z aA}{ps:Z (Z aA)}{u:Nat->Nat}{j k:Nat}(h:x9 a ka cI p i r s ps u j k):p.eD≠[]:=by
 intro e;rw[h.Rc]at e;have hh:=iP.1<|gl h.head
 have hx:(bB s)[k]? =some (bB s)[k]:=aM hh.1;have hm:(bB s)[k]∈pd (bB s) (bB s).length u k:=mZ.2 ⟨k,hh.1,hh.2,hx⟩;obtain⟨b,hb,q,hq,hr⟩:=sL<|gl hx
 have hbm:cQ b∈s.map cQ:=dN.2 ⟨b,hb,rfl⟩;have hq1:=IF (h.dr.can.each _ hbm).2.2.1 q hq;have hb1:=(h.dr.can.each _ hbm).1;have hc:=h.set.cover q.1 b.Y0;rw[<-rn h.set.can,e]at hc;have:vX (pd (bB s) (bB s).length u k) q.1 b.Y0=true:=kW.2 ⟨_,hm,by rw[hr];exact⟨⟨Int.le_refl _,hq1⟩,Int.le_refl _,hb1⟩⟩;rw[this]at hc
 cases hc
section
variable {N:Nat}{a:gZ}{ka:Z (Z aA)}{cI:Z (Z (Z aA))}{r:Nat->Nat}{gs:Z bZ}{ofP ofB fK:Z Int}{fG:Z eB}
theorem So(b:iF a ka cI r gs ofP ofB fK fG){p:aD}(hp:p∈bN 0 cI):p.eD≠[]:=by
 obtain⟨i,r',s,ps,u,j,k,hP⟩:=Kv b.zB b.dr hp;exact hP.nr
theorem Hb(b:iF a ka cI r gs ofP ofB fK fG)(hN:nq N):jW N ((bN 0 cI).map aD.eD) gs=some ofP:=by
 have hf:=b.yO.2;have hbl:=b.zB.gb.len;have hlp:=b.AK.of.lp;have hgl:=(I1 b.AK).2;have hgrp:=λ(g:Nat)(x:bZ)(hg:gs[g]? =some x)=>Sd b.AK hg;have hnat:=λ(g:Nat)(x:bZ)(hg:gs[g]? =some x)=>Qe b.AK hg;have hglen:=λ(g:Nat)(x:bZ)(hg:gs[g]? =some x)=>Qg b.AK hg;have hofp:=λ(k:Nat)(hk:k<ofP.length)=>Gs b hk;refine XC ?_;unfold jW;rw[dM];generalize hpcs:bN 0 cI=pcs at *;refine IS (pI 0 (by omega)) ?_;refine WJ (Xr (n:=gs.length) (λst=>st.2) (λi st=>st.1.length=pcs.length/\∀(k g:Nat),k<pcs.length->ofP[k]? =some ((g:Nat):Int)->g<i->st.1[k]? =some ((g:Nat):Int)) (Go:=λst=>st.1=ofP) (Rt:=λ_=>False) ?_ ?_ (cO _) rfl ⟨by simp,λk g _ _ h=>by omega⟩ (by omega)) ?_
 ·rintro i⟨G,ii⟩hi e⟨h1,h2⟩;dsimp only at e h1 h2 ⊢;subst e;rw[iG hi,aP];have hx:gs[i]? =some gs[i]:=aM hi;have hin:=hgrp i _ hx;have hnt:=hnat i _ hx;have hgl2:=(hglen i _ hx).1;generalize gs[i]=x at *
  refine WJ (Xr (n:=x.fO.length) (λst=>st.2) (λj st=>st.1.length=pcs.length/\(∀(k g:Nat),k<pcs.length->ofP[k]? =some ((g:Nat):Int)->g<i->st.1[k]? =some ((g:Nat):Int))/\∀k:Nat,((k:Nat):Int)∈x.fO.take j->st.1[k]? =some ((i:Nat):Int))
   (Go:=λst=>st.1.length=pcs.length/\∀(k g:Nat),k<pcs.length->ofP[k]? =some ((g:Nat):Int)->g<i+1->st.1[k]? =some ((g:Nat):Int)) (Rt:=λ_=>False) ?_ ?_ (cO _) rfl ⟨h1,h2,λk hk=>by simp at hk⟩ (by omega)) ?_
  ·rintro j⟨G,jj⟩hj e⟨g1,g2,g3⟩;dsimp only at e g1 g2 g3 ⊢;subst e;refine WR hx ?_;rw[iG hj,aP];have hy:x.fO[j]? =some x.fO[j]:=aM hj;have hym:x.fO[j]∈x.fO:=cH hj;have hts:=dH hj;obtain⟨c,hc⟩:=hnt _ hym;rw[hc]at hy hym hts;obtain⟨c1,c2⟩:=(hin c).1 hym;have hGc:G[c]? =some (G[c]'(by omega)):=aM _;refine WR hx<|WR hy<|WR hGc<|W4 ⟨bF (by omega),?_,λk g hk hg hgi=>?_,λk hk=>?_⟩
   ·dsimp only;rw[iU];exact g1
   ·dsimp only;rw[cK];have hne:c≠k:=λe=>by
     subst e;rw[c2]at hg;injection hg with hg;omega
    rw[List.getElem?_set_ne hne];exact g2 k g hk hg hgi
   ·dsimp only;rw[cK]
    by_cases e:c=k
    ·subst e;rw[List.getElem?_set_self (by omega)]
    ·rw[List.getElem?_set_ne e];rw[hts]at hk
     rcases dI.1 hk with hk|hk
     ·exact g3 k hk
     ·rw[lY]at hk;omega
  ·rintro⟨G,jj⟩e⟨g1,g2,g3⟩;dsimp only at e g1 g2 g3 ⊢;subst e;refine WR hx ?_;rw[lL,aQ];refine W9 ⟨g1,λk g hk hg hgi=>?_⟩;dsimp only
   by_cases e:g=i
   ·subst e;refine g3 k ?_;rw[dY];exact(hin k).2 ⟨hk,hg⟩
   ·exact g2 k g hk hg (by omega)
  intro o ho;exact Xa ho (λst hst=>W4 ⟨bF (by omega),hst⟩)<|λr hr=>hr.elim
 ·rintro⟨G,ii⟩e⟨h1,h2⟩;dsimp only at e h1 h2 ⊢;subst e;rw[lL,aQ];refine W9 ?_;dsimp only;refine List.ext_getElem? λk=>?_
  by_cases hk:k<pcs.length
  ·obtain⟨g,q1,q2⟩:=hofp k (by omega);rw[q1,h2 k g hk q1 q2]
  ·rw[List.getElem?_eq_none (by omega),List.getElem?_eq_none (by omega)]
 intro o ho;exact Xa ho (λst hst=>OF hst)<|λr hr=>hr.elim
theorem I9(G:Z bZ)(h:eB):eY N G h=dP N G h:=rfl
theorem Ja{gs:Z bZ}{g:Nat}{x:bZ}(hx:gs[g]? =some x):Qn gs (g:Int)=decide ((x.fB.length:Int)>=2):=by
 unfold Qn
 grind
theorem Jb(b:iF a ka cI r gs ofP ofB fK fG)(near:Int)(hN:nq N):
  kd N a.aN ((bN 0 cI).map aD.cN) ((bN 0 cI).map aD.eD) gs near=some (CX (bN 0 cI) gs ofP ofB near):=by
 have hf:=b.yO.2;have hbl:=b.zB.gb.len;have hlp:=b.AK.of.lp;have hlb:=b.AK.of.lb;have hgl:=(I1 b.AK).2;have hG:=Hb (N:=N) b hN;have hofp:=λ(k:Nat)(hk:k<ofP.length)=>Gs b hk;have hofb:=λ(k:Nat)(hk:k<ofB.length)=>LZ b hk;have hfact:=λ(p:aD)(hp:p∈bN 0 cI)=>(⟨(tE b hp).1,λq hq=>((tE b hp).2.1 q hq).1,So b hp⟩:p.eD.length<=2000/\(∀q∈p.eD,dK q=true)/\p.eD≠[]);have hhop:∀k,k<a.aN.length->sM a.aN k=true->∀g:Nat,ofB[k]? =some ((g:Nat):Int)->eY N gs ⟨true,((k:Nat):Int)⟩=some ((g:Nat):Int):=λk hk hp g hg=>by
  have hok:F5 a.aN (bN 0 cI).length a.aN.length ⟨true,((k:Nat):Int)⟩:=⟨k,rfl,λ_=>⟨hk,hp⟩,λh=>by cases h⟩;rw[I9,(zJ (N:=N) rfl (by omega) (by omega) b.AK.conn.le b.AK.conn.rr (G:=gs) (by rw[b.AK.gs];exact A5 _ _ _) hok hN).1];have hm:r ((bN 0 cI).length+k)∈bW ((bN 0 cI).length+a.aN.length) r:=iP.2 ⟨by have:=b.AK.conn.le ((bN 0 cI).length+k) (by omega);omega,b.AK.conn.rr _ (by omega)⟩;have:=b.AK.of.bo k (by omega) hm;rw[hp,aH rfl,hg]at this;injection this with this
  have hix:eI (bN 0 cI).length ⟨true,((k:Nat):Int)⟩=(bN 0 cI).length+k:=by unfold eI;rw[aH rfl,cK]
  unfold OY;rw[hix,this]
 refine XC ?_;unfold kd;refine IS hG ?_;rw[dM];generalize hpcs:bN 0 cI=pcs at *;refine WJ (Xr (n:=pcs.length) (λst=>st.2) (λk st=>st.1=qc gs false ofP k) (Go:=λst=>st.1=qc gs false ofP pcs.length) (Rt:=λ_=>False) ?_ ?_ (cO _) rfl (by simp[qc]) (by omega)) ?_
 ·rintro k⟨s,kk⟩hk e hI;dsimp only at e hI ⊢;subst e;subst hI;rw[iG hk,aP];obtain⟨g,h1,h2⟩:=hofp k (by omega);have hgx:gs[g]? =some gs[g]:=aM h2;have hsl:=rZ gs false ofP k;refine WR h1<|WR hgx<|WJ (P:=λs=>s=qc gs false ofP (k+1)) (Xj (λhc=>Xw (by simp only[dX,List.length_nil];omega)<|OF ?_)<|λhc=>OF ?_)<|λs hs=>W4 ⟨bF (by omega),hs⟩
  ·rw[uL,h1,Option.elim_some,Ja hgx,hc,aH rfl]
  ·rw[uL,h1,Option.elim_some,Ja hgx,hc,aI pg]
 ·rintro⟨s,kk⟩e hI;dsimp only at e hI ⊢;subst e;rw[lL,aQ];exact W9 hI
 intro o ho;refine Xa ho ?_<|λr hr=>hr.elim
 rintro⟨s0,kk0⟩h0;dsimp only at h0 ⊢;subst h0;have hl0:=rZ gs false ofP pcs.length;refine WJ (Xr (n:=a.aN.length) (λst=>st.2) (λk st=>st.1=qc gs false ofP pcs.length++qc gs true ofB k) (Go:=λst=>st.1=qc gs false ofP pcs.length++qc gs true ofB a.aN.length) (Rt:=λ_=>False) ?_ ?_ (cO _) rfl (by simp[qc]) (by omega)) ?_
 ·rintro k⟨s,kk⟩hk e hI;dsimp only at e hI ⊢;subst e;subst hI;rw[iG hk,aP];have hx:a.aN[k]? =some a.aN[k]:=aM hk;have hpl:sM a.aN k=a.aN[k].fM:=by unfold sM;rw[hx];rfl
  have hsl:=rZ gs true ofB k;have key:∃c:Int,ofB[k]? =some c/\(((idx a.aN ((k:Nat):Int)).bind λx190=>bif x190.fM then((eY N gs (⟨true,((k:Nat):Int)⟩:eB)).bind λMX=>(idx gs MX).bind λx196=>some<|decide<|(x196.fB.length:Int)>=2)else some false)=some (Qn gs c)):=by
   rcases hofb k (by omega)with⟨hp,g,h1,h2⟩|⟨hp,h1⟩
   ·have hgx:gs[g]? =some gs[g]:=aM h2;refine⟨_,h1,?_⟩;rw[cB hx,aB,<-hpl,hp,aP,hhop k hk hp g h1,aB,cB hgx,aB,Ja hgx]
   ·refine⟨_,h1,?_⟩;rw[cB hx,aB,<-hpl,hp,aQ];rfl
  obtain⟨c,h1,h2⟩:=key;refine IS h2<|WJ (P:=λs=>s=qc gs false ofP pcs.length++qc gs true ofB (k+1)) (Xj (λhc=>Xw (by simp only[eP,dX,List.length_nil];omega)<|OF ?_)<|λhc=>OF ?_)<|λs hs=>W4 ⟨bF (by omega),hs⟩
  ·rw[uL,h1,Option.elim_some,hc,aH rfl,lx]
  ·rw[uL,h1,Option.elim_some,hc,aI pg]
 ·rintro⟨s,kk⟩e hI;dsimp only at e hI ⊢;subst e;rw[lL,aQ];exact W9 hI
 intro o ho;refine Xa ho ?_<|λr hr=>hr.elim
 rintro⟨s1,kk1⟩h1;dsimp only at h1 ⊢;subst h1;have hl1:=rZ gs true ofB a.aN.length;have hsgl:CX pcs gs ofP ofB near=qc gs false ofP pcs.length++qc gs true ofB a.aN.length++uC pcs ofP near pcs.length:=by unfold CX;rw[hlp,hlb]
 rw[hsgl];generalize hB:qc gs false ofP pcs.length++qc gs true ofB a.aN.length=base;have hbase:base.length<=2500:=by rw[<-hB,eP];omega
 refine WJ (Xr (n:=pcs.length) (λst=>st.2) (λi st=>st.1=base++uC pcs ofP near i) (Go:=λst=>st.1=base++uC pcs ofP near pcs.length) (Rt:=λ_=>False) ?_ ?_ (cO _) rfl (by simp[uC]) (by omega)) ?_
 ·rintro i⟨s,ii⟩hi e hI;dsimp only at e hI ⊢;subst e;subst hI;rw[iG hi,aP,bF (by omega)];have hx:pcs[i]? =some pcs[i]:=aM hi;have hLx:(pcs.map aD.cN)[i]? =some pcs[i].cN:=by rw[gE,hx];rfl
  have hRx:(pcs.map aD.eD)[i]? =some pcs[i].eD:=by rw[gE,hx];rfl
  have hpl:(uC pcs ofP near i).length<=2000*2000:=ou (Gr pcs ofP near i)<|Nat.mul_le_mul (by omega) hf
  obtain⟨r1,r2,r3⟩:=hfact pcs[i]<|cH hi
  obtain⟨gi_,hgi,_⟩:=hofp i (by omega);have hskip:rq pcs ofP near i (i+1)= []:=by
   have e0:rq pcs ofP near i 0= []:=by simp[rq]
   have:=yh (pcs:=pcs) (ofP:=ofP) (near:=near) (i:=i) (m:=0) (d:=i+1) (λk _ hk=>by
    unfold sO;rw[hx,Option.elim_some]
    cases pcs[k]? with
    |none=>rfl
    |some q=>rw[Option.elim_some,bY (show ¬i<k by omega),Bool.false_and])
   rw[jR]at this;rw[this,e0]
  refine WJ (Xr (n:=pcs.length) (λst=>st.2) (λk st=>i+1<=k/\st.1=base++uC pcs ofP near i++rq pcs ofP near i k) (Go:=λst=>st.1=base++uC pcs ofP near (i+1)) (Rt:=λ_=>False) ?_ ?_ (k0:=i+1) (by omega) rfl ⟨cJ _,by dsimp only;rw[hskip,ov]⟩ (by omega)) ?_
  ·rintro k⟨s,j⟩hk e⟨hik,hI⟩;dsimp only at e hI ⊢;subst e;subst hI;rw[iG hk,aP];have hy:pcs[k]? =some pcs[k]:=aM hk;have hLy:(pcs.map aD.cN)[k]? =some pcs[k].cN:=by rw[gE,hy];rfl
   have hRy:(pcs.map aD.eD)[k]? =some pcs[k].eD:=by rw[gE,hy];rfl
   have h1l:=DI pcs ofP near i k;obtain⟨t1,t2,t3⟩:=hfact pcs[k]<|cH hk
   obtain⟨gk_,hgk,_⟩:=hofp k (by omega);refine IS (x:=sO pcs ofP near i k) ?_ ?_
   ·rw[cB hLx,aB,cB hLy,aB];unfold sO;rw[hx,hy,Option.elim_some,Option.elim_some,bQ (show i<k by omega),Bool.true_and,hgi,hgk]
    by_cases eL:pcs[i].cN=pcs[k].cN
    ·rw[eL,BEq.rfl,aP,Bool.true_and,cB hgi,aB,cB hgk,aB]
     by_cases e:gi_=gk_
     ·subst e;rw[bne_self_eq_false,aQ,show decide (some (gi_:Int)≠some (gi_:Int))=false by simp,Bool.false_and]
     ·obtain⟨g,g1,g2⟩:=L4 (N:=N) (a:=pcs[i].eD) (b:=pcs[k].eD) (by omega) (by omega) r2 t2 r3 t3 hN;rw[show((gi_:Int) != (gk_:Int))=true by rw[bne_iff_ne];omega,aP,cB hRx,aB,cB hRy,aB,g1,aB,g2,show decide (some (gi_:Int)≠some (gk_:Int))=true by rw[dR];intro h;injection h with h;omega,Bool.true_and]
    ·rw[show(pcs[i].cN==pcs[k].cN)=false by rw[beq_eq_false_iff_ne];exact eL,aQ,show(pcs[k].cN==pcs[i].cN)=false by rw[beq_eq_false_iff_ne];exact λh=>eL h.symm,Bool.false_and]
   ·cases hsP:sO pcs ofP near i k with
    |true=>
     rw[aP];refine WJ (P:=λs=>s=base++uC pcs ofP near i++rq pcs ofP near i (k+1)) (Xw (by simp only[eP,dX,List.length_nil];omega)<|OF ?_)<|λs hs=>W4 ⟨bF (by omega),by omega,hs⟩
     rw[vx,hsP,aH rfl,lx]
    |false=>
     rw[aQ,aB];refine W4 ⟨bF (by omega),by omega,?_⟩;dsimp only;rw[vx,hsP,aI pg]
  ·rintro⟨s,j⟩e⟨_,hI⟩;dsimp only at e hI ⊢;subst e;subst hI;rw[lL,aQ];exact W9 (by dsimp only;rw[Al,lx])
  intro o ho;exact Xa ho (λst hst=>W4 ⟨rfl,hst⟩)<|λr hr=>hr.elim
 ·rintro⟨s,ii⟩e hI;dsimp only at e hI ⊢;subst e;rw[lL,aQ];exact W9 hI
 intro o ho;exact Xa ho (λst hst=>OF hst)<|λr hr=>hr.elim
theorem Ek{a:gZ}{e:Int}(he:e≠0)(near:Int):gQ N e a near=some (none,[],e):=by
 grind [gQ]
theorem GD(b:iF a ka cI r gs ofP ofB fK fG)(near:Int)(hN:nq N):
  gQ N 0 a near=some (if near<0\/100000<near then(none,[],1)else if 20000<(CX (bN 0 cI) gs ofP ofB near).length then(none,[],2)else(some (a.aL,a.cS,a.aN,a.bO,(bN 0 cI).map aD.cN,(bN 0 cI).map aD.eD,gs,cU a.aN<|bN 0 cI),CX (bN 0 cI) gs ofP ofB near,0)):=by
 unfold gQ;rw[bne_self_eq_false,aQ];have w:l8 N near 0 100000=some (decide (near>=0)&&decide (near<=100000)):=rfl;rw[w,aB]
 by_cases hn:near<0\/100000<near
 ·grind
 rw[aI hn,show(decide (near>=0)&&decide (near<=100000))=true by grind,ku,aQ,KR b hN,aB];dsimp only;rw[Jb b near hN,aB]
 grind
theorem GF(b:iF a ka cI r gs ofP ofB fK fG){x:aU}(h0:pZ a.aN (bN 0 cI).length [x]=0)(hN:nq N):
  jA N a.aN a.bO ((bN 0 cI).map aD.cN) ((bN 0 cI).map aD.eD) (cU a.aN<|bN 0 cI) x=some (DJ N a cI fK fG x):=by
 have hlf:=b.vt.yO;obtain⟨W,w1,w2,w3⟩:=L2 b (fl:=[]) sP hN;obtain⟨V,v1,v2,v3⟩:=L2 b h0 hN;obtain⟨_,c2,c3⟩:=Gt b (fl:=[]) sP hN;obtain⟨_,d2,d3⟩:=Gt b h0 hN;have rD:=Qq d3 c3 (Pd b h0 hN) (Pd b (fl:=[]) sP hN) (by rw[c2,d2]);refine XC ?_;unfold jA;refine IS w1<|IS v1 ?_
 refine WJ (Xr (n:=a.bO.length) (λst=>st.2.2) (λi st=>st.1=W/\st.2.1=V/\∀i' k,i'<i->k<i'->j9 W i' k=j9 V i' k) (Go:=λ_=>∀i' k,i'<a.bO.length->k<i'->j9 W i' k=j9 V i' k) (Rt:=λr=>r=false/\∃i' k,i'<a.bO.length/\k<i'/\j9 W i' k≠j9 V i' k) ?_ ?_ (cO _) rfl ⟨rfl,rfl,λi' k h=>by omega⟩ (by omega)) ?_
 ·rintro i⟨W',V',ii⟩hi e⟨e1,e2,hI⟩;dsimp only at e e1 e2 ⊢;subst e;subst e1;subst e2;rw[w2,iG hi,aP];refine WJ (Xr (n:=i) (λs=>s) (λj _=>∀k,k<j->j9 W' i k=j9 V' i k) (Go:=λ_=>∀k,k<i->j9 W' i k=j9 V' i k) (Rt:=λr=>r=false/\∃i' k,i'<a.bO.length/\k<i'/\j9 W' i' k≠j9 V' i' k) ?_ ?_ (cO _) rfl (λk hk=>by omega) (by omega)) ?_
  ·grind [iG,IS,yv,XJ,W4,bF]
  ·grind [W9]
  intro o ho;refine Xa ho (λ_ hJ=>W4 ⟨bF (by omega),rfl,rfl,λi' k hi' hk=>?_⟩)<|λr hr=>XJ hr
  grind
 ·rintro⟨W',V',ii⟩e⟨e1,e2,hI⟩;dsimp only at e e1 e2 ⊢;subst e;subst e1;subst e2;rw[w2,lL,aQ];exact W9 hI
 intro o ho;refine Xa ho (λ_ h=>OF ?_)<|λr hr=>OF ?_
 ·refine(rD.2 λi k hk hi=>?_).symm;rw[d2]at hi;rw[<-w3 i k hi (by omega),<-v3 i k hi (by omega)];exact(h i k hi hk).symm
 ·obtain⟨hr,i,k,hi,hk,hne⟩:=hr;rw[hr];refine(Bool.eq_false_iff.2 λht=>hne ?_).symm;have:=rD.1 ht i k hk (by omega);rw[w3 i k hi (by omega),v3 i k hi (by omega)];exact this.symm
end
section
variable {N:Nat}
theorem tT{l m:Z Bool}(hl:l.length<=1000000000)(hN:nq N):fZ N l m=some (decide<|l=m):=by
 refine XC ?_;unfold fZ
 by_cases hn:l.length=m.length
 rotate_left
 ·grind [bY,OF]
 rw[show((l.length:Int) != (m.length:Int))=false by rw[hn,bne_self_eq_false],aQ];refine WJ (Xr (n:=l.length) (λs=>s) (λk _=>∀j,j<k->l[j]? =m[j]?) (Go:=λ_=>l=m) (Rt:=λr=>r=false/\l≠m) ?_ ?_ (cO _) rfl (λj hj=>by omega) (by omega)) ?_
 ·rintro k s hk e hI;subst e;rw[iG hk,aP];have h1:l[k]? =some l[k]:=aM hk
  grind [aM,WR,XJ,W4,bF]
 ·rintro s e hI;subst e;rw[lL,aQ];refine W9<|List.ext_getElem? λk=>?_
  grind
 intro o ho;exact Xa ho (λ_ h=>OF (bQ h).symm)<|λr hr=>OF (by grind)
end
section
variable {N:Nat}{a:gZ}{ka:Z (Z aA)}{cI:Z (Z (Z aA))}{r:Nat->Nat}{gs:Z bZ}{ofP ofB fK:Z Int}{fG:Z eB}
theorem Hc(b:iF a ka cI r gs ofP ofB fK fG){S:Z aU}(hS:∀x∈S,pZ a.aN (bN 0 cI).length [x]=0)(hl:S.length<=10000000)(hN:nq N):
  jX N a.aN a.bO ((bN 0 cI).map aD.cN) ((bN 0 cI).map aD.eD) (cU a.aN<|bN 0 cI) S=some (S.filter<|λx=> !DJ N a cI fK fG x):=by
 refine XC ?_;unfold jX;refine WJ (Xr (n:=S.length) (λst=>st.2) (λk st=>st.1=(S.take k).filter (λx=> !DJ N a cI fK fG x)) (Go:=λst=>st.1=S.filter (λx=> !DJ N a cI fK fG x)) (Rt:=λ_=>False) ?_ ?_ (cO _) rfl rfl (by omega)) ?_
 ·rintro k⟨s,kk⟩hk e hI;dsimp only at e hI ⊢;subst e;subst hI;rw[iG hk,aP];have hx:S[k]? =some S[k]:=aM hk;have hlen:((S.take k).filter<|λx=> !DJ N a cI fK fG x).length<=k:=ou (l4 _ _)<|List.length_take_le _ _
  refine WR hx<|IS (GF b (hS _<|cH hk) hN)<|WJ (P:=λs=>s=(S.take<|k+1).filter (λx=> !DJ N a cI fK fG x)) (Xj (λhc=>WR hx<|Xw (by grind)<|OF ?_)<|λhc=>OF ?_)<|λs hs=>W4 ⟨bF (by omega),hs⟩
  ·grind [dH,List.filter_cons_of_pos,DJ]
  ·rw[dH hk,sR,List.filter_cons_of_neg (p:=λx=> !DJ N a cI fK fG x) (by grind),List.filter_nil,ov]
 ·simp[lL,aQ,dY,W9]
 intro o ho;exact Xa ho (λst hst=>OF hst)<|λr hr=>hr.elim
theorem KX(b:iF a ka cI r gs ofP ofB fK fG){near:Int}{x:aU}(hx:x∈vz N a cI gs ofP ofB fK fG near):pZ a.aN (bN 0 cI).length [x]=0:=xv b (lu.1 hx).1
end
def KY(s:Z Bool):eJ:=⟨s.map (λb=>bif b then 121 else 110)⟩
theorem KZ{s t:Z Bool}(h:KY s=KY t):s=t:=by
 have h:s.map (λb=>bif b then(121:UInt8)else 110)=t.map (λb=>bif b then(121:UInt8)else 110):=congrArg eJ.dV h;refine List.map_inj_right (λx y hxy=>?_) |>.1 h
 cases x <;> cases y <;> first|rfl|exact absurd hxy (by decide)
def nH(G:Z (Z Bool×Z aU))(s:Z Bool)(x:aU):Z (Z Bool×Z aU):=match G.findIdx? (λg=>decide<|g.1=s)with
 |some i=>G.modify i (λg=>(g.1,g.2++[x]))
 |none=>G++[(s,[x])]
def pT(f:aU->Z Bool)(rg:Z Bool)(F:Z aU):Z (Z Bool×Z aU):=F.foldl (λG x=>if f x=rg then G else nH G (f x) x) []
theorem GG(f:aU->Z Bool)(rg:Z Bool)(F:Z aU)(x:aU):pT f rg (F++[x])=if f x=rg then pT f rg F else nH (pT f rg F) (f x) x:=by simp[pT,List.foldl_append]
def yi(G:Z (Z Bool×Z aU)):Nat:=(G.map<|λg=>g.2.length).sum
theorem El{x:aU}:∀{G:Z (Z Bool×Z aU)}{i:Nat},i<G.length->yi (G.modify i<|λg=>(g.1,g.2++[x]))=yi G+1
 |g::G,0,_=>by unfold yi;simp;omega
 |g::G,i+1,h=>by
  have:=El (x:=x) (G:=G) (i:=i) (by simpa using h);unfold yi at this ⊢;rw[List.modify_succ_cons,eV,List.sum_cons,eV,List.sum_cons,this];omega
theorem L5(G:Z (Z Bool×Z aU))(s:Z Bool)(x:aU):yi (nH G s x)=yi G+1:=by
 unfold nH;split
 ·rename_i i h;exact El (List.findIdx?_eq_some_iff_getElem.1 h).1
 simp[yi]
theorem H2(f:aU->Z Bool)(rg:Z Bool):∀(F:Z aU)(G:Z (Z Bool×Z aU)),yi (F.foldl (λG x=>if f x=rg then G else nH G (f x) x) G)=yi G+(F.filter<|λx=> !decide (f x=rg)).length
 | [],G=>rfl
 |x::F,G=>by
  rw[List.foldl_cons,H2 f rg F]
  by_cases h:f x=rg
  ·rw[aH h,List.filter_cons_of_neg (by rw[bQ h];decide)]
  ·rw[aI h,L5,List.filter_cons_of_pos (by grind),dX];omega
theorem CV{g:Z Bool×Z aU}:∀{G:Z (Z Bool×Z aU)},g∈G->g.2.length<=yi G
 |g'::G,h=>by
  unfold yi;rw[eV,List.sum_cons]
  rcases fJ.1 h with rfl|h
  ·omega
  ·have:=CV h;unfold yi at this;omega
theorem DM(f:aU->Z Bool)(rg:Z Bool)(F:Z aU):yi (pT f rg F)=(F.filter<|λx=> !decide (f x=rg)).length:=by
 have:=H2 f rg F []
 grind [pT,yi]
theorem NM{G:Z (Z Bool×Z aU)}{s:Z Bool}{x:aU}(h:∀g∈G,g.2≠[]):∀g∈nH G s x,g.2≠[]:=by
 unfold nH;split
 ·rename_i i hi;intro g hg;obtain⟨k,hk⟩:=dZ hg;rw[List.getElem?_modify]at hk
  cases hgk:G[k]? with
  |none=>grind
  |some g'=>
   rw[hgk]at hk;have hk:(if i=k then(g'.1,g'.2++[x])else g')=g:=by injection hk
   by_cases e:i=k
   ·rw[aH e]at hk;rw[<-hk];simp
   grind
 grind
theorem K0(f:aU->Z Bool)(rg:Z Bool):∀(F:Z aU)(G:Z (Z Bool×Z aU)),(∀g∈G,g.2≠[])->∀g∈F.foldl (λG x=>if f x=rg then G else nH G (f x) x) G,g.2≠[]
 | [],G,h=>h
 |x::F,G,h=>by
  rw[List.foldl_cons];refine K0 f rg F _ ?_
  by_cases e:f x=rg
  ·rw[aH e];exact h
  ·rw[aI e];exact NM h
theorem GH(G:Z (Z Bool×Z aU))(s:Z Bool)(x:aU):(nH G s x).length<=G.length+1:=by
 grind [nH,List.length_modify]
structure Wc (M:Z (eJ×Int)) (G:Z (Z Bool×Z aU)):Prop where
 has:∀s,kL M (KY s)=(G.findIdx?<|λg=>decide<|g.1=s).isSome
 get:∀s i,G.findIdx? (λg=>decide<|g.1=s)=some i->fH M (KY s) 0=((i:Nat):Int)
theorem zM{G:Z (Z Bool×Z aU)}{i:Nat}{x:aU}(s:Z Bool):(G.modify i<|λg=>(g.1,g.2++[x])).findIdx? (λg=>decide<|g.1=s)=G.findIdx? (λg=>decide<|g.1=s):=by
 induction G generalizing i with
 |nil=>cases i <;> rfl
 |cons g G ih=>
  cases i with
  |zero=>rw[List.modify_zero_cons,List.findIdx?_cons,List.findIdx?_cons]
  |succ i=>rw[List.modify_succ_cons,List.findIdx?_cons,List.findIdx?_cons,ih]
section
variable {N:Nat}
theorem uD{a:gZ}{l:Z Test}{near e:Int}(he:e≠0)(h:kx N a l near=some ([],[],e)):kH N a l near=some ([],e):=by
 grind [kH,aB]
theorem K1{a:gZ}{l:Z Test}{near:Int}{f:aU->Z Bool}{F:Z aU}{rg:Z Bool}(h:kx N a l near=some (A7 f F,rg,0))(hF:F.length<=1000000)(hf:∀x,(f x).length<=1048576):
  kH N a l near=some ((pT f rg F).map<|λg=>g.2,0):=by
 have hlF:(A7 f F).length=F.length:=by simp[A7,dM]
 refine XC ?_;unfold kH;refine IS h ?_;dsimp only;rw[bne_self_eq_false,aQ,hlF];refine WJ (XI (λk st=>st.1=rg/\(pT f rg<|F.take k).length<=k/\Wc st.2.1 (pT f rg<|F.take k)/\st.2.2=(pT f rg<|F.take k).map (λg=>g.2)) (by omega) ⟨rfl,cJ _,⟨λs=>rfl,λs i hi=>by cases hi⟩,rfl⟩<|λk st hk I=>?_)<|λst I=>OF ?_
 rotate_left
 ·grind
 obtain⟨r0,M,out⟩:=st;obtain⟨rfl,i1,i2,i3⟩:=I;dsimp only at i1 i2 i3 ⊢;subst i3;have hx:(A7 f F)[k]? =some ⟨F[k],f F[k]⟩:=by unfold A7;grind
 have hfk:=hf F[k];have hts:F.take (k+1)=F.take k++[F[k]]:=dH hk;rw[hts,GG];have hsG:yi (pT f r0<|F.take k)<=k:=by
  rw[DM]
  grind
 generalize pT f r0 (F.take k)=G at *;refine WR hx ?_;dsimp only;refine IS (Gu (by omega)) ?_
 by_cases e:f F[k]=r0
 ·grind [bQ,OF]
 rw[bY e,aQ,aI e];have hkey:k9 (f F[k]).length (λ(k253:Nat)(s254:Z UInt8)=>((idx (f F[k]) (k253:Int)).bind λx292=>(bif x292 then((app 1 s254 ([121]:Z UInt8)).bind λx303=>some x303)else((app 1 s254 ([110]:Z UInt8)).bind λx306=>some x306)).bind λs300=>some s300:aT (Z UInt8))) ([]:Z UInt8)=some ((f F[k]).map (λb=>bif b then 121 else 110)):=by
  rw[z5 (s:=([]:Z UInt8)) (λj=>((f F[k]).take j).map (λb=>bif b then 121 else 110)) (by omega) rfl (λj hj=>by
   have hb:(f F[k])[j]? =some (f F[k])[j]:=aM hj;have hl:(((f F[k]).take j).map (λb=>bif b then(121:UInt8)else 110)).length<=j:=by grind
   grind [cB,aB,dH,iS,dX,List.length_nil]),dY]
 refine IS hkey ?_;have hks:(⟨(f F[k]).map (λb=>bif b then 121 else 110)⟩:eJ)=KY (f F[k]):=rfl;rw[hks];have hGl:(nH G (f F[k]) F[k]).length<=k+1:=by grind [GH]
 cases hfi:G.findIdx? (λg=>decide<|g.1=f F[k])with
 |some i=>
  have hm:kL M (KY<|f F[k])=true:=by rw[i2.has,hfi];rfl
  have hg:=i2.get _ _ hfi;have hil:=(List.findIdx?_eq_some_iff_getElem.1 hfi).1;have eG:nH G (f F[k]) F[k]=G.modify i (λg=>(g.1,g.2++[F[k]])):=by grind [nH]
  have ho:(G.map<|λg=>g.2)[i]? =some G[i].2:=by grind
  have hsum:G[i].2.length<=k:=ou (CV<|cH hil) hsG;rw[hm,ku,aQ];refine IS (x:=(M,G.map<|λg=>g.2,((i:Nat):Int))) (by rw[hg]) ?_;dsimp only;refine WR ho<|Xw (by grind)<|WR ho<|OF ⟨rfl,hGl,⟨λs=>?_,λs j hj=>?_⟩,?_⟩
  ·rw[i2.has,eG,zM]
  ·rw[eG,zM]at hj;exact i2.get s j hj
  ·dsimp only;rw[cK,eG];refine List.ext_getElem? λj=>?_
   grind
 |none=>
  have hm:kL M (KY<|f F[k])=false:=by rw[i2.has,hfi];rfl
  have eG:nH G (f F[k]) F[k]=G++[(f F[k],[F[k]])]:=by grind [nH]
  rw[hm,jH,aP];have hlen:(G.map<|λg=>g.2).length=G.length:=dM _;refine IS (x:=(r8 M (KY<|f F[k]) (G.length:Int),G.map (λg=>g.2)++[[]],(G.length:Int))) (by rw[iS (by simp only[dM,dX,List.length_nil];omega),aB,hlen]) ?_;dsimp only;have ho:(G.map (λg=>g.2)++[[]])[G.length]? =some []:=by rw[<-hlen,jO<|cJ _];simp
  refine WR ho<|Xw (by simp)<|WR ho<|OF ⟨rfl,hGl,⟨λs=>?_,λs j hj=>?_⟩,?_⟩
  ·rw[n7,eG,List.findIdx?_append,i2.has]
   by_cases es:s=f F[k]
   ·subst es;rw[hfi];simp
   ·rw[bY<|λh=>es<|KZ h,Bool.false_or];have: [(f F[k],[F[k]])].findIdx? (λg=>decide<|g.1=s)=none:=by simp[Ne.symm es]
    rw[this];cases G.findIdx? (λg=>decide<|g.1=s) <;> rfl
  ·rw[lJ];rw[eG,List.findIdx?_append]at hj
   by_cases es:s=f F[k]
   ·subst es;rw[hfi]at hj;rw[aH rfl];simp at hj;omega
   ·rw[aI<|λh=>es<|KZ h];have: [(f F[k],[F[k]])].findIdx? (λg=>decide<|g.1=s)=none:=by simp[Ne.symm es]
    rw[this]at hj;refine i2.get s j ?_
    cases hq:G.findIdx? (λg=>decide<|g.1=s)with
    |none=>rw[hq]at hj;cases hj
    |some q=>rw[hq]at hj;exact hj
  ·dsimp only;rw[cK,eG,eU,List.set_append_right _ _ (by rw[hlen];exact cJ _),hlen,Nat.sub_self];rfl
end
section
variable {N:Nat}{a:gZ}{ka:Z (Z aA)}{cI:Z (Z (Z aA))}{r:Nat->Nat}{gs:Z bZ}{ofP ofB fK:Z Int}{fG:Z eB}
theorem H3{a:gZ}{l:Z Test}{e:Int}(he:e≠0)(h:dC N a l=some e)(shown:Z Bool)(near:Int):iA N a l shown near=some ([],e):=by
 grind [iA,aB,Ek,E3]
theorem Ph(b:iF a ka cI r gs ofP ofB fK fG){l:Z Test}(h:dC N a l=some 0)(hl:l.length<=1048576)(ht:∀t∈l,Ei a t)(shown:Z Bool)(near:Int)(hN:nq N):
  iA N a l shown near=some (if near<0\/100000<near then([],1)else if 20000<(CX (bN 0 cI) gs ofP ofB near).length then([],2)else if shown.length≠l.length then([],3)else((CX (bN 0 cI) gs ofP ofB near).filter<|λx=>decide<|kq N a cI fK fG l [x]=shown,0)):=by
 unfold iA;rw[h,aB,GD b near hN,aB]
 by_cases hn:near<0\/100000<near
 ·rw[aH hn,aH hn];rfl
 rw[aI hn,aI hn]
 by_cases hs:20000<(CX (bN 0 cI) gs ofP ofB near).length
 ·rw[aH hs,aH hs];rfl
 rw[aI hs,aI hs];simp only[E3,bne_self_eq_false,aQ]
 by_cases hq:shown.length≠l.length
 ·grind
 have hq':shown.length=l.length:=by omega
 rw[aI hq,show((shown.length:Int) != ((l.length:Nat):Int))=false by rw[hq',bne_self_eq_false],aQ];have hright:=λ(x:aU)(hx:x∈CX (bN 0 cI) gs ofP ofB near)=>xv b hx;generalize hS:CX (bN 0 cI) gs ofP ofB near=S at *;refine XC ?_;refine WJ (Xr (n:=S.length) (λst=>st.2.2) (λk st=>st.1=S/\st.2.1=(S.take k).filter (λx=>decide<|kq N a cI fK fG l [x]=shown)) (Go:=λst=>st.2.1=S.filter (λx=>decide<|kq N a cI fK fG l [x]=shown)) (Rt:=λ_=>False) ?_ ?_ (cO _) rfl ⟨rfl,rfl⟩ (by omega)) ?_
 ·rintro k⟨S',s,kk⟩hk e⟨h1,hI⟩;dsimp only at e h1 hI ⊢;subst e;subst h1;subst hI;rw[iG hk,aP];have hx:S'[k]? =some S'[k]:=aM hk;have hlen:((S'.take k).filter<|λx=>decide<|kq N a cI fK fG l [x]=shown).length<=k:=ou (l4 _ _)<|List.length_take_le _ _
  refine IS (MP hx (by omega))<|IS (zL b (hright _<|cH hk) hl ht hN)<|IS (tT (by grind [Am]) hN)<|WJ (P:=λs=>s=(S'.take<|k+1).filter (λx=>decide<|kq N a cI fK fG l [x]=shown)) (Xj (λhc=>WR hx<|Xw (by grind)<|OF ?_)<|λhc=>OF ?_)<|λs hs=>W4 ⟨bF (by omega),rfl,hs⟩
  ·rw[dH hk,sR,List.filter_cons_of_pos (p:=λx=>decide<|kq N a cI fK fG l [x]=shown) hc,List.filter_nil]
  ·rw[dH hk,sR,List.filter_cons_of_neg (p:=λx=>decide<|kq N a cI fK fG l [x]=shown) (by grind),List.filter_nil,ov]
 ·simp[lL,aQ,dY,W9]
 intro o ho;exact Xa ho (λst hst=>OF (by rw[hst]))<|λr hr=>hr.elim
theorem zN{a:gZ}{l:Z Test}{e:Int}(he:e≠0)(h:dC N a l=some e)(near:Int):fu N a l near=some ([],e):=by
 grind [fu,aB,Ek,E3]
theorem Hd(b:iF a ka cI r gs ofP ofB fK fG){l:Z Test}(h:dC N a l=some 0)(hl:l.length<=1048576)(ht:∀t∈l,Ei a t)(near:Int)(hN:nq N):
  fu N a l near=some (if near<0\/100000<near then([],1)else if 20000<(CX (bN 0 cI) gs ofP ofB near).length then([],2)else((pT (λx=>kq N a cI fK fG l [x]) (kq N a cI fK fG l [])<|vz N a cI gs ofP ofB fK fG near).map<|λg=>g.2,0)):=by
 unfold fu;rw[h,aB,GD b near hN,aB]
 by_cases hn:near<0\/100000<near
 ·rw[aH hn,aH hn];rfl
 rw[aI hn,aI hn]
 by_cases hs:20000<(CX (bN 0 cI) gs ofP ofB near).length
 ·rw[aH hs,aH hs];rfl
 rw[aI hs,aI hs];simp only[E3,bne_self_eq_false,aQ];have hFl:(vz N a cI gs ofP ofB fK fG near).length<=20000:=ou (l4 _ _) (by omega);rw[zL b sP hl ht hN,aB,Hc b (λx hx=>xv b hx) (by omega) hN,aB];have hF0:(CX (bN 0 cI) gs ofP ofB near).filter (λx=> !DJ N a cI fK fG x)=vz N a cI gs ofP ofB fK fG near:=rfl;rw[hF0];have hright:=λ(x:aU)(hx:x∈vz N a cI gs ofP ofB fK fG near)=>KX b hx;have hsh:=λ(x:aU)(hx:x∈vz N a cI gs ofP ofB fK fG near)=>zL b (hright x hx) hl ht hN;generalize hF:vz N a cI gs ofP ofB fK fG near=F at *;have hfl:∀x,(kq N a cI fK fG l [x]).length=l.length:=λx=>Am;generalize hg0:kq N a cI fK fG l []=g0;generalize hf:(λx=>kq N a cI fK fG l [x])=f;have hfx:∀x,kq N a cI fK fG l [x]=f x:=λx=>by rw[<-hf]
 simp only[hfx]at hsh hfl;refine XC ?_
 refine WJ (Xr (n:=F.length) (λst=>st.2.2.2.2) (λk st=>st.1=g0/\st.2.1=F/\(pT f g0 (F.take k)).length<=k/\(∀g∈pT f g0 (F.take k),g.1.length=l.length)/\st.2.2.1=(pT f g0 (F.take k)).map (λg=>g.2)/\st.2.2.2.1=(pT f g0 (F.take k)).map (λg=>g.1))
  (Go:=λst=>st.2.2.1=(pT f g0 F).map (λg=>g.2)) (Rt:=λ_=>False) ?_ ?_ (cO _) rfl ⟨rfl,rfl,cJ _,(λg hg=>by cases hg),rfl,rfl⟩ (by omega)) ?_
 ·rintro k⟨g0',F',out,ans,kk⟩hk e⟨q1,q2,q3,q4,q5,q6⟩;dsimp only at e q1 q2 q5 q6 ⊢;subst e;subst q1;subst q2;subst q5;subst q6;rw[iG hk,aP];have hx:F'[k]? =some F'[k]:=aM hk;have hts:F'.take (k+1)=F'.take k++[F'[k]]:=dH hk;have hfk:=hfl F'[k];rw[hts,GG];have hsG:yi (pT f g0'<|F'.take k)<=k:=by
   rw[DM]
   grind
  have hshk:=hsh _<|cH hk
  generalize pT f g0' (F'.take k)=G at *;generalize F'[k]=x at *;refine IS (MP hx (by omega))<|IS hshk<|IS (tT (by omega) hN) ?_
  by_cases e:f x=g0'
  ·grind [bQ,W4,bF]
  rw[bY e,aQ,aI e];have hGl:=GH G (f x) x;have hl1:(G.map<|λg=>g.1).length=G.length:=dM _;have hl2:(G.map<|λg=>g.2).length=G.length:=dM _;refine WJ (Xr (n:=G.length) (λs=>s) (λj _=>∀(i:Nat)g,i<j->G[i]? =some g->g.1≠f x) (Go:=λs=>∃at_:Nat,s=(at_:Int)/\((at_<G.length/\G.findIdx? (λg=>decide<|g.1=f x)=some at_)\/(at_=G.length/\G.findIdx? (λg=>decide<|g.1=f x)=none))) (Rt:=λ_=>False) ?_ ?_ (cO _) rfl (λi g hi=>by omega) (by omega)) ?_
  ·rintro j s hj e hJ;subst e;rw[hl1,iG hj,aP];have hy:(G.map<|λg=>g.1)[j]? =some G[j].1:=by rw[gE,aM hj];rfl
   have hgl:=q4 _<|cH hj
   refine IS (x:= !decide (G[j].1=f x)) (by rw[cB hy,aB,tT (by omega) hN,aB]) ?_
   by_cases e:G[j].1=f x
   ·rw[bQ e,ku,aQ];refine W9 ⟨j,rfl, .inl ⟨hj,?_⟩⟩;rw[List.findIdx?_eq_some_iff_getElem];refine⟨hj,by rw[bQ e],λi hi=>?_⟩;have:=hJ i _ hi<|aM (by omega)
    rw[bY this];decide
   ·rw[bY e,jH,aP];refine W4 ⟨bF (by omega),λi g hi hig=>?_⟩
    by_cases e2:i=j
    ·subst e2;rw[aM hj]at hig;injection hig with hig
     rw[<-hig];exact e
    ·exact hJ i g (by omega) hig
  ·rintro s e hJ;subst e;rw[hl1,lL,aQ,aB,aQ];refine W9 ⟨G.length,rfl, .inr ⟨rfl,?_⟩⟩;rw[List.findIdx?_eq_none_iff];intro g hg;obtain⟨i,hi⟩:=dZ hg;rw[bY<|hJ i g (bS.1 hi).1 hi]
  intro o ho;refine Xa ho ?_<|λr hr=>hr.elim
  rintro s⟨i,rfl,⟨hil,hfi⟩|⟨rfl,hfi⟩⟩
  ·
   have eG:nH G (f x) x=G.modify i (λg=>(g.1,g.2++[x])):=by unfold nH;rw[hfi]
   have ho:(G.map<|λg=>g.2)[i]? =some G[i].2:=by rw[gE,aM hil];rfl
   have hsum:G[i].2.length<=k:=ou (CV<|cH hil) hsG;refine IS (x:=(G.map<|λg=>g.2,G.map<|λg=>g.1)) (by rw[hl1,show(((i:Nat):Int)==(G.length:Int))=false by rw[beq_eq_false_iff_ne];omega,aQ]) ?_;dsimp only;refine WR ho<|WR hx<|Xw (by simp only[dX,List.length_nil];omega)<|WR ho<|W4 ⟨bF (by omega),rfl,rfl,by omega,λg hg=>?_,?_,?_⟩
   ·rw[eG]at hg;obtain⟨j,hj⟩:=dZ hg;rw[List.getElem?_modify]at hj
    cases hgj:G[j]? with
    |none=>rw[hgj]at hj;cases hj
    |some y=>
     rw[hgj]at hj;have hym:=q4 y<|gl hgj
     by_cases e2:i=j
     ·subst e2;simp at hj;rw[<-hj];exact hym
     ·simp[e2]at hj;rw[<-hj];exact hym
   ·dsimp only;rw[cK,eG];refine List.ext_getElem? λj=>?_;rw[gE,List.getElem?_modify]
    by_cases ej:i=j
    ·subst ej;rw[List.getElem?_set_self (by rw[dM];exact hil),aM hil];simp
    ·rw[List.getElem?_set_ne ej,gE]
     cases G[j]? with
     |none=>rfl
     |some g=>simp[ej]
   ·dsimp only;rw[eG];refine List.ext_getElem? λj=>?_;rw[gE,gE,List.getElem?_modify]
    cases G[j]? with
    |none=>rfl
    |some g=>by_cases ej:i=j <;> simp[ej]
  ·have eG:nH G (f x) x=G++[(f x,[x])]:=by unfold nH;rw[hfi]
   refine IS (x:=(G.map (λg=>g.2)++[[]],G.map (λg=>g.1)++[f x])) (by rw[hl1,BEq.rfl,aP,iS (by simp only[dM,dX,List.length_nil];omega),aB,iS (by simp only[dM,dX,List.length_nil];omega),aB]) ?_;dsimp only;have ho:(G.map (λg=>g.2)++[[]])[G.length]? =some []:=by rw[<-hl2,jO<|cJ _];simp
   refine WR ho<|WR hx<|Xw (by simp)<|WR ho<|W4 ⟨bF (by omega),rfl,rfl,by omega,λg hg=>?_,?_,?_⟩
   ·rw[eG]at hg
    rcases dI.1 hg with hg|hg
    ·exact q4 g hg
    ·rw[lY]at hg;subst hg;exact hfk
   ·dsimp only;rw[cK,eG,eU,List.set_append_right _ _ (by rw[hl2];exact cJ _),hl2,Nat.sub_self];rfl
   ·dsimp only;rw[eG,eU];rfl
 ·rintro⟨g0',F',out,ans,kk⟩e⟨q1,q2,q3,q4,q5,q6⟩;dsimp only at e q1 q2 q5 q6 ⊢;subst e;subst q1;subst q2;rw[lL,aQ];rw[dY]at q5;exact W9 q5
 intro o ho;exact Xa ho (λst hst=>OF (by rw[hst]))<|λr hr=>hr.elim
end
section
variable {N:Nat}
theorem EJ{l:Z (Z aU)}(hl:l.length<=1000000000)(h:∀x∈l,x.length<=1000000000):gk N l l (gO N)=some true:=by
 unfold gk;rw[bne_self_eq_false,aQ]
 rw[qm (λ_=>none) (by omega) (λk hk _=>by
  have hx:l[k]? =some l[k]:=aM hk;have hs:gO N l[k] l[k]=some true:=by
   grind [gO,cH,Gv,bQ]
  rw[cB hx,aB,aB,hs];rfl),aB,j7.2 (λ_ _=>rfl)]
 rfl
theorem zO{a:gZ}{l:Z Test}{shown:Z Bool}{near:Int}(ha:bk a<=1048576)(hl:bk l<=1048576)(_hs:bk shown<=1048576)(_hn:bk near<=1048576)(hN:nq N):fS N a l shown near=some true:=by
 have hs:=Ky ha;have hll:l.length<=1048576:=by grind [Bt]
 have aw:=Ql hN;have fin:∀{x:Z aU×Int}{y:Z (Z aU)×Int},x.1.length<=1000000000->y.1.length<=1000000000->(∀z∈y.1,z.length<=1000000000)->qU N a l shown near=some x->iA N a l shown near=some x->kH N a l near=some y->fu N a l near=some y->fS N a l shown near=some true:=λ{x y}l1 l2 l3 h1 h2 h3 h4=>by
  grind [fS,aB,Gv,EJ]
 have badC:∀{o:aT (Z (Z aF)×Z aF×Z bV×Z dA×Z (Z aA)×Z aD×Z (Z Int)×Z bZ×Z Int×Z Int×Z Int×Z eB)}{e:Int},e≠0->o=none->kh N a l=some (o,e)->qU N a l shown near=some ([],e):=λ{o e}he ho h=>by
  grind [qU,aB,E3]
 rcases checked (N:=N) hs hN with⟨e,he,h1,h2⟩|⟨b,h1,h2⟩
 ·have hc:=CS he h2 l;exact fin (by simp) (by simp) (λz hz=>by cases hz) (badC he rfl<|KU he h1 l) (H3 he hc shown near) (uD he<|Ej he<|KU he h1 l)<|zN he hc near
 rename_i ka cI r gs ofP ofB fK fG;have hlf:=b.vt.yO;have hT:=DL (N:=N) (by omega) h2 hll hN
 rcases Qo b h1 hll hN with⟨e1,e2⟩|⟨e1,e2⟩
 ·exact fin (by simp) (by simp) (λz hz=>by cases hz) (badC e1 rfl e2) (H3 e1 hT shown near) (uD e1<|Ej e1 e2)<|zN e1 hT near
 rw[e1]at hT;obtain⟨_,t2,_⟩:=I5 e1;have hH:=L0 b e2 hll t2 near hN;have hC1:=Sm b e2 hll t2 shown near hN;have hC2:=Ph b hT hll t2 shown near hN;have hX:=Hd b hT hll t2 near hN
 by_cases hn:near<0\/100000<near
 ·rw[aH hn]at hH hC1 hC2 hX;exact fin (by simp) (by simp) (λz hz=>by cases hz) hC1 hC2 (uD (by decide) hH) hX
 rw[aI hn]at hH hC1 hC2 hX
 by_cases hsl:20000<(CX (bN 0 cI) gs ofP ofB near).length
 ·rw[aH hsl]at hH hC1 hC2 hX;exact fin (by simp) (by simp) (λz hz=>by cases hz) hC1 hC2 (uD (by decide) hH) hX
 rw[aI hsl]at hH hC1 hC2 hX;have hFl:(vz N a cI gs ofP ofB fK fG near).length<=20000:=ou (l4 _ _) (by omega);have hY:=K1 hH (by omega) (λx=>by rw[Am];exact hll);have hsum:=DM (λx=>kq N a cI fK fG l [x]) (kq N a cI fK fG l [])<|vz N a cI gs ofP ofB fK fG near
 have hne:=K0 (λx=>kq N a cI fK fG l [x]) (kq N a cI fK fG l []) (vz N a cI gs ofP ofB fK fG near) [] (λg hg=>by cases hg);have hfl:=l4 (λx=> !decide (kq N a cI fK fG l [x]=kq N a cI fK fG l []))<|vz N a cI gs ofP ofB fK fG near
 have hne:∀g∈pT (λx=>kq N a cI fK fG l [x]) (kq N a cI fK fG l []) (vz N a cI gs ofP ofB fK fG near),g.2≠[]:=hne;generalize pT (λx=>kq N a cI fK fG l [x]) (kq N a cI fK fG l []) (vz N a cI gs ofP ofB fK fG near)=G at *;have hGl:G.length<=yi G:=by
  have key:∀(G:Z (Z Bool×Z aU)),(∀g∈G,g.2≠[])->G.length<=yi G:=by
   intro G
   induction G with
   |nil=>intro _;exact cO _
   |cons g G ih=>
    intro h;have h1:=ih<|λg hg=>h g<|jP _ hg
    have h3:=List.length_pos_iff.2<|h g<|List.mem_cons_self ..
    unfold yi at h1 ⊢;rw[eV,List.sum_cons,dX];omega
  exact key G hne
 refine fin ?_ ?_ ?_ hC1 hC2 hY hX
 ·split
  ·simp
  ·exact ou (l4 _ _) (by omega)
 ·dsimp only;rw[dM];omega
 ·intro z hz;obtain⟨g,hg,rfl⟩:=dN.1 hz;have:=CV hg;omega
end
end Go.Gk
