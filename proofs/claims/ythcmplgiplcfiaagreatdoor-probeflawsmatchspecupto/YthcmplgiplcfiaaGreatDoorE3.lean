/-
  Helping texts: plain functions and plain laws. No statement of the seed is proved here.
-/
import Derived.Test.YthcmplgiplcfiaaGreatDoorE2
import Derived.Test.YthcmplgiplcfiaaGreatDoorA2
set_option linter.unusedVariables false
set_option linter.unusedSimpArgs false
set_option linter.unusedSectionVars false
namespace Go.Gk
open Go IntKind Classical
def yp(l:List Test)(k:Nat)(t:Test):Prop:=gQ t.B t.A<=0\/(0<k/\((l[k - 1]?).elim false λu=>decide<|px t u<=0)=true)
theorem Ki{a:jr}{l:List Test}{k:Nat}{t:Test}(hx:l[k]? =some t):tM a l k=if jI a t.A<0\/jI a t.B<0 then some 9 else if yp l k t then some 8 else none:=by
 unfold tM yp;rw[hx,Option.bind_some]
 by_cases h1:jI a t.A<0\/jI a t.B<0
 ·rw[aC h1,aC h1]
 rw[aD h1,aD h1]
 by_cases h2:gQ t.B t.A<=0
 ·rw[aC h2,aC<|.inl h2]
 rw[aD h2]
 by_cases h3:0<k/\((l[k - 1]?).elim false λu=>decide<|px t u<=0)=true
 ·rw[aC h3,aC<|.inr h3]
 ·rw[aD h3,aD<|λh=>h.elim h2 h3]
def Qe(bs:List bT)(n:Nat)(x:fo):Int:=if AP x=true then 3 else if uN bs n x=false then 9 else if(!x.Open&&decide (x.B<=x.A))=true then 8 else 0
theorem LC{bs:List bT}{n:Nat}{fl:List fo}{k:Nat}{x:fo}(hx:fl[k]? =some x):vK bs n fl k=if Qe bs n x≠0 then some (Qe bs n x)else if x∈fl.take k then some 7 else none:=by
 unfold vK Qe;rw[hx,Option.bind_some]
 by_cases h1:AP x=true
 ·rw[aC h1,aC h1,aC (by decide)]
 rw[aD h1,aD h1]
 by_cases h2:uN bs n x=false
 ·rw[aC h2,aC h2,aC (by decide)]
 rw[aD h2,aD h2]
 by_cases h3:(!x.Open&&decide (x.B<=x.A))=true
 ·rw[aC h3,aC h3,aC (by decide)]
 rw[aD h3,aD h3,aD (show ¬((0:Int)≠0)by decide)]
section
variable {N:Nat}
theorem DQ(p q:dO):iF N p q=some (decide<|xU p q):=by
 unfold iF;congr 1;rw[dY,bJ,dU,bX,Ad];rfl
theorem DR(t u:Test):jf N t u=some (decide<|LL t u):=by
 unfold jf;simp only[DQ,aB]
 by_cases h1:xU t.A u.A
 ·have h:LL t u:= .inl h1;rw[bL h1,aK,aB,bL h]
 rw[bG h1,aM]
 by_cases h2:t.A=u.A
 ·rw[bL h2,aK,aB];congr 1;rw[decide_eq_decide];exact⟨λh=> .inr ⟨h2,h⟩,λh=>h.elim (λh=>absurd h h1)<|λh=>h.2⟩
 ·have h:¬LL t u:=λh=>h.elim h1<|λh=>h2 h.1
  rw[bG h2,aM,aB,bG h]
theorem zA{a:jr}(hl:a.bM.length<=1000000)(p:dO)(hN:4398046511104<=N):fV N a p=some (jI a p):=by
 refine Tm ?_;unfold fV;refine Sr (Tb (n:=a.bM.length) (λs=>s) (λk _=>∀(j:Nat)x,j<k->a.bM[j]? =some x->decide (kK x=p)=false) (Go:=λ_=>jI a p = -1) (Rt:=λr=>r=jI a p) ?_ ?_ (cZ _) rfl (λj x hj=>by omega) (by omega)) ?_
 ·rintro k s hk e hI;subst e;rw[kd hk,aK];have hx:a.bM[k]? =some a.bM[k]:=aO hk;refine IT (x:=decide<|kK a.bM[k]=p) ?_<|SP (λh=>Tn ?_)<|λh=>SJ ⟨bK (by omega),λj x hj hjx=>?_⟩
  ·rw[cI hx,aB,aB,IZ,IZ]
   by_cases h1:a.bM[k].Part=p.Part
   ·rw[bL h1,aK];congr 1;rw[dY,bJ,bJ,Jr];exact⟨λh=>⟨h1,h⟩,λh=>h.2⟩
   ·rw[bG h1,aM,bG<|λh=>h1 ((Jr _ _).1 h).1]
  ·exact(GV hx h hI).symm
  ·by_cases e:j=k
   ·subst e;rw[hx]at hjx;injection hjx with hjx;rw[<-hjx];exact h
   ·exact hI j x (by omega) hjx
 ·rintro s e hI;subst e;rw[lW,aM];refine SU ?_;unfold jI;rw[GU];rw[List.any_eq_false];intro x hx;obtain⟨j,hj⟩:=dZ hx;rw[hI j x (bD.1 hj).1 hj];exact j8
 intro o ho;exact SV ho (λs hs=>Sh hs.symm)<|λr hr=>Sh hr
theorem AR{a:jr}{e:Int}(he:e≠0)(h:cU N a=some e)(l:List Test):fB N a l=some e:=by
 unfold fB;rw[h,aB,show(e != 0)=true by simpa using he,aK]
theorem BG{a:jr}(ha:a.bM.length<=1000000)(h:cU N a=some 0){l:List Test}(hl:l.length<=1048576)(hN:4398046511104<=N):fB N a l=some (qF a l):=by
 refine Tm ?_;unfold fB;refine IT h ?_;rw[bne_self_eq_false,aM];unfold qF
 by_cases h2:2000<l.length
 ·rw[bL (show((l.length:Nat):Int)>2000 by omega),aK,aC h2];exact Sh rfl
 rw[bG (show ¬((l.length:Nat):Int)>2000 by omega),aM,aD h2];have hA:∀p,fV N a p=some (jI a p):=λp=>zA ha p hN;refine Sr (Tb (n:=l.length) (λs=>s) (λk _=>∀j,j<k->tM a l j=none) (Go:=λ_=>qg l.length (tM a l)=none) (Rt:=λr=>qg l.length (tM a l)=some r) ?_ ?_ (cZ _) rfl (λj hj=>by omega) (by omega)) ?_
 ·rintro k s hk e hI;subst e;rw[kd hk,aK];have hx:l[k]? =some l[k]:=aO hk;have hte:=Ki (a:=a) hx;generalize l[k]=t at hx hte;refine IT (x:=decide<|jI a t.A<0\/jI a t.B<0) ?_<|SP (λh1=>Tn ?_)<|λh1=>?_
  ·simp only[cI hx,aB,hA]
   by_cases q:jI a t.A<0
   ·rw[bL q,aK,bL<|.inl q]
   ·rw[bG q,aM];congr 1;rw[decide_eq_decide];exact⟨.inr,λh=>h.resolve_left q⟩
  ·rw[aC<|of_decide_eq_true h1]at hte;exact jY.2 ⟨k,hk,hte,hI⟩
  rw[aD<|of_decide_eq_false h1]at hte;refine IT (x:=decide<|yp l k t) ?_<|SP (λh2=>Tn ?_)<|λh2=>SJ ⟨bK (by omega),λj hj=>?_⟩
  ·simp only[cI hx,aB,DQ,DR];have hle:gQ t.B t.A<=0↔¬xU t.A t.B:=by rw[<-qZ];omega
   by_cases q:xU t.A t.B
   ·rw[bL q,jz,aM]
    by_cases h0:0<k
    ·have hp:k - 1<l.length:=by omega
     have hy:l[k - 1]? =some l[k - 1]:=aO hp;have hgt:px t l[k - 1]<=0↔¬LL l[k - 1] t:=by rw[<-HA];omega
     rw[bL (show((k:Nat):Int)>0 by omega),aK,jg h0 (by omega),cI hy,aB];congr 1;rw[dY,Bool.not_eq_true',decide_eq_false_iff_not,bJ];unfold yp;rw[hy,Option.elim_some,bJ,hgt,hle];exact⟨λh=> .inr ⟨h0,h⟩,λh=>h.elim (λh=>absurd q h)<|λh=>h.2⟩
    ·have hn:¬yp l k t:=λh=>h.elim (λh=>hle.1 h q)<|λh=>h0 h.1
     rw[bG (show ¬((k:Nat):Int)>0 by omega),aM,bG hn]
   ·have hn:yp l k t:= .inl<|hle.2 q
    rw[bG q,jo,aK,bL hn]
  ·rw[aC<|of_decide_eq_true h2]at hte;exact jY.2 ⟨k,hk,hte,hI⟩
  ·by_cases e:j=k
   ·subst e;rw[hte,aD<|of_decide_eq_false h2]
   ·exact hI j (by omega)
 ·rintro s e hI;subst e;rw[lW,aM];exact SU<|kA.2 hI
 intro o ho;exact SV ho (λ_ h=>Sh (by rw[h];rfl))<|λr hr=>Sh (by rw[hr];rfl)
theorem AU(n:Nat)(k:Int)(hn:n<=1073741824):gL N k 0 (wrap .i64<|((n:Nat):Int) - 1)=some (DW n k):=by
 rw[fw (by omega) (by omega)];rfl
theorem Cm{bs:List bT}{rs:List (List aI)}(hr:rs.length<=1073741824)(hb:bs.length<=1073741824)(x:fo):iO N bs rs x=some (Qe bs rs.length x):=by
 unfold iO Qe;have e1:(bif x.Open&&((x.A != 0)||(x.B != 0))then some true else(bif(!x.Open)then some (!(decide<|x.dP=(⟨false,0⟩:dP)))else some false))=some (AP x):=by
  unfold AP
  cases x.Open with
  |true=>cases(x.A != 0||x.B != 0) <;> rfl
  |false=>rfl
 rw[e1,aB]
 cases hf:AP x with
 |true=>rfl
 |false=>
  rw[aM,aD j8];simp only[AU _ _ hr,AU _ _ hb,aB];unfold uN
  cases ho:x.Open with
  |false=>
   simp only[jo,aK,aM,Bool.true_and]
   cases hA:DW rs.length x.A with
   |false=>rfl
   |true=>
    cases hB:DW rs.length x.B with
    |false=>rfl
    |true=>
     simp only[jz,aM,aB,Bool.and_self]
     cases decide (x.B<=x.A) <;> rfl
  |true=>
   simp only[jz,aK,aM,Bool.false_and]
   cases hB:x.dP.bT with
   |false=>
    simp only[jo,aK,aM,aB]
    cases DW rs.length x.dP.Number <;> rfl
   |true=>
    simp only[jz,aK,aM,aB]
    cases hi:DW bs.length x.dP.Number with
    |false=>rfl
    |true=>
     unfold DW at hi;rw[bX,bJ,bJ]at hi;have hlt:x.dP.Number.toNat<bs.length:=by omega
     have hbx:bs[x.dP.Number.toNat]? =some bs[x.dP.Number.toNat]:=aO hlt;have hix:=cI hbx;rw[Int.toNat_of_nonneg hi.1]at hix;simp only[jz,aM,hix,aB];unfold tH;rw[hbx]
     cases hp:bs[x.dP.Number.toNat].eP <;> simp[hp]
theorem BH{bs:List bT}{rs:List (List aI)}{fl:List fo}(hr:rs.length<=1073741824)(hb:bs.length<=1073741824)(hf:fl.length<=1048576)(hN:4398046511104<=N):iC N bs rs fl=some (mS bs rs.length fl):=by
 refine Tm ?_;unfold iC mS
 by_cases h20:20<fl.length
 ·rw[bL (show((fl.length:Nat):Int)>20 by omega),aK,aC h20];exact Sh rfl
 rw[bG (show ¬((fl.length:Nat):Int)>20 by omega),aM,aD h20];refine Sr (Tb (n:=fl.length) (λs=>s) (λk _=>∀j,j<k->vK bs rs.length fl j=none) (Go:=λ_=>qg fl.length (vK bs rs.length fl)=none) (Rt:=λr=>qg fl.length (vK bs rs.length fl)=some r) ?_ ?_ (cZ _) rfl (λj hj=>by omega) (by omega)) ?_
 ·rintro k s hk e hI;subst e;rw[kd hk,aK];have hx:fl[k]? =some fl[k]:=aO hk;have hte:=LC (bs:=bs) (n:=rs.length) hx;refine Sy hx<|IT (Cm hr hb _)<|SP (λh1=>Tn ?_)<|λh1=>?_
  ·rw[aC (by simpa using h1)]at hte;exact jY.2 ⟨k,hk,hte,hI⟩
  rw[aD (by simpa using h1)]at hte;refine Sr (Tb (n:=k) (λs=>s) (λj _=>∀(i:Nat)y,i<j->fl[i]? =some y->y≠fl[k]) (Go:=λ_=>fl[k]∉fl.take k) (Rt:=λr=>r=7/\fl[k]∈fl.take k) ?_ ?_ (cZ _) rfl (λi y hi=>by omega) (by omega)) ?_
  ·rintro j s hj e hJ;subst e;rw[kd hj,aK];have hy:fl[j]? =some (fl[j]'(by omega)):=aO _;refine Sy hy<|Sy hx<|SP (λh2=>Tn ⟨rfl,?_⟩)<|λh2=>SJ ⟨bK (by omega),λi y hi hiy=>?_⟩
   ·have h2:=of_decide_eq_true h2;rw[<-h2];have:(fl.take k)[j]? =some (fl[j]'(by omega)):=by rw[List.getElem?_take_of_lt hj];exact hy
    exact fQ this
   ·have h2:=of_decide_eq_false h2
    by_cases e:i=j
    ·subst e;rw[hy]at hiy;injection hiy with hiy;rw[<-hiy];exact h2
    ·exact hJ i y (by omega) hiy
  ·rintro s e hJ;subst e;rw[lW,aM];refine SU λhm=>?_;obtain⟨i,hi⟩:=dZ hm;have hil:=(bD.1 hi).1;rw[cQ]at hil;rw[List.getElem?_take_of_lt (by omega)]at hi;exact hJ i _ (by omega) hi rfl
  intro o ho;refine SV ho (λ_ h2=>SJ ⟨bK (by omega),λj hj=>?_⟩)<|λr hr2=>Tn ?_
  ·rw[aD h2]at hte
   by_cases e:j=k
   ·subst e;exact hte
   ·exact hI j (by omega)
  ·rw[aC hr2.2]at hte;exact jY.2 ⟨k,hk,by rw[hr2.1];exact hte,hI⟩
 ·rintro s e hI;subst e;rw[lW,aM];exact SU<|kA.2 hI
 intro o ho;exact SV ho (λ_ h=>Sh (by rw[h];rfl))<|λr hr=>Sh (by rw[hr];rfl)
theorem uq{a:jr}{e:Int}(he:e≠0)(h:cU N a=some e)(fl:List fo):dF N a fl=some e:=by
 unfold dF;rw[h,aB,show(e != 0)=true by simpa using he,aK]
theorem mC{a:jr}{kS:List (List aA)}{dS:List (List<|List aA)}{r:Nat->Nat}{gs:List cK}{ofP ofB l9:List Int}{lZ:List dP}(b:l8 a kS dS r gs ofP ofB l9 lZ)(h:cU N a=some 0){fl:List fo}(hf:fl.length<=1048576)(hN:4398046511104<=N):
  dF N a fl=some (mS a.aQ (cE 0 dS).length fl):=by
 have hfw:=b.xd.2;have hbl:=b.xR.gb.len;unfold dF;rw[h,aB,bne_self_eq_false,aM,B9 b hN,aB];dsimp only;rw[BH (by rw[dA];omega) (by omega) hf hN,aB,dA]
end
def DX(t:Nat)(L:Nat->Nat->Prop)(op:Nat->Prop)(done:Nat->Nat->Prop)(u:List Int):Prop:=
 ∃r E,FV t u r/\nE r E/\w6 t r E/\(∀p∈E,(L p.1 p.2\/L p.2 p.1)/\¬op p.1/\¬op p.2)/\∀i j,done i j->¬op i->¬op j->(i,j)∈E\/(j,i)∈E
theorem DX.mono{t:Nat}{L:Nat->Nat->Prop}{op:Nat->Prop}{d d':Nat->Nat->Prop}{u:List Int}(h:DX t L op d u)(hd:∀i j,d' i j->d i j):DX t L op d' u:=by
 obtain⟨r,E,h1,h2,h3,h4,h5⟩:=h;exact⟨r,E,h1,h2,h3,h4,λi j hij=>h5 i j<|hd i j hij⟩
theorem DX.skip{t:Nat}{L:Nat->Nat->Prop}{op:Nat->Prop}{d:Nat->Nat->Prop}{u:List Int}(h:DX t L op d u){i k:Nat}(ho:op i\/op k):DX t L op (λa b=>d a b\/(a=i/\b=k)) u:=by
 obtain⟨r,E,h1,h2,h3,h4,h5⟩:=h;refine⟨r,E,h1,h2,h3,h4,λa b hab ha hb=>?_⟩
 rcases hab with hab|⟨rfl,rfl⟩
 ·exact h5 a b hab ha hb
 ·exact ho.elim (λh=>absurd h ha)<|λh=>absurd h hb
section
variable {N:Nat}
theorem DS{t:Nat}{u:List Int}{r:Nat->Nat}(h:FV t u r){i k:Nat}(hi:i<t)(hk:k<t)(ht:t<N)(ht2:t<=1000000000):
  Ok (gG N u ((i:Nat):Int) ((k:Nat):Int)) (λu'=>FV t u'<|Cl r (r i)<|r k):=by
 have hl:=h.len;unfold gG;refine Sy (h.at hi)<|Sy (h.at hk) ?_
 refine Sr (Tb (n:=t) (λst=>st.2) (λj st=>st.1=Js t (λx=>if x<j then((Cl r (r i) (r k) x:Nat):Int)else((r x:Nat):Int))) (Go:=λst=>FV t st.1<|Cl r (r i)<|r k) (Rt:=λ_=>False) ?_ ?_ (cZ _) rfl ?_ ht) ?_
 ·rintro j⟨u1,jj⟩hj e hI;dsimp only at e hI ⊢;subst e;subst hI;rw[uo,kd hj,aK];have hx:=DO (n:=t) (f:=λx=>if x<j then((Cl r (r i) (r k) x:Nat):Int)else((r x:Nat):Int)) hj;rw[aD<|Nat.lt_irrefl j]at hx;refine Sy hx ?_;refine Sr (P:=λs=>s=Js t (λx=>if x<j+1 then((Cl r (r i) (r k) x:Nat):Int)else((r x:Nat):Int))) (SP (λhb=>Sy hx<|Sh ?_)<|λhb=>Sh ?_)<|λs hs=>SJ ⟨bK (by omega),hs⟩
  ·have hb:r j=r k:=by have:=beq_iff_eq.1 hb;omega
   rw[cA];refine Jt (λ_=>?_)<|λx _ hne=>?_
   ·rw[aC (by omega)];unfold Cl;rw[aC hb]
   ·by_cases h1:x<j
    ·rw[aC h1,aC (by omega)]
    ·rw[aD h1,aD (by omega)]
  ·have hb:¬r j=r k:=by have:=beq_eq_false_iff_ne.1 hb;omega
   refine vL λx _=>?_
   by_cases h1:x<j
   ·rw[aC h1,aC (by omega)]
   ·rw[aD h1]
    by_cases h2:x=j
    ·subst h2;rw[aC (by omega)];unfold Cl;rw[aD hb]
    ·rw[aD (by omega)]
 ·rintro⟨u1,jj⟩e hI;dsimp only at e hI ⊢;subst e;subst hI;rw[uo,lW,aM];refine SU ?_;show Js t _=(List.range t).map _;exact vL λx hx=>by rw[aC hx]
 ·dsimp only;rw[show u=Js t (λi=>((r i:Nat):Int))from h];exact vL λx _=>by rw[aD (by omega)]
 intro o ho;exact SV ho (λs hs=>Sh hs)<|λr hr=>hr.elim
theorem DX.join{t:Nat}{L:Nat->Nat->Prop}{op:Nat->Prop}{d:Nat->Nat->Prop}{u:List Int}(h:DX t L op d u){i k:Nat}(hi:i<t)(hk:k<t)(ht:t<N)(ht2:t<=1000000000)(hL:L i k)(hoi:¬op i)(hok:¬op k):
  Ok (gG N u ((i:Nat):Int) ((k:Nat):Int)) (DX t L op<|λa b=>d a b\/(a=i/\b=k)):=by
 obtain⟨r,E,h1,h2,h3,h4,h5⟩:=h;refine(DS h1 hi hk ht ht2).mono λu' hu'=>⟨_,_,hu',h2.rel i k,h3.rel hi hk,λp hp=>?_,λa b hab ha hb=>?_⟩
 ·rcases cR.1 hp with h|h
  ·exact h4 p h
  ·rw[kp]at h;subst h;exact⟨.inl hL,hoi,hok⟩
 ·rcases hab with hab|⟨rfl,rfl⟩
  ·exact(h5 a b hab ha hb).imp (List.mem_append_left _)<|List.mem_append_left _
  ·exact .inl<|List.mem_append_right _<|kp.2 rfl
theorem DX.pP{t:Nat}{L:Nat->Nat->Prop}{op:Nat->Prop}{d:Nat->Nat->Prop}{u:List Int}(h:DX t L op d u){i k:Nat}(hi:i<t)(hk:k<t)(ht:t<N)(ht2:t<=1000000000)(hL:L i k)(hoi:¬op i)(hok:¬op k):
  Ok (gG N u ((k:Nat):Int) ((i:Nat):Int)) (DX t L op<|λa b=>d a b\/(a=i/\b=k)):=by
 obtain⟨r,E,h1,h2,h3,h4,h5⟩:=h;refine(DS h1 hk hi ht ht2).mono λu' hu'=>⟨_,_,hu',h2.rel k i,h3.rel hk hi,λp hp=>?_,λa b hab ha hb=>?_⟩
 ·rcases cR.1 hp with h|h
  ·exact h4 p h
  ·rw[kp]at h;subst h;exact⟨.inr hL,hok,hoi⟩
 ·rcases hab with hab|⟨rfl,rfl⟩
  ·exact(h5 a b hab ha hb).imp (List.mem_append_left _)<|List.mem_append_left _
  ·exact .inr<|List.mem_append_right _<|kp.2 rfl
theorem FW{bs:List bT}{n m:Nat}{h:dP}{rs:List (List aI)}(hh:EV bs n m h)(hr:rs.length=n)(hn:n+m<=1000000000):fU N rs h=some ((eF n h:Nat):Int)/\eF n h<n+m:=by
 obtain⟨k,e,h1,h2⟩:=hh.num;unfold fU eF
 cases hB:h.bT with
 |true=>
  have:=(h1 hB).1;rw[aK,aC rfl,e,cA,hr,wrap_add (by omega)];exact⟨rfl,by omega⟩
 |false=>
  have:=h2 hB;rw[aM,aD j8,e,cA];exact⟨rfl,by omega⟩
end
structure Iv (bs:List bT) (pcs:List aH) (fl:List fo) (ls:List cX) (r2:Nat->Nat) (j:Nat) (W:List Int):Prop where
 len:W.length=j
 no:∀i l,i<j->ls[i]? =some l->lu bs pcs fl l=none->W[i]? =some (-1)
 yes:∀i l v,i<j->ls[i]? =some l->lu bs pcs fl l=some v->W[i]? =some ((r2 v:Nat):Int)
theorem Iv.conn{bs:List bT}{pcs:List aH}{fl:List fo}{ls:List cX}{r2:Nat->Nat}{W:List Int}(h:Iv bs pcs fl ls r2 ls.length W){i k:Nat}{x y:cX}(hx:ls[i]? =some x)(hy:ls[k]? =some y):
  wO W i k=true↔∃u v,lu bs pcs fl x=some u/\lu bs pcs fl y=some v/\r2 u=r2 v:=by
 have hi:=(bD.1 hx).1;have hk:=(bD.1 hy).1;unfold wO;rw[bX,bJ,beq_iff_eq,List.getD_eq_getElem?_getD,List.getD_eq_getElem?_getD]
 cases hn:lu bs pcs fl x with
 |none=>
  rw[h.no i x hi hx hn,Option.getD_some];exact⟨λh=>absurd h.1 (by decide),λ⟨u,v,e,_⟩=>(by cases e)⟩
 |some u=>
  rw[h.yes i x u hi hx hn,Option.getD_some]
  cases hm:lu bs pcs fl y with
  |none=>
   rw[h.no k y hk hy hm,Option.getD_some];exact⟨λh=>absurd h.2 (by omega),λ⟨u,v,_,e,_⟩=>(by cases e)⟩
  |some v=>
   rw[h.yes k y v hk hy hm,Option.getD_some];constructor
   ·rintro⟨_,e⟩;exact⟨u,v,rfl,rfl,by omega⟩
   ·rintro⟨u',v',e1,e2,e3⟩;injection e1 with e1;injection e2 with e2
    subst e1;subst e2;exact⟨by omega,by rw[e3]⟩
theorem AV{bs:List bT}{pcs:List aH}{fl:List fo}{l:cX}{v:Nat}(h:lu bs pcs fl l=some v):v<pcs.length+bs.length:=by
 unfold lu at h
 cases hh:qj bs pcs l with
 |none=>rw[hh]at h;cases h
 |some q=>
  rw[hh,Option.bind_some]at h;split at h
  ·cases h
  ·injection h with h
   obtain⟨k,e,h1,h2⟩:=(Bu hh).num;rw[<-h];unfold eF
   cases hB:q.bT with
   |true=>have:=(h1 hB).1;rw[aC rfl,e];omega
   |false=>have:=h2 hB;rw[aD j8,e];omega
section
variable {N:Nat}
theorem LD{bs:List bT}{pcs:List aH}{ls:List cX}{fl:List fo}(hfl:Oe bs pcs.length bs.length fl)(hfn:fl.length<=1073741824)(hb:k6 bs)(hp:pcs.length<=1000000)(hr:∀p∈pcs,p.iq.length<=1000000/\∀x∈p.iq,x.X0<x.X1)(hl:ls.length<=1000000)(hd:∀l:cX,∀b∈bs,∀p∈pcs,l7 l b=true->lz l p=true->False)(hN:4398046511104<=N):
  ∃r2 W,hZ N bs ls (pcs.map aH.dJ) (pcs.map aH.iq) (cP bs pcs) fl=some W/\AQ (pcs.length+bs.length) (ME pcs.length (cP bs pcs) fl) r2/\Iv bs pcs fl ls r2 ls.length W:=by
 suffices h:Ok (hZ N bs ls (pcs.map aH.dJ) (pcs.map aH.iq) (cP bs pcs) fl) (λW=>∃r2,AQ (pcs.length+bs.length) (ME pcs.length (cP bs pcs) fl) r2/\Iv bs pcs fl ls r2 ls.length W)by
  obtain⟨W,h1,r2,h2,h3⟩:=h;exact⟨r2,W,h1,h2,h3⟩
 have hbl:=hb.len;have hrl:(pcs.map aH.iq).length=pcs.length:=dA _;have hnum:∀{h:dP},EV bs pcs.length bs.length h->fU N (pcs.map aH.iq) h=some ((eF pcs.length h:Nat):Int)/\eF pcs.length h<pcs.length+bs.length:=λhh=>FW hh hrl (by omega);unfold hZ;rw[hrl,wrap_add (by omega)];refine IT (pE false (by omega)) ?_
 refine Sr (Tb (n:=fl.length) (λst=>st.2) (λq st=>st.1.length=pcs.length+bs.length/\∀v,v<pcs.length+bs.length->st.1[v]? =some (decide (lY pcs.length (fl.take q) v)))
  (Go:=λst=>st.1.length=pcs.length+bs.length/\∀v,v<pcs.length+bs.length->st.1[v]? =some (decide (lY pcs.length fl v))) (Rt:=λ_=>False) ?_ ?_ (cZ _) rfl ⟨vM,λv hv=>?_⟩ (by omega)) ?_
 ·rintro q⟨om,qq⟩hq e⟨hI1,hI2⟩;dsimp only at e hI1 hI2 ⊢;subst e;have hx:fl[q]? =some fl[q]:=aO hq;have hts:=eI hq;rw[kd hq,aK];refine Sy hx<|Sr (P:=λs=>s.length=pcs.length+bs.length/\∀v,v<pcs.length+bs.length->s[v]? =some (decide<|lY pcs.length (fl.take<|q+1) v)) (SP (λho=>?_)<|λho=>Sh ⟨hI1,λv hv=>?_⟩)<|λs hs=>SJ ⟨bK (by omega),hs⟩
  ·obtain⟨c1,c2⟩:=hnum<|hfl.op _ (cL hq) ho
   refine Sy hx<|IT c1<|Sy (hI2 _ c2)<|Sh ⟨by rw[gY];exact hI1,λv hv=>?_⟩
   rw[cA,hts]
   by_cases e:eF pcs.length fl[q].dP=v
   ·subst e;rw[List.getElem?_set_self (by omega)];congr 1;exact(bL ⟨fl[q],List.mem_append_right _<|kp.2 rfl,ho,rfl⟩).symm
   ·rw[List.getElem?_set_ne e,hI2 v hv];congr 1;rw[decide_eq_decide];constructor
    ·rintro⟨x,hx,h1,h2⟩;exact⟨x,List.mem_append_left _ hx,h1,h2⟩
    ·rintro⟨x,hx,h1,h2⟩
     rcases cR.1 hx with hx|hx
     ·exact⟨x,hx,h1,h2⟩
     ·rw[kp]at hx;subst hx;exact absurd h2 e
  ·rw[hI2 v hv,hts];congr 1;rw[decide_eq_decide];constructor
   ·rintro⟨x,hx,h1,h2⟩;exact⟨x,List.mem_append_left _ hx,h1,h2⟩
   ·rintro⟨x,hx,h1,h2⟩
    rcases cR.1 hx with hx|hx
    ·exact⟨x,hx,h1,h2⟩
    ·rw[kp]at hx;subst hx;rw[ho]at h1;cases h1
 ·rintro⟨om,qq⟩e hI;dsimp only at e hI ⊢;subst e;rw[lW,aM];rw[eK]at hI;exact SU hI
 ·rw[List.getElem?_replicate,aC hv];congr 1;exact(bG (λ⟨x,hx,_⟩=>by simp at hx)).symm
 intro o ho;refine SV ho ?_<|λr hr=>hr.elim
 rintro⟨om,qq⟩⟨hol,hom⟩;dsimp only at hol hom ⊢;rw[hol];refine IT (pE 0 (by omega)) ?_;refine Sr (Tb (n:=pcs.length+bs.length) (λst=>st.2) (λq st=>st.1=Js (pcs.length+bs.length) (λx=>if x<q then((x:Nat):Int)else 0)) (Go:=λst=>FV (pcs.length+bs.length) st.1<|λi=>i) (Rt:=λ_=>False) ?_ ?_ (cZ _) rfl ?_ (by omega)) ?_
 ·rintro q⟨u,qq⟩hq e hI;dsimp only at e hI ⊢;subst e;subst hI;rw[uo,kd hq,aK];refine Sy (DO hq)<|SJ ⟨bK (by omega),?_⟩
  dsimp only;rw[cA];refine Jt (λ_=>by rw[aC (by omega)])<|λx _ hne=>?_
  by_cases h1:x<q
  ·rw[aC h1,aC (by omega)]
  ·rw[aD h1,aD (by omega)]
 ·rintro⟨u,qq⟩e hI;dsimp only at e hI ⊢;subst e;subst hI;rw[uo,lW,aM];refine SU ?_;exact vL λx hx=>by rw[aC hx]
 ·dsimp only;rw[LA];exact vL λx _=>by rw[aD (by omega)]
 intro o ho;refine SV ho ?_<|λr hr=>hr.elim
 rintro⟨u0,qq0⟩h0;dsimp only at h0 ⊢;have htl:(cP bs pcs).length=bs.length:=by unfold cP;simp
 have hto:=xQ (bs:=bs) (pcs:=pcs) (by omega);have omT:∀{v},v<pcs.length+bs.length->lY pcs.length fl v->om[v]? =some true:=λhv h=>by rw[hom _ hv,bL h]
 have omF:∀{v},v<pcs.length+bs.length->¬lY pcs.length fl v->om[v]? =some false:=λhv h=>by rw[hom _ hv,bG h]
 refine Sr (Tb (n:=bs.length) (λst=>st.2) (λq st=>DX (pcs.length+bs.length) (F0 pcs.length (cP bs pcs) fl) (lY pcs.length fl) (λa b=>∃k l,k<q/\(cP bs pcs)[k]? =some l/\((a:Nat):Int)∈l/\b=pcs.length+k) st.1)
  (Go:=λst=>DX (pcs.length+bs.length) (F0 pcs.length (cP bs pcs) fl) (lY pcs.length fl) (λa b=>Lk pcs.length (cP bs pcs) a b) st.1) (Rt:=λ_=>False) ?_ ?_ (cZ _) rfl
  ⟨_,_,h0,nE.id,w6.id _,λp hp=>(by cases hp),λi j⟨k,l,hk,_⟩=>by omega⟩ (by omega)) ?_
 ·rintro q⟨u,qq⟩hq e hI;dsimp only at e hI ⊢;subst e;rw[kd hq,aK];have hqx:(cP bs pcs)[q]? =some ((cP bs pcs)[q]'(by omega)):=aO _;have hqm:(cP bs pcs)[q]'(by omega)∈cP bs pcs:=cL _;generalize (cP bs pcs)[q]'(by omega)=T at hqx hqm;obtain⟨hl1,hl2⟩:=hto _ hqm;have hT:gO N (cP bs pcs) ((q:Nat):Int)=some T:=by
   unfold gO;rw[cI hqx];rfl
  refine IT hT ?_;rw[wrap_add (by omega)]
  refine Sr (Tb (n:=T.length) (λst=>st.2) (λt st=>DX (pcs.length+bs.length) (F0 pcs.length (cP bs pcs) fl) (lY pcs.length fl) (λa b=>(∃k l,k<q/\(cP bs pcs)[k]? =some l/\((a:Nat):Int)∈l/\b=pcs.length+k)\/(((a:Nat):Int)∈T.take t/\b=pcs.length+q)) st.1)
   (Go:=λst=>DX (pcs.length+bs.length) (F0 pcs.length (cP bs pcs) fl) (lY pcs.length fl) (λa b=>(∃k l,k<q/\(cP bs pcs)[k]? =some l/\((a:Nat):Int)∈l/\b=pcs.length+k)\/(((a:Nat):Int)∈T/\b=pcs.length+q)) st.1) (Rt:=λ_=>False) ?_ ?_ (cZ _) rfl
   (hI.mono λi j h=>by rcases h with h|⟨h,_⟩;exact h;simp at h) (by omega)) ?_
  ·rintro t⟨u,tt⟩ht e hJ;dsimp only at e hJ ⊢;subst e;rw[kd ht,aK];have htx:T[t]? =some T[t]:=aO ht;obtain⟨i,hi,e⟩:=hl2 _<|cL ht
   have hLk:F0 pcs.length (cP bs pcs) fl i (pcs.length+q):= .inl ⟨q,_,hqx,by rw[<-e];exact cL ht,rfl⟩;have hfin:∀s,DX (pcs.length+bs.length) (F0 pcs.length (cP bs pcs) fl) (lY pcs.length fl) (λa b=>((∃k l,k<q/\(cP bs pcs)[k]? =some l/\((a:Nat):Int)∈l/\b=pcs.length+k)\/(((a:Nat):Int)∈T.take t/\b=pcs.length+q))\/(a=i/\b=pcs.length+q)) s->
     DX (pcs.length+bs.length) (F0 pcs.length (cP bs pcs) fl) (lY pcs.length fl) (λa b=>(∃k l,k<q/\(cP bs pcs)[k]? =some l/\((a:Nat):Int)∈l/\b=pcs.length+k)\/(((a:Nat):Int)∈T.take (t+1)/\b=pcs.length+q)) s:=λs hs=>hs.mono λa b h=>by
    rw[eI ht]at h
    rcases h with h|⟨h,hb⟩
    ·exact .inl<|.inl h
    ·rcases cR.1 h with h|h
     ·exact .inl<|.inr ⟨h,hb⟩
     ·rw[kp,e]at h;exact .inr ⟨by omega,hb⟩
   by_cases hoq:lY pcs.length fl (pcs.length+q)
   ·refine IT (x:=false) (by rw[cI<|omT (by omega) hoq];rfl) ?_;rw[aM];exact SJ ⟨bK (by omega),hfin _<|hJ.skip<|.inr hoq⟩
   by_cases hoi:lY pcs.length fl i
   ·refine IT (x:=false) (by rw[cI<|omF (by omega) hoq,aB,jo,aK,cI htx,aB,e,cI<|omT (by omega) hoi];rfl) ?_;rw[aM];exact SJ ⟨bK (by omega),hfin _<|hJ.skip<|.inl hoi⟩
   ·refine IT (x:=true) (by rw[cI<|omF (by omega) hoq,aB,jo,aK,cI htx,aB,e,cI<|omF (by omega) hoi];rfl) ?_;rw[aK];refine Sr (Sy htx ?_)<|λs hs=>SJ ⟨bK (by omega),hfin s hs⟩
    rw[e];exact Sr (hJ.pP (by omega) (by omega) (by omega) (by omega) hLk hoi hoq)<|λs hs=>Sh hs
  ·rintro⟨u,tt⟩e hJ;dsimp only at e hJ ⊢;subst e;rw[lW,aM];rw[eK]at hJ;exact SU hJ
  intro o ho;refine SV ho (λst hst=>SJ ⟨bK (by omega),hst.mono λa b⟨k,l,hk,h1,h2,h3⟩=>?_⟩)<|λr hr=>hr.elim
  by_cases hkq:k<q
  ·exact .inl ⟨k,l,hkq,h1,h2,h3⟩
  ·have:k=q:=by omega
   subst this;rw[hqx]at h1;injection h1 with h1;subst h1
   exact .inr ⟨h2,h3⟩
 ·rintro⟨u,qq⟩e hI;dsimp only at e hI ⊢;subst e;rw[lW,aM];exact SU<|hI.mono λa b⟨k,l,h1,h2,h3⟩=>⟨k,l,by have:=(bD.1 h1).1;omega,h1,h2,h3⟩
 intro o ho;refine SV ho ?_<|λr hr=>hr.elim
 rintro⟨u1,qq1⟩h1;dsimp only at h1 ⊢
 refine Sr (Tb (n:=fl.length) (λst=>st.2) (λq st=>DX (pcs.length+bs.length) (F0 pcs.length (cP bs pcs) fl) (lY pcs.length fl) (λa b=>Lk pcs.length (cP bs pcs) a b\/∃x∈fl.take q,x.Open=false/\x.A=((a:Nat):Int)/\x.B=((b:Nat):Int)) st.1)
  (Go:=λst=>DX (pcs.length+bs.length) (F0 pcs.length (cP bs pcs) fl) (lY pcs.length fl) (F0 pcs.length (cP bs pcs) fl) st.1) (Rt:=λ_=>False) ?_ ?_ (cZ _) rfl
  (h1.mono λi j h=>h.elim id (λ⟨x,hx,_⟩=>by simp at hx)) (by omega)) ?_
 ·rintro q⟨u,qq⟩hq e hI;dsimp only at e hI ⊢;subst e;rw[kd hq,aK];have hx:fl[q]? =some fl[q]:=aO hq;have hxm:fl[q]∈fl:=cL hq;have hts:=eI hq;generalize fl[q]=x at hx hxm hts
  cases ho:x.Open with
  |true=>
   refine IT (x:=false) (by rw[cI hx,aB,ho];rfl) ?_;rw[aM];refine SJ ⟨bK (by omega),hI.mono λa b h=>?_⟩;rw[hts]at h
   rcases h with h|⟨y,hy,g1,g2⟩
   ·exact .inl h
   ·rcases cR.1 hy with hy|hy
    ·exact .inr ⟨y,hy,g1,g2⟩
    ·rw[kp]at hy;subst hy;rw[ho]at g1;cases g1
  |false=>
   obtain⟨i,k,e1,e2,e3,e4⟩:=hfl.br _ hxm ho;have hLk:F0 pcs.length (cP bs pcs) fl i k:= .inr ⟨x,hxm,ho,e1,e2⟩;have hfin:∀s,DX (pcs.length+bs.length) (F0 pcs.length (cP bs pcs) fl) (lY pcs.length fl) (λa b=>(Lk pcs.length (cP bs pcs) a b\/∃x∈fl.take q,x.Open=false/\x.A=((a:Nat):Int)/\x.B=((b:Nat):Int))\/(a=i/\b=k)) s->
     DX (pcs.length+bs.length) (F0 pcs.length (cP bs pcs) fl) (lY pcs.length fl) (λa b=>Lk pcs.length (cP bs pcs) a b\/∃x∈fl.take (q+1),x.Open=false/\x.A=((a:Nat):Int)/\x.B=((b:Nat):Int)) s:=λs hs=>hs.mono λa b h=>by
    rw[hts]at h
    rcases h with h|⟨y,hy,g1,g2,g3⟩
    ·exact .inl<|.inl h
    ·rcases cR.1 hy with hy|hy
     ·exact .inl<|.inr ⟨y,hy,g1,g2,g3⟩
     ·rw[kp]at hy;subst hy;rw[e1]at g2;rw[e2]at g3;exact .inr ⟨by omega,by omega⟩
   by_cases hoi:lY pcs.length fl i
   ·refine IT (x:=false) (by rw[cI hx,aB,ho,jo,aK,aB,e1,cI<|omT (by omega) hoi];rfl) ?_;rw[aM];exact SJ ⟨bK (by omega),hfin _<|hI.skip<|.inl hoi⟩
   by_cases hok:lY pcs.length fl k
   ·refine IT (x:=false) (by rw[cI hx,aB,ho,jo,aK,aB,e1,cI<|omF (by omega) hoi,aB,jo,aK,aB,e2,cI<|omT (by omega) hok];rfl) ?_;rw[aM];exact SJ ⟨bK (by omega),hfin _<|hI.skip<|.inr hok⟩
   ·refine IT (x:=true) (by rw[cI hx,aB,ho,jo,aK,aB,e1,cI<|omF (by omega) hoi,aB,jo,aK,aB,e2,cI<|omF (by omega) hok];rfl) ?_;rw[aK];refine Sr (Sy hx<|Sy hx ?_)<|λs hs=>SJ ⟨bK (by omega),hfin s hs⟩
    rw[e1,e2];exact Sr (hI.join (by omega) (by omega) (by omega) (by omega) hLk hoi hok)<|λs hs=>Sh hs
 ·rintro⟨u,qq⟩e hI;dsimp only at e hI ⊢;subst e;rw[lW,aM];rw[eK]at hI;exact SU hI
 intro o ho;refine SV ho ?_<|λr hr=>hr.elim
 rintro⟨u2,qq2⟩⟨r2,E,v1,v2,v3,v4,v5⟩;dsimp only at v1 ⊢;have hC:AQ (pcs.length+bs.length) (ME pcs.length (cP bs pcs) fl) r2:=
  ⟨λi j h=>(v5 i j h.1 h.2.1 h.2.2).elim (λh=>v2 (i,j) h) (λh=>(v2 (j,i) h).symm),λS hS i j hi hj=>v3 S (λp hp=>by
   obtain⟨g1,g2,g3⟩:=v4 p hp
   rcases g1 with g1|g1
   ·exact hS p.1 p.2 ⟨g1,g2,g3⟩
   ·exact(hS p.2 p.1 ⟨g1,g3,g2⟩).symm) i j hi hj⟩
 refine Sr (Tb (n:=ls.length) (λst=>st.2) (λj st=>Iv bs pcs fl ls r2 j st.1) (Go:=λst=>Iv bs pcs fl ls r2 ls.length st.1) (Rt:=λ_=>False) ?_ ?_ (cZ _) rfl ⟨rfl,λi l h=>by omega,λi l v h=>by omega⟩ (by omega)) ?_
 ·rintro j⟨W,jj⟩hj e I;dsimp only at e I ⊢;subst e;rw[kd hj,aK];have hx:ls[j]? =some ls[j]:=aO hj;have hWl:=I.len;have push:∀(c:Int),(lu bs pcs fl ls[j]=none->c = -1)->(∀v,lu bs pcs fl ls[j]=some v->c=((r2 v:Nat):Int))->Iv bs pcs fl ls r2 (j+1) (W++[c]):=λc g1 g2=>by
   have hlast:(W++[c])[j]? =some c:=by rw[ir (by omega),hWl];simp
   have hold:∀i,i<j->(W++[c])[i]? =W[i]? :=λi hi=>gX (by omega);refine⟨by rw[dK,hWl];rfl,λi l hi hil hn=>?_,λi l v hi hil hs=>?_⟩
   ·by_cases e:i=j
    ·subst e;rw[hx]at hil;injection hil with hil;subst hil;rw[hlast,g1 hn]
    ·rw[hold i (by omega)];exact I.no i l (by omega) hil hn
   ·by_cases e:i=j
    ·subst e;rw[hx]at hil;injection hil with hil;subst hil;rw[hlast,g2 v hs]
    ·rw[hold i (by omega)];exact I.yes i l v (by omega) hil hs
  refine Sy hx<|IT (E0 hb hp hr ls[j] hN) ?_
  rw[Jp<|hd ls[j]];dsimp only
  cases hh:qj bs pcs ls[j]with
  |none=>
   refine IT (x:=true) rfl ?_;rw[aK];refine Sr (Td (by simp only[dX,List.length_nil];omega)<|Sh rfl)<|λs hs=>SJ ⟨bK (by omega),?_⟩
   dsimp only;rw[<-hs];exact push _ (λ_=>rfl) (λv hv=>by unfold lu at hv;rw[hh]at hv;cases hv)
  |some h=>
   obtain⟨c1,c2⟩:=hnum<|Bu hh
   rw[Option.getD_some,Option.isSome_some]
   by_cases hop:lY pcs.length fl (eF pcs.length h)
   ·refine IT (x:=true) (by rw[jz,aM,c1,aB,cI<|omT c2 hop];rfl) ?_;rw[aK];refine Sr (Td (by simp only[dX,List.length_nil];omega)<|Sh rfl)<|λs hs=>SJ ⟨bK (by omega),?_⟩
    dsimp only;rw[<-hs];exact push _ (λ_=>rfl) (λv hv=>by unfold lu at hv;rw[hh,Option.bind_some,aC hop]at hv;cases hv)
   ·refine IT (x:=false) (by rw[jz,aM,c1,aB,cI<|omF c2 hop];rfl) ?_;rw[aM];refine Sr (IT c1<|Sy (v1.at c2)<|Td (by simp only[dX,List.length_nil];omega)<|Sh rfl)<|λs hs=>SJ ⟨bK (by omega),?_⟩
    dsimp only;rw[<-hs];refine push _ (λhn=>?_)<|λv hv=>?_
    ·unfold lu at hn;rw[hh,Option.bind_some,aD hop]at hn;cases hn
    ·unfold lu at hv;rw[hh,Option.bind_some,aD hop]at hv;injection hv with hv;rw[hv]
 ·rintro⟨W,jj⟩e I;dsimp only at e I ⊢;subst e;rw[lW,aM];exact SU I
 intro o ho;exact SV ho (λst hst=>Sh ⟨r2,hC,hst⟩)<|λr hr=>hr.elim
end
section
variable {N:Nat}{a:jr}{kS:List (List aA)}{dS:List (List (List aA))}{r:Nat->Nat}{gs:List cK}{ofP ofB l9:List Int}{lZ:List dP}
theorem Oi(b:l8 a kS dS r gs ofP ofB l9 lZ){fl:List fo}(h0:mS a.aQ (cE 0 dS).length fl=0)(hN:4398046511104<=N):
  ∃W,hZ N a.aQ a.bM ((cE 0 dS).map aH.dJ) ((cE 0 dS).map aH.iq) (cP a.aQ<|cE 0 dS) fl=some W/\W.length=a.bM.length/\∀i k,i<a.bM.length->k<a.bM.length->wO W i k=wO (En N a dS l9 lZ fl) i k:=by
 have hf:=b.xd.2;have hlf:=b.uk.xd;obtain⟨h20,hok⟩:=xX h0;obtain⟨rW,W,w1,w2,w3⟩:=LD (N:=N) (bs:=a.aQ) (pcs:=cE 0 dS) (ls:=a.bM) (fl:=fl) hok (by omega) b.xR.gb (by omega) (λp hp=>⟨by have:=(AO b hp).1;omega,λx hx=>((AO b hp).2.1 x hx).2.1⟩) (by omega) (λl=>Jq b l) hN;obtain⟨rC,c2,c3⟩:=LB b h0 hN;have cW:AQ ((cE 0 dS).length+a.aQ.length) (ME (cE 0 dS).length (cP a.aQ<|cE 0 dS) fl) rC:=⟨c2.co,c2.fi⟩;refine⟨W,w1,w3.len,λi k hi hk=>?_⟩;have hx:a.bM[i]? =some a.bM[i]:=aO hi;have hy:a.bM[k]? =some a.bM[k]:=aO hk;rw[dY,w3.conn hx hy,c3 hx hy];constructor
 ·rintro⟨u,v,g1,g2,g3⟩;exact⟨u,v,g1,g2,(w2.uniq cW (AV g1)<|AV g2).1 g3⟩
 ·rintro⟨u,v,g1,g2,g3⟩;exact⟨u,v,g1,g2,(w2.uniq cW (AV g1)<|AV g2).2 g3⟩
theorem Cn{W:List Int}{i k:Nat}(hi:i<W.length)(hk:k<W.length):iP N W ((i:Nat):Int) ((k:Nat):Int)=some (wO W i k):=by
 have ei:W[i]? =some W[i]:=aO hi;have ek:W[k]? =some W[k]:=aO hk;unfold iP wO;rw[cI ei,cI ek,List.getD_eq_getElem?_getD,List.getD_eq_getElem?_getD,ei,ek,Option.getD_some,Option.getD_some,aB]
 cases decide (W[i]>=0) <;> rfl
theorem r9{a:jr}{e:Int}{fl:List fo}(he:e≠0)(h:dF N a fl=some e)(p q:dO):eB N a fl p q=some (false,e):=by
 unfold eB;rw[h,aB,show(e != 0)=true by simpa using he,aK]
theorem xZ(b:l8 a kS dS r gs ofP ofB l9 lZ){fl:List fo}(h0:mS a.aQ (cE 0 dS).length fl=0)(h:dF N a fl=some 0)(p q:dO)(hN:4398046511104<=N):
  eB N a fl p q=some (bif decide (jI a p<0)||decide (jI a q<0)then(false,9)else(wO (En N a dS l9 lZ fl) (jI a p).toNat (jI a q).toNat,0)):=by
 have hlf:=b.uk.xd;obtain⟨W,w1,w2,w3⟩:=Oi b h0 hN;unfold eB;rw[h,aB,bne_self_eq_false,aM,zA (by omega) p hN,aB,zA (by omega) q hN,aB]
 rcases rL a p with⟨e1,_⟩|⟨i,x,e1,hx,_⟩
 ·rw[e1];rfl
 rcases rL a q with⟨e2,_⟩|⟨k,y,e2,hy,_⟩
 ·rw[e2,bL (show(-1:Int)<0 by decide),Bool.or_true,aK,aK]
 have hi:=(bD.1 hx).1;have hk:=(bD.1 hy).1;rw[e1,e2,bG (show ¬((i:Nat):Int)<0 by omega),bG (show ¬((k:Nat):Int)<0 by omega),Bool.or_false,aM,aM,B9 b hN,aB];dsimp only;rw[w1,aB,Cn (by omega) (by omega),aB,w3 i k hi hk,cA,cA]
theorem DT{a:jr}{e:Int}(he:e≠0)(h:fF N a=some (none,e))(fl:List fo):jW N a fl=some e:=by
 unfold jW;rw[h,aB];simp only[Gq,show(e != 0)=true by simpa using he,aK]
theorem Eo(b:l8 a kS dS r gs ofP ofB l9 lZ)(h1:fF N a=some (some (a.aJ,a.cN,a.aQ,a.bM,kS,cE 0 dS,cP a.aQ<|cE 0 dS,gs,ofP,ofB,l9,lZ),0)){fl:List fo}(hl:fl.length<=1048576):
  jW N a fl=some (mS a.aQ (cE 0 dS).length fl):=by
 have hf:=b.xd.2;have hbl:=b.xR.gb.len;unfold jW;rw[h1,aB];simp only[Gq,bne_self_eq_false,aM];rw[uO (by omega) (by omega) hl,aB]
theorem zB{a:jr}{e:Int}(he:e≠0)(h:fF N a=some (none,e))(fl:List fo)(p q:dO):eJ N a fl p q=some (false,e):=by
 unfold eJ;rw[h,aB];simp only[Gq,show(e != 0)=true by simpa using he,aK]
end
section
variable {N:Nat}
theorem wE{a:jr}{l:List Test}{fl:List fo}{p q:dO}(ha:bk a<=1048576)(hl:bk l<=1048576)(hfl:bk fl<=1048576)(_hp:bk p<=1048576)(_hq:bk q<=1048576)(hN:4398046511104<=N):gv N a l fl p q=some true:=by
 have hs:=Hg ha;have hll:l.length<=1048576:=by have:=xq l;omega
 have hff:fl.length<=1048576:=by have:=xq fl;omega
 have aw:=MD hN;unfold gv
 rcases checked (N:=N) hs hN with⟨e,he,h1,h2⟩|⟨b,h1,h2⟩
 ·rw[zB he h1,aB,r9 he<|uq he h2 fl,aB,uP<|Ly he h1 l,aB,AR he h2,aB,DT he h1,aB,uq he h2,aB,aw];simp
 ·rename_i kS dS r gs ofP ofB l9 lZ;have hlf:=b.uk.xd;have hT:kV N a l=some (qF a l):=by
   rcases MF b h1 hll hN with⟨_,e2⟩|⟨e1,e2⟩
   ·exact uP e2
   ·rw[e1];exact uP e2
  have hC:eJ N a fl p q=eB N a fl p q:=by
   by_cases h0:mS a.aQ (cE 0 dS).length fl=0
   ·obtain⟨c1,c2,_⟩:=Og b h0 hN;rw[Em b h1 h0 c1 c2 p q hN,xZ b h0 (by rw[mC b h2 hff hN,h0]) p q hN]
   ·rw[DN b h1 hff h0,r9 h0<|mC b h2 hff hN]
  have hex:∃y,eB N a fl p q=some y:=by
   by_cases h0:mS a.aQ (cE 0 dS).length fl=0
   ·exact⟨_,xZ b h0 (by rw[mC b h2 hff hN,h0]) p q hN⟩
   ·exact⟨_,r9 h0 (mC b h2 hff hN) p q⟩
  obtain⟨y,hy⟩:=hex;rw[hC,hy,aB,aB,hT,aB,BG (by omega) h2 hll hN,aB,Eo b h1 hff,aB,mC b h2 hff hN,aB,aw];simp
end
end Go.Gk
