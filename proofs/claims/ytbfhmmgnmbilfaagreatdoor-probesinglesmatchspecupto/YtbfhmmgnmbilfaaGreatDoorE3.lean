/-
  Helping texts: plain functions and plain laws. No statement of the seed is proved here.
-/
import Derived.Test.YtbfhmmgnmbilfaaGreatDoorE2
import Derived.Test.YtbfhmmgnmbilfaaGreatDoorA2
set_option linter.unusedVariables false
set_option linter.unusedSimpArgs false
set_option linter.unusedSectionVars false
namespace Go.Gk
open Go IntKind Classical
theorem EC{x:aH}:∀(b:List aH),(∀y∈b,0<=w5 x y)->∀{s:Int},0<=s->0<=vd s x b
 | [],_,s,h=>h
 |y::b,hb,s,h=>by
  have hf:=hb y<|List.mem_cons_self ..
  unfold vd;rw[List.foldl_cons];refine EC (x:=x) b (λz hz=>hb z<|jo _ hz) ?_;split <;> omega
theorem JX{a b:List aH}{x y:aH}(hx:a[0]? =some x)(hy:b[0]? =some y)(h0:0<=w5 x y):wg a b=a.foldl (λs x=>vd s x b) (w5 x y):=by
 obtain⟨a',rfl⟩:∃a',a=x::a':=by
  cases a with
  |nil=>cases hx
  |cons z a'=>grind
 obtain⟨b',rfl⟩:∃b',b=y::b':=by
  cases b with
  |nil=>cases hy
  |cons z b'=>grind
 simp[wg,List.foldl_cons,congr,vd,aG,aI]
section
variable {N:Nat}
theorem Na{a0 a1 b0 b1:Int}(h0: -1000000<=a0/\a0<=1000000)(h1: -1000000<=a1/\a1<=1000000)(h2: -1000000<=b0/\b0<=1000000)(h3: -1000000<=b1/\b1<=1000000):ko N a0 a1 b0 b1=some (GX a0 a1 b0 b1):=by
 unfold ko GX
 grind [tg,rH]
theorem zy{a b:aH}(ha:dJ a=true)(hb:dJ b=true):iu N a b=some (w5 a b):=by
 obtain⟨a1,a2,a3,a4⟩:=jg ha;obtain⟨b1,b2,b3,b4⟩:=jg hb;unfold iu w5
 grind [Na,aB,rH]
theorem CX{a b:List aH}(ri:a.length<=1000000)(hbl:b.length<=1000000)(ha:∀y∈a,dJ y=true)(hb:∀y∈b,dJ y=true)(ha0:a≠[])(hb0:b≠[])(hN:4398046511104<=N):iO N a b=some (wg a b):=by
 have hax:a[0]? =some (a[0]'(List.length_pos_iff.2 ha0)):=aN _;have hbx:b[0]? =some (b[0]'(List.length_pos_iff.2 hb0)):=aN _;have ham:a[0]'(List.length_pos_iff.2 ha0)∈a:=cH _;have hbm:b[0]'(List.length_pos_iff.2 hb0)∈b:=cH _;generalize a[0]'(List.length_pos_iff.2 ha0)=x at hax ham;generalize b[0]'(List.length_pos_iff.2 hb0)=y at hbx hbm;have h0:=(JS (ha x ham)<|hb y hbm).1;rw[JX hax hbx h0];have hfp:∀x∈a,∀y∈b,0<=w5 x y:=λx hx y hy=>(JS (ha x hx)<|hb y hy).1;refine UU ?_;unfold iO;refine T6 (i:=0) hax<|T6 (i:=0) hbx<|IT (zy (ha x ham)<|hb y hbm) ?_
 refine TZ (UE (n:=a.length) (λst=>st.2) (λk st=>0<=st.1/\st.1=(a.take k).foldl (λs x=>vd s x b) (w5 x y)) (Go:=λst=>st.1=a.foldl (λs x=>vd s x b) (w5 x y)) (Rt:=λ_=>False) ?_ ?_ (cS _) rfl ⟨h0,rfl⟩ (by omega)) ?_
 ·rintro k⟨s,kk⟩hk e⟨hs,hI⟩;dsimp only at e hs hI ⊢;subst e;rw[iR hk,aO];have hx:a[k]? =some a[k]:=aN hk;have hxm:a[k]∈a:=cH hk;have hts:(a.take<|k+1).foldl (λs x=>vd s x b) (w5 x y)=vd s a[k] b:=by grind [dQ]
  rw[hts];generalize a[k]=z at *;refine TZ (UE (n:=b.length) (λst=>st.2) (λj st=>st.1=vd s z (b.take j)) (Go:=λst=>st.1=vd s z b) (Rt:=λ_=>False) ?_ ?_ (cS _) rfl rfl (by omega)) ?_
  ·rintro j⟨t,jj⟩hj e hJ;dsimp only at e hJ ⊢;subst e;rw[iR hj,aO];have hy:b[j]? =some b[j]:=aN hj;have hym:b[j]∈b:=cH hj;have ht0:0<=t:=by rw[hJ];exact EC _ (λy hy=>hfp z hxm y<|List.mem_of_mem_take hy) hs
   refine T6 hx<|T6 hy<|IT (zy (ha z hxm)<|hb _ hym)<|Uh ⟨bE (by omega),?_⟩
   grind [vd,dQ]
  ·simp[l6,aR,eM,Un]
  intro o ho;refine Uo ho (λst hst=>Uh ⟨bE (by omega),?_,hst⟩)<|λr hr=>hr.elim
  simp_all[EC]
 ·grind [eM,Un]
 intro o ho;exact Uo ho (λst hst=>OF hst)<|λr hr=>hr.elim
theorem Bn{a b:List aH}(ri:a.length<=1000000)(hbl:b.length<=1000000)(n:Int)(hN:4398046511104<=N):Ok (iJ N a b n) (λ_=>True):=by
 unfold iJ;refine TZ (UE (n:=a.length) (λst=>st.2.2) (λk st=>True) (Go:=λst=>True) (Rt:=λ_=>False) ?_ ?_ (cS _) rfl trivial (by omega)) ?_
 ·rintro k⟨p,q,kk⟩hk e _;dsimp only at e ⊢;subst e;rw[iR hk,aO];have hx:a[k]? =some a[k]:=aN hk;refine TZ (UE (n:=b.length) (λst=>st.2.2) (λj st=>True) (Go:=λst=>True) (Rt:=λ_=>False) ?_ ?_ (cS _) rfl trivial (by omega)) ?_
  ·rintro j⟨p,q,jj⟩hj e _;dsimp only at e ⊢;subst e;rw[iR hj,aO];have hy:b[j]? =some b[j]:=aN hj;refine T6 hx<|T6 hy<|T6 hx<|T6 hy ?_
   refine TZ (P:=λ_=>True) (T6 hx<|T6 hy<|Uv (λ_=>OF trivial)<|λ_=>T6 hx<|T6 hy<|OF trivial)<|λc _=>Uv (λ_=>Uh ⟨bE (by omega),trivial⟩)<|λ_=>?_
   grind [TZ,OF,Uh,bE]
  ·simp[l6,aR,Un,trivial]
  intro o ho;exact Uo ho (λst hst=>Uh ⟨bE (by omega),trivial⟩)<|λr hr=>hr.elim
 ·simp[l6,aR,Un,trivial]
 intro o ho;exact Uo ho (λst hst=>OF trivial)<|λr hr=>hr.elim
theorem JY{a b:List aH}(ri:a.length<=1000000)(hbl:b.length<=1000000)(ha:∀y∈a,dJ y=true)(hb:∀y∈b,dJ y=true)(ha0:a≠[])(hb0:b≠[])(hN:4398046511104<=N):∃g,jG N a b=some g/\g.iK=wg a b - 1:=by
 have hd:=KH ha hb
 suffices h:Ok (jG N a b) (λg=>g.iK=wg a b - 1)from h
 unfold jG;refine IT (CX ri hbl ha hb ha0 hb0 hN)<|TZ (Bn ri hbl _ hN)<|λp _=>TZ (Bn hbl (by simp) _ hN)<|λq _=>OF ?_
 dsimp only;exact tg (by omega)
end
theorem wT.nr{a:jO}{ke:List (List aA)}{cX:List (List<|List aA)}{p:aD}{i:Nat}{r:List aH}{s:List aA}{ps:List (List aA)}{u:Nat->Nat}{j k:Nat}(h:wT a ke cX p i r s ps u j k):p.dY≠[]:=by
 intro e;rw[h.OS]at e;have hh:=iw.1<|fR h.head
 have hx:(aV s)[k]? =some (aV s)[k]:=aN hh.1;have hm:(aV s)[k]∈ot (aV s) (aV s).length u k:=mz.2 ⟨k,hh.1,hh.2,hx⟩;obtain⟨b,hb,q,hq,hr⟩:=ru<|fR hx
 have hbm:cK b∈s.map cK:=dO.2 ⟨b,hb,rfl⟩;have hq1:=GB (h.dr.can.each _ hbm).2.2.1 q hq;have hb1:=(h.dr.can.each _ hbm).1;have hc:=h.set.cover q.1 b.Y0;rw[<-qo h.set.can,e]at hc;have:uH (ot (aV s) (aV s).length u k) q.1 b.Y0=true:=kq.2 ⟨_,hm,by rw[hr];exact⟨⟨Int.le_refl _,hq1⟩,Int.le_refl _,hb1⟩⟩;rw[this]at hc
 cases hc
section
variable {N:Nat}{a:jO}{ke:List (List aA)}{cX:List (List (List aA))}{r:Nat->Nat}{gs:List bW}{ofP ofB jD:List Int}{ji:List eC}
theorem PU(b:jh a ke cX r gs ofP ofB jD ji){p:aD}(hp:p∈bM 0 cX):p.dY≠[]:=by
 obtain⟨i,r',s,ps,u,j,k,hP⟩:=Iw b.xD b.dr hp;exact hP.nr
theorem E4(b:jh a ke cX r gs ofP ofB jD ji)(hN:4398046511104<=N):jw N ((bM 0 cX).map aD.dY) gs=some ofP:=by
 have hf:=b.xG.2;have hbl:=b.xD.gb.len;have hlp:=b.yp.of.lp;have hgl:=(GU b.yp).2;have hgrp:=λ(g:Nat)(x:bW)(hg:gs[g]? =some x)=>PL b.yp hg;have hnat:=λ(g:Nat)(x:bW)(hg:gs[g]? =some x)=>NX b.yp hg;have hglen:=λ(g:Nat)(x:bW)(hg:gs[g]? =some x)=>NY b.yp hg;have hofp:=λ(k:Nat)(hk:k<ofP.length)=>Ev b hk;refine UU ?_;unfold jw;rw[eB];generalize hpcs:bM 0 cX=pcs at *;refine IT (oO 0 (by omega)) ?_;refine TZ (UE (n:=gs.length) (λst=>st.2) (λi st=>st.1.length=pcs.length/\∀(k g:Nat),k<pcs.length->ofP[k]? =some ((g:Nat):Int)->g<i->st.1[k]? =some ((g:Nat):Int)) (Go:=λst=>st.1=ofP) (Rt:=λ_=>False) ?_ ?_ (cS _) rfl ⟨by simp,λk g _ _ h=>by omega⟩ (by omega)) ?_
 ·rintro i⟨G,ii⟩hi e⟨h1,h2⟩;dsimp only at e h1 h2 ⊢;subst e;rw[iR hi,aO];have hx:gs[i]? =some gs[i]:=aN hi;have hin:=hgrp i _ hx;have hnt:=hnat i _ hx;have hgl2:=(hglen i _ hx).1;generalize gs[i]=x at *
  refine TZ (UE (n:=x.fF.length) (λst=>st.2) (λj st=>st.1.length=pcs.length/\(∀(k g:Nat),k<pcs.length->ofP[k]? =some ((g:Nat):Int)->g<i->st.1[k]? =some ((g:Nat):Int))/\∀k:Nat,((k:Nat):Int)∈x.fF.take j->st.1[k]? =some ((i:Nat):Int))
   (Go:=λst=>st.1.length=pcs.length/\∀(k g:Nat),k<pcs.length->ofP[k]? =some ((g:Nat):Int)->g<i+1->st.1[k]? =some ((g:Nat):Int)) (Rt:=λ_=>False) ?_ ?_ (cS _) rfl ⟨h1,h2,λk hk=>by simp at hk⟩ (by omega)) ?_
  ·rintro j⟨G,jj⟩hj e⟨g1,g2,g3⟩;dsimp only at e g1 g2 g3 ⊢;subst e;refine T6 hx ?_;rw[iR hj,aO];have hy:x.fF[j]? =some x.fF[j]:=aN hj;have hym:x.fF[j]∈x.fF:=cH hj;have hts:=dQ hj;obtain⟨c,hc⟩:=hnt _ hym;rw[hc]at hy hym hts;obtain⟨c1,c2⟩:=(hin c).1 hym;have hGc:G[c]? =some (G[c]'(by omega)):=aN _;refine T6 hx<|T6 hy<|T6 hGc<|Uh ⟨bE (by omega),?_,λk g hk hg hgi=>?_,λk hk=>?_⟩
   ·dsimp only;rw[iC];exact g1
   ·dsimp only;rw[cO];have hne:c≠k:=λe=>by
     subst e;rw[c2]at hg;injection hg with hg;omega
    rw[List.getElem?_set_ne hne];exact g2 k g hk hg hgi
   ·dsimp only;rw[cO]
    by_cases e:c=k
    ·subst e;rw[List.getElem?_set_self (by omega)]
    ·rw[List.getElem?_set_ne e];rw[hts]at hk
     rcases dH.1 hk with hk|hk
     ·exact g3 k hk
     ·rw[lJ]at hk;omega
  ·rintro⟨G,jj⟩e⟨g1,g2,g3⟩;dsimp only at e g1 g2 g3 ⊢;subst e;refine T6 hx ?_;rw[l6,aR];refine Un ⟨g1,λk g hk hg hgi=>?_⟩;dsimp only
   by_cases e:g=i
   ·subst e;refine g3 k ?_;rw[eM];exact(hin k).2 ⟨hk,hg⟩
   ·exact g2 k g hk hg (by omega)
  intro o ho;exact Uo ho (λst hst=>Uh ⟨bE (by omega),hst⟩)<|λr hr=>hr.elim
 ·rintro⟨G,ii⟩e⟨h1,h2⟩;dsimp only at e h1 h2 ⊢;subst e;rw[l6,aR];refine Un ?_;dsimp only;refine List.ext_getElem? λk=>?_
  by_cases hk:k<pcs.length
  ·obtain⟨g,q1,q2⟩:=hofp k (by omega);rw[q1,h2 k g hk q1 q2]
  ·rw[List.getElem?_eq_none (by omega),List.getElem?_eq_none (by omega)]
 intro o ho;exact Uo ho (λst hst=>OF hst)<|λr hr=>hr.elim
theorem G2(G:List bW)(h:eC):eT N G h=dR N G h:=rfl
theorem G3{gs:List bW}{g:Nat}{x:bW}(hx:gs[g]? =some x):N4 gs ((g:Nat):Int)=decide (((x.fw.length:Nat):Int)>=2):=by
 unfold N4
 grind
theorem G4(b:jh a ke cX r gs ofP ofB jD ji)(near:Int)(hN:4398046511104<=N):
  jM N a.aM ((bM 0 cX).map aD.cL) ((bM 0 cX).map aD.dY) gs near=some (Bq (bM 0 cX) gs ofP ofB near):=by
 have hf:=b.xG.2;have hbl:=b.xD.gb.len;have hlp:=b.yp.of.lp;have hlb:=b.yp.of.lb;have hgl:=(GU b.yp).2;have hG:=E4 (N:=N) b hN;have hofp:=λ(k:Nat)(hk:k<ofP.length)=>Ev b hk;have hofb:=λ(k:Nat)(hk:k<ofB.length)=>JU b hk;have hfact:=λ(p:aD)(hp:p∈bM 0 cX)=>(⟨(sf b hp).1,λq hq=>((sf b hp).2.1 q hq).1,PU b hp⟩:p.dY.length<=2000/\(∀q∈p.dY,dJ q=true)/\p.dY≠[]);have hhop:∀k,k<a.aM.length->ry a.aM k=true->∀g:Nat,ofB[k]? =some ((g:Nat):Int)->eT N gs ⟨true,((k:Nat):Int)⟩=some ((g:Nat):Int):=λk hk hp g hg=>by
  have hok:D8 a.aM (bM 0 cX).length a.aM.length ⟨true,((k:Nat):Int)⟩:=⟨k,rfl,λ_=>⟨hk,hp⟩,λh=>by cases h⟩;rw[G2,(yv (N:=N) rfl (by omega) (by omega) b.yp.conn.le b.yp.conn.rr (G:=gs) (by rw[b.yp.gs];exact zw _ _ _) hok hN).1];have hm:r ((bM 0 cX).length+k)∈bP ((bM 0 cX).length+a.aM.length) r:=iw.2 ⟨by have:=b.yp.conn.le ((bM 0 cX).length+k) (by omega);omega,b.yp.conn.rr _ (by omega)⟩;have:=b.yp.of.bo k (by omega) hm;rw[hp,aG rfl,hg]at this;injection this with this
  have hix:dW (bM 0 cX).length ⟨true,((k:Nat):Int)⟩=(bM 0 cX).length+k:=by unfold dW;rw[aG rfl,cO]
  unfold MQ;rw[hix,this]
 refine UU ?_;unfold jM;refine IT hG ?_;rw[eB];generalize hpcs:bM 0 cX=pcs at *;refine TZ (UE (n:=pcs.length) (λst=>st.2) (λk st=>st.1=pd gs false ofP k) (Go:=λst=>st.1=pd gs false ofP pcs.length) (Rt:=λ_=>False) ?_ ?_ (cS _) rfl (by simp[pd]) (by omega)) ?_
 ·rintro k⟨s,kk⟩hk e hI;dsimp only at e hI ⊢;subst e;subst hI;rw[iR hk,aO];obtain⟨g,h1,h2⟩:=hofp k (by omega);have hgx:gs[g]? =some gs[g]:=aN h2;have hsl:=ox gs false ofP k;refine T6 h1<|T6 hgx<|TZ (P:=λs=>s=pd gs false ofP (k+1)) (Uv (λhc=>UJ (by simp only[eI,List.length_nil];omega)<|OF ?_)<|λhc=>OF ?_)<|λs hs=>Uh ⟨bE (by omega),hs⟩
  ·rw[tx,h1,Option.elim_some,G3 hgx,hc,aG rfl]
  ·rw[tx,h1,Option.elim_some,G3 hgx,hc,aI lK]
 ·rintro⟨s,kk⟩e hI;dsimp only at e hI ⊢;subst e;rw[l6,aR];exact Un hI
 intro o ho;refine Uo ho ?_<|λr hr=>hr.elim
 rintro⟨s0,kk0⟩h0;dsimp only at h0 ⊢;subst h0;have hl0:=ox gs false ofP pcs.length;refine TZ (UE (n:=a.aM.length) (λst=>st.2) (λk st=>st.1=pd gs false ofP pcs.length++pd gs true ofB k) (Go:=λst=>st.1=pd gs false ofP pcs.length++pd gs true ofB a.aM.length) (Rt:=λ_=>False) ?_ ?_ (cS _) rfl (by simp[pd]) (by omega)) ?_
 ·rintro k⟨s,kk⟩hk e hI;dsimp only at e hI ⊢;subst e;subst hI;rw[iR hk,aO];have hx:a.aM[k]? =some a.aM[k]:=aN hk;have hpl:ry a.aM k=a.aM[k].fD:=by unfold ry;rw[hx];rfl
  have hsl:=ox gs true ofB k;have key:∃c:Int,ofB[k]? =some c/\(((idx a.aM ((k:Nat):Int)).bind λx190=>bif x190.fD then((eT N gs (⟨true,((k:Nat):Int)⟩:eC)).bind λx195=>(idx gs x195).bind λx196=>some<|decide<|(x196.fw.length:Int)>=2)else some false)=some (N4 gs c)):=by
   rcases hofb k (by omega)with⟨hp,g,h1,h2⟩|⟨hp,h1⟩
   ·have hgx:gs[g]? =some gs[g]:=aN h2;refine⟨_,h1,?_⟩;rw[cG hx,aB,<-hpl,hp,aO,hhop k hk hp g h1,aB,cG hgx,aB,G3 hgx]
   ·refine⟨_,h1,?_⟩;rw[cG hx,aB,<-hpl,hp,aR];rfl
  obtain⟨c,h1,h2⟩:=key;refine IT h2<|TZ (P:=λs=>s=pd gs false ofP pcs.length++pd gs true ofB (k+1)) (Uv (λhc=>UJ (by simp only[dX,eI,List.length_nil];omega)<|OF ?_)<|λhc=>OF ?_)<|λs hs=>Uh ⟨bE (by omega),hs⟩
  ·rw[tx,h1,Option.elim_some,hc,aG rfl,kI]
  ·rw[tx,h1,Option.elim_some,hc,aI lK]
 ·rintro⟨s,kk⟩e hI;dsimp only at e hI ⊢;subst e;rw[l6,aR];exact Un hI
 intro o ho;refine Uo ho ?_<|λr hr=>hr.elim
 rintro⟨s1,kk1⟩h1;dsimp only at h1 ⊢;subst h1;have hl1:=ox gs true ofB a.aM.length;have hsgl:Bq pcs gs ofP ofB near=pd gs false ofP pcs.length++pd gs true ofB a.aM.length++sH pcs ofP near pcs.length:=by unfold Bq;rw[hlp,hlb]
 rw[hsgl];generalize hB:pd gs false ofP pcs.length++pd gs true ofB a.aM.length=base;have hbase:base.length<=2500:=by rw[<-hB,dX];omega
 refine TZ (UE (n:=pcs.length) (λst=>st.2) (λi st=>st.1=base++sH pcs ofP near i) (Go:=λst=>st.1=base++sH pcs ofP near pcs.length) (Rt:=λ_=>False) ?_ ?_ (cS _) rfl (by simp[sH]) (by omega)) ?_
 ·rintro i⟨s,ii⟩hi e hI;dsimp only at e hI ⊢;subst e;subst hI;rw[iR hi,aO,bE (by omega)];have hx:pcs[i]? =some pcs[i]:=aN hi;have hLx:(pcs.map aD.cL)[i]? =some pcs[i].cL:=by rw[il,hx];rfl
  have hRx:(pcs.map aD.dY)[i]? =some pcs[i].dY:=by rw[il,hx];rfl
  have hpl:(sH pcs ofP near i).length<=2000*2000:=sQ (Bi pcs ofP near i)<|Nat.mul_le_mul (by omega) hf
  obtain⟨r1,r2,r3⟩:=hfact pcs[i]<|cH hi
  obtain⟨gi_,hgi,_⟩:=hofp i (by omega);have hskip:qs pcs ofP near i (i+1)= []:=by
   have e0:qs pcs ofP near i 0= []:=by simp[qs]
   have:=w6 (pcs:=pcs) (ofP:=ofP) (near:=near) (i:=i) (m:=0) (d:=i+1) (λk _ hk=>by
    unfold rA;rw[hx,Option.elim_some]
    cases pcs[k]? with
    |none=>rfl
    |some q=>rw[Option.elim_some,cD (show ¬i<k by omega),Bool.false_and])
   rw[jr]at this;rw[this,e0]
  refine TZ (UE (n:=pcs.length) (λst=>st.2) (λk st=>i+1<=k/\st.1=base++sH pcs ofP near i++qs pcs ofP near i k) (Go:=λst=>st.1=base++sH pcs ofP near (i+1)) (Rt:=λ_=>False) ?_ ?_ (k0:=i+1) (by omega) rfl ⟨cJ _,by dsimp only;rw[hskip,ny]⟩ (by omega)) ?_
  ·rintro k⟨s,j⟩hk e⟨hik,hI⟩;dsimp only at e hI ⊢;subst e;subst hI;rw[iR hk,aO];have hy:pcs[k]? =some pcs[k]:=aN hk;have hLy:(pcs.map aD.cL)[k]? =some pcs[k].cL:=by rw[il,hy];rfl
   have hRy:(pcs.map aD.dY)[k]? =some pcs[k].dY:=by rw[il,hy];rfl
   have h1l:=Cj pcs ofP near i k;obtain⟨t1,t2,t3⟩:=hfact pcs[k]<|cH hk
   obtain⟨gk_,hgk,_⟩:=hofp k (by omega);refine IT (x:=rA pcs ofP near i k) ?_ ?_
   ·rw[cG hLx,aB,cG hLy,aB];unfold rA;rw[hx,hy,Option.elim_some,Option.elim_some,bY (show i<k by omega),Bool.true_and,hgi,hgk]
    by_cases eL:pcs[i].cL=pcs[k].cL
    ·rw[eL,BEq.rfl,aO,Bool.true_and,cG hgi,aB,cG hgk,aB]
     by_cases e:gi_=gk_
     ·subst e;rw[bne_self_eq_false,aR,show decide (some ((gi_:Nat):Int)≠some ((gi_:Nat):Int))=false by simp,Bool.false_and]
     ·obtain⟨g,g1,g2⟩:=JY (N:=N) (a:=pcs[i].dY) (b:=pcs[k].dY) (by omega) (by omega) r2 t2 r3 t3 hN;rw[show(((gi_:Nat):Int) != ((gk_:Nat):Int))=true by rw[bne_iff_ne];omega,aO,cG hRx,aB,cG hRy,aB,g1,aB,g2,show decide (some ((gi_:Nat):Int)≠some ((gk_:Nat):Int))=true by rw[cY];intro h;injection h with h;omega,Bool.true_and]
    ·rw[show(pcs[i].cL==pcs[k].cL)=false by rw[beq_eq_false_iff_ne];exact eL,aR,show(pcs[k].cL==pcs[i].cL)=false by rw[beq_eq_false_iff_ne];exact λh=>eL h.symm,Bool.false_and]
   ·cases hsP:rA pcs ofP near i k with
    |true=>
     rw[aO];refine TZ (P:=λs=>s=base++sH pcs ofP near i++qs pcs ofP near i (k+1)) (UJ (by simp only[dX,eI,List.length_nil];omega)<|OF ?_)<|λs hs=>Uh ⟨bE (by omega),by omega,hs⟩
     rw[ug,hsP,aG rfl,kI]
    |false=>
     rw[aR,aB];refine Uh ⟨bE (by omega),by omega,?_⟩;dsimp only;rw[ug,hsP,aI lK]
  ·rintro⟨s,j⟩e⟨_,hI⟩;dsimp only at e hI ⊢;subst e;subst hI;rw[l6,aR];exact Un (by dsimp only;rw[yQ,kI])
  intro o ho;exact Uo ho (λst hst=>Uh ⟨rfl,hst⟩)<|λr hr=>hr.elim
 ·rintro⟨s,ii⟩e hI;dsimp only at e hI ⊢;subst e;rw[l6,aR];exact Un hI
 intro o ho;exact Uo ho (λst hst=>OF hst)<|λr hr=>hr.elim
theorem CJ{a:jO}{e:Int}(he:e≠0)(near:Int):gH N e a near=some (none,[],e):=by
 grind [gH]
theorem ED(b:jh a ke cX r gs ofP ofB jD ji)(near:Int)(hN:4398046511104<=N):
  gH N 0 a near=some (if near<0\/100000<near then(none,[],1)else if 20000<(Bq (bM 0 cX) gs ofP ofB near).length then(none,[],2)else(some (a.aK,a.cU,a.aM,a.bV,(bM 0 cX).map aD.cL,(bM 0 cX).map aD.dY,gs,cT a.aM<|bM 0 cX),Bq (bM 0 cX) gs ofP ofB near,0)):=by
 unfold gH;rw[bne_self_eq_false,aR];have w:lu N near 0 100000=some (decide (near>=0)&&decide (near<=100000)):=rfl;rw[w,aB]
 by_cases hn:near<0\/100000<near
 ·grind
 rw[aI hn,show(decide (near>=0)&&decide (near<=100000))=true by grind,ln,aR,IW b hN,aB];dsimp only;rw[G4 b near hN,aB]
 grind
theorem EE(b:jh a ke cX r gs ofP ofB jD ji){x:bN}(h0:sG a.aM (bM 0 cX).length [x]=0)(hN:4398046511104<=N):
  jc N a.aM a.bV ((bM 0 cX).map aD.cL) ((bM 0 cX).map aD.dY) (cT a.aM<|bM 0 cX) x=some (Ew N a cX jD ji x):=by
 have hlf:=b.zq.xG;obtain⟨W,w1,w2,w3⟩:=M9 b (fl:=[]) w7 hN;obtain⟨V,v1,v2,v3⟩:=M9 b h0 hN;obtain⟨_,c2,c3⟩:=GY b (fl:=[]) w7 hN;obtain⟨_,d2,d3⟩:=GY b h0 hN;have ri:=N6 d3 c3 (M6 b h0 hN) (M6 b (fl:=[]) w7 hN) (by rw[c2,d2]);refine UU ?_;unfold jc;refine IT w1<|IT v1 ?_
 refine TZ (UE (n:=a.bV.length) (λst=>st.2.2) (λi st=>st.1=W/\st.2.1=V/\∀i' k,i'<i->k<i'->kf W i' k=kf V i' k) (Go:=λ_=>∀i' k,i'<a.bV.length->k<i'->kf W i' k=kf V i' k) (Rt:=λr=>r=false/\∃i' k,i'<a.bV.length/\k<i'/\kf W i' k≠kf V i' k) ?_ ?_ (cS _) rfl ⟨rfl,rfl,λi' k h=>by omega⟩ (by omega)) ?_
 ·rintro i⟨W',V',ii⟩hi e⟨e1,e2,hI⟩;dsimp only at e e1 e2 ⊢;subst e;subst e1;subst e2;rw[w2,iR hi,aO];refine TZ (UE (n:=i) (λs=>s) (λj _=>∀k,k<j->kf W' i k=kf V' i k) (Go:=λ_=>∀k,k<i->kf W' i k=kf V' i k) (Rt:=λr=>r=false/\∃i' k,i'<a.bV.length/\k<i'/\kf W' i' k≠kf V' i' k) ?_ ?_ (cS _) rfl (λk hk=>by omega) (by omega)) ?_
  ·grind [iR,IT,CW,UZ,Uh,bE]
  ·grind [Un]
  intro o ho;refine Uo ho (λ_ hJ=>Uh ⟨bE (by omega),rfl,rfl,λi' k hi' hk=>?_⟩)<|λr hr=>UZ hr
  grind
 ·rintro⟨W',V',ii⟩e⟨e1,e2,hI⟩;dsimp only at e e1 e2 ⊢;subst e;subst e1;subst e2;rw[w2,l6,aR];exact Un hI
 intro o ho;refine Uo ho (λ_ h=>OF ?_)<|λr hr=>OF ?_
 ·refine(ri.2 λi k hk hi=>?_).symm;rw[d2]at hi;rw[<-w3 i k hi (by omega),<-v3 i k hi (by omega)];exact(h i k hi hk).symm
 ·obtain⟨hr,i,k,hi,hk,hne⟩:=hr;rw[hr];refine(Bool.eq_false_iff.2 λht=>hne ?_).symm;have:=ri.1 ht i k hk (by omega);rw[w3 i k hi (by omega),v3 i k hi (by omega)];exact this.symm
theorem G5{a:jO}{e:Int}(he:e≠0)(h:dB N a=some e)(near:Int):fU N a near=some ([],e):=by
 unfold fU;rw[h,aB,CJ he,aB];rfl
theorem I0(b:jh a ke cX r gs ofP ofB jD ji)(h:dB N a=some 0)(near:Int)(hN:4398046511104<=N):
  fU N a near=some (if near<0\/100000<near then([],1)else if 20000<(Bq (bM 0 cX) gs ofP ofB near).length then([],2)else(Bq (bM 0 cX) gs ofP ofB near,0)):=by
 unfold fU;rw[h,aB,ED b near hN,aB]
 by_cases hn:near<0\/100000<near
 ·rw[aG hn,aG hn];rfl
 rw[aI hn,aI hn]
 by_cases hl:20000<(Bq (bM 0 cX) gs ofP ofB near).length
 ·rw[aG hl,aG hl];rfl
 ·rw[aI hl,aI hl];rfl
theorem EF{a:jO}{e:Int}(he:e≠0)(h:dB N a=some e)(near:Int):fo N a near=some ([],e):=by
 unfold fo;rw[h,aB,CJ he,aB];simp only[G7,show(e != 0)=true by simpa using he,aO]
theorem E5(b:jh a ke cX r gs ofP ofB jD ji)(h:dB N a=some 0)(near:Int)(hN:4398046511104<=N):
  fo N a near=some (if near<0\/100000<near then([],1)else if 20000<(Bq (bM 0 cX) gs ofP ofB near).length then([],2)else((Bq (bM 0 cX) gs ofP ofB near).filter<|Ew N a cX jD ji,0)):=by
 unfold fo;rw[h,aB,ED b near hN,aB]
 by_cases hn:near<0\/100000<near
 ·rw[aG hn,aG hn];rfl
 rw[aI hn,aI hn]
 by_cases hl:20000<(Bq (bM 0 cX) gs ofP ofB near).length
 ·rw[aG hl,aG hl];rfl
 rw[aI hl,aI hl];simp only[G7,bne_self_eq_false,aR];have hright:=λ(x:bN)(hx:x∈Bq (bM 0 cX) gs ofP ofB near)=>FY b hx;generalize hS:Bq (bM 0 cX) gs ofP ofB near=S at *;refine UU ?_;refine TZ (UE (n:=S.length) (λst=>st.2) (λk st=>st.1=(S.take k).filter (Ew N a cX jD ji)) (Go:=λst=>st.1=S.filter (Ew N a cX jD ji)) (Rt:=λ_=>False) ?_ ?_ (cS _) rfl rfl (by omega)) ?_
 ·rintro k⟨s,kk⟩hk e hI;dsimp only at e hI ⊢;subst e;subst hI;rw[iR hk,aO];have hx:S[k]? =some S[k]:=aN hk;have hlen:((S.take k).filter<|Ew N a cX jD ji).length<=k:=sQ (nA _ _)<|List.length_take_le _ _
  refine T6 hx<|IT (EE b (hright _<|cH hk) hN)<|TZ (P:=λs=>s=(S.take<|k+1).filter (Ew N a cX jD ji)) (Uv (λhc=>T6 hx<|UJ (by simp only[eI,List.length_nil];omega)<|OF ?_)<|λhc=>OF ?_)<|λs hs=>Uh ⟨bE (by omega),hs⟩
  ·rw[dQ hk,List.filter_append,List.filter_cons_of_pos hc,List.filter_nil]
  ·rw[dQ hk,List.filter_append,List.filter_cons_of_neg (by rw[hc];exact lK),List.filter_nil,ny]
 ·rintro⟨s,kk⟩e hI;dsimp only at e hI ⊢;subst e;rw[l6,aR];rw[eM]at hI;exact Un hI
 intro o ho;exact Uo ho (λst hst=>OF (by rw[hst]))<|λr hr=>hr.elim
end
section
variable {N:Nat}
theorem ve{a:jO}{near:Int}(ha:bk a<=1048576)(_hn:bk near<=1048576)(hN:4398046511104<=N):eK N a near=some true:=by
 have hs:=Iz ha;have aw:=N2 hN;have fin:∀{x y:List bN×Int},x.1.length<=1000000000->y.1.length<=1000000000->lR N a near=some x->fU N a near=some x->ka N a near=some y->fo N a near=some y->eK N a near=some true:=λ{x y}l1 l2 h1 h2 h3 h4=>by
  unfold eK;rw[h1,aB,h2,aB,h3,aB,h4,aB,aw,Ey (by omega),Ey (by omega)];simp
 rcases checked (N:=N) hs hN with⟨e,he,h1,h2⟩|⟨b,h1,h2⟩
 ·exact fin (by simp) (by simp) (JV he h1 near) (G5 he h2 near) (GZ he h1 near)<|EF he h2 near
 ·rename_i ke cX r gs ofP ofB jD ji;have hsl:=KI b near;have hfl:=nA (Ew N a cX jD ji)<|Bq (bM 0 cX) gs ofP ofB near
  refine fin ?_ ?_ (LA b h1 near hN) (I0 b h2 near hN) (IZ b h1 near hN)<|E5 b h2 near hN
  ·split
   ·simp
   ·split
    ·simp
    ·dsimp only;omega
  ·split
   ·simp
   ·split
    ·simp
    ·dsimp only;omega
end
end Go.Gk
