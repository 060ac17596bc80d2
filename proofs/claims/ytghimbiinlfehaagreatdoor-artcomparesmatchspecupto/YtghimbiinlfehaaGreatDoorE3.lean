/-
  Helping texts: plain functions and plain laws. No statement of the seed is proved here.
-/
import Derived.Test.YtghimbiinlfehaaGreatDoorE2
import Derived.Test.YtghimbiinlfehaaGreatDoorA2
set_option linter.defProp false
set_option linter.unusedVariables false
set_option linter.unusedSimpArgs false
set_option linter.unusedSectionVars false
namespace Go.Gk
open Go IntKind Classical
def Sorted.find{α:Type}{key:α->cD}{l:Z α}(h:Sorted key l){y:α}(hy:y∈l){s:cD}(e:key y=s):l.find? (λz=>(key z).kj s)=some y:=by
 cases hf:l.find? (λz=>(key z).kj s)with
 |none=>
  have:=List.find?_eq_none.1 hf y hy;rw[nG,bS e]at this;exact absurd rfl this
 |some z=>
  have hz:=List.mem_of_find?_eq_some hf;have hk:=List.find?_some hf;rw[nG,cZ]at hk;obtain⟨i,hi⟩:=dD hz;obtain⟨j,hj⟩:=dD hy;have:=h.inj hi hj (by rw[hk,e]);subst this;rw[hi]at hj;exact hj
def HZ(t:Z aS)(l:Z Part)(p:bC):Bool:=l.any λy=>decide (y.Name=p.Part)&&t.any λz=>decide (z.Name=y.jR)&&z.aT.any λq=>decide<|q.Name=p.bC
def M7{t:Z aS}{x:cA}(ok:sM t x)(p:bC):HZ t x.cR p=pw t x.cR p:=by
 rw[fY];constructor
 ·intro h;unfold HZ at h;simp only[iN,dB,cZ]at h;obtain⟨y,hy,e1,z,hz,e2,q,hq,e3⟩:=h;unfold pw;rw[ok.parts.sorted.find hy e1];dsimp only;rw[ok.types.sorted.find hz e2];exact iN.2 ⟨q,hq,by rw[nG];exact bS e3⟩
 ·intro h;unfold pw at h
  cases hf:x.cR.find? (λy=>y.Name.kj p.Part)with
  |none=>rw[hf]at h;simp at h
  |some y=>
   rw[hf]at h;dsimp only at h
   cases ht:t.find? (λz=>z.Name.kj y.jR)with
   |none=>rw[ht]at h;simp at h
   |some z=>
    rw[ht]at h;obtain⟨q,hq,e⟩:=iN.1 h;have e1:=List.find?_some hf;have e2:=List.find?_some ht;rw[nG,cZ]at e e1 e2;unfold HZ;simp only[iN,dB,cZ];exact⟨y,List.mem_of_find?_eq_some hf,e1,z,List.mem_of_find?_eq_some ht,e2,q,hq,e⟩
def M8{t:Z aS}{x:cA}(ok:sM t x){q:bC}(hq:q∈ki t x):pw t x.cR q=true:=by
 unfold ki at hq;obtain⟨p,hp,hq⟩:=List.mem_flatMap.1 hq;have hq:=(nC.1 hq).1;unfold sO at hq;obtain⟨y,hy,rfl⟩:=dU.1 hq;obtain⟨i,hi⟩:=dD hp;unfold pw
 rcases y8 Part.Name x.cR p.Name with⟨h4,h5⟩|⟨k,q',h4,h5,h6⟩
 ·exact absurd rfl<|h5 p hp
 ·have hk:=ok.parts.sorted.inj h5 hi h6;subst hk;rw[hi]at h5;injection h5 with h5;subst h5
  have hf:=BA h4 hi;rw[hf];dsimp only;obtain⟨j,hj,hj2⟩:=C2<|ok.parts.typed p hp
  have hf2:=BA hj hj2;rw[hf2];exact iN.2 ⟨y,hy,P9 _⟩
def R9{t:Z aS}{x:cA}(ok:sM t x)(p:bC):Ci t x p=pw t x.cR p:=by
 rw[fY];constructor
 ·intro h;unfold Ci at h;rw[gT]at h
  rcases h with h|h
  ·obtain⟨n,hn,hp⟩:=Kd.1 h;exact ok.Yg n hn p hp
  ·exact M8 ok<|of_decide_eq_true h
 ·intro h;unfold Ci
  cases hn:HX x p with
  |true=>rfl
  |false=>rw[Bool.false_or];exact bS (Kf ok h hn)
def O3{t:Z aS}{x:cA}(ok:sM t x)(p:bC):HZ t x.cR p=Ci t x p:=(M7 ok p).trans (R9 ok p).symm
def VX(ns:Z Int):Prop:=∀(i j:Nat)(g:Int),ns[i]? =some g->ns[j]? =some g->0<=g->i=j
def VX.snoc{ns:Z Int}{g:Int}(h:VX ns)(hn:uQ ns g=none):VX (ns++[g]):=by
 have hm:=Fb hn;have key:∀(i:Nat)(z:Int),(ns++[g])[i]? =some z->(i<ns.length/\ns[i]? =some z)\/(i=ns.length/\z=g):=λi z hi=>by
  rw[List.getElem?_append]at hi
  by_cases h':i<ns.length
  ·rw[aG h']at hi;exact .inl ⟨h',hi⟩
  ·rw[aK h']at hi;have h2:=bP.1 hi;obtain⟨h3,h4⟩:=h2;rw[List.length_singleton]at h3;have h5:i - ns.length=0:=by omega
   simp only[h5,List.getElem_cons_zero]at h4;exact .inr ⟨by omega,h4.symm⟩
 intro i j z hi hj hz
 rcases key i z hi with⟨h1,h2⟩|⟨h1,h2⟩
 ·rcases key j z hj with⟨h3,h4⟩|⟨h3,h4⟩
  ·exact h i j z h2 h4 hz
  ·subst h4
   rcases hm with hm|hm
   ·omega
   ·exact absurd (dT h2) hm
 ·rcases key j z hj with⟨h3,h4⟩|⟨h3,h4⟩
  ·subst h2
   rcases hm with hm|hm
   ·omega
   ·exact absurd (dT h4) hm
  ·omega
def VY(lg:bC->aV Int)(ps:Z bC):∀k,k<=ps.length->VX (zw lg<|ps.take k).2:=by
 intro k
 induction k with
 |zero=>intro _ i j g hi;simp[zw]at hi
 |succ k ih=>
  intro hk;have I:=ih (by omega);have hkl:k<ps.length:=hk;rw[Ej lg hkl];unfold sQ
  cases hg:lg ps[k]with
  |none=>exact I
  |some g=>
   simp only
   cases hat:uQ (zw lg<|ps.take k).2 g with
   |none=>exact I.snoc hat
   |some i=>exact I
def V5(ns:Z Int)(g:Int):Int:=match uQ ns g with|none=> -1|some i=>((i:Nat):Int)
def TF{ns:Z Int}{g at_:Int}(hu:VX ns)(h1:∀j:Nat,ns[j]? =some g->0<=g->at_=((j:Nat):Int))(h2:at_ = -1\/∃j:Nat,ns[j]? =some g/\0<=g):at_=V5 ns g:=by
 unfold V5
 cases h:uQ ns g with
 |some i=>obtain⟨h0,hi⟩:=yb h;exact h1 i hi h0
 |none=>
  rcases h2 with h2|⟨j,hj,h0⟩
  ·exact h2
  ·rcases Fb h with h3|h3
   ·omega
   ·exact absurd (dT hj) h3
def VZ{m:Z (cD×Bool)}{l:Z cD}(hn:(m.map Prod.fst).Nodup)(hl:Sorted (λx=>x) l)(h:∀q,q∈l↔q∈m.map Prod.fst)(hb:m.length<4611686018427387904):l=sK m:=by
 have n1:l.Nodup:=(C3.1 hl).imp λ{a b}h=>cD.Fi h;have hp:(m.map Prod.fst).Perm l:=(List.perm_ext_iff_of_nodup hn n1).2 λq=>(h q).symm;have:=Iu hp hl (by rw[dQ];exact hb);unfold Mo at this;rw[aG (by rw[dQ];exact hb),List.map_map]at this;injection this with this
 exact this.symm
def M9(l:Z cD)(c:Nat)(s:cD):Z cD:=l.take c++[s]++l.drop c
def Q0{l:Z cD}{c:Nat}{s q:cD}:q∈M9 l c s↔q∈l\/q=s:=by
 unfold M9;have:=List.take_append_drop c l;constructor
 ·intro h
  rcases dP.1 h with h|h
  ·rcases dP.1 h with h|h
   ·exact .inl<|List.mem_of_mem_take h
   ·exact .inr (by simpa using h)
  ·exact .inl<|List.mem_of_mem_drop h
 ·intro h
  rcases h with h|h
  ·rw[<-this]at h
   rcases dP.1 h with h|h
   ·exact List.mem_append_left _<|List.mem_append_left _ h
   ·exact List.mem_append_right _ h
  ·subst h;simp
def L0{l:Z cD}{c:Nat}{s:cD}(hl:Sorted (λx=>x) l)(h1:∀(j:Nat)(x:cD),c<=j->l[j]? =some x->cD.lt s x)(h2:∀(j:Nat)(x:cD),j<c->l[j]? =some x->cD.lt x s):Sorted (λx=>x) (M9 l c s):=by
 rw[C3]at hl ⊢;have hs:=hl;rw[<-List.take_append_drop c l,nD]at hs;have ht:∀x∈l.take c,cD.lt x s:=λx hx=>by
  obtain⟨j,hj⟩:=dD hx;have hjc:j<c:=by
   have:=(bP.1 hj).1;rw[cN]at this;omega
  rw[List.getElem?_take_of_lt hjc]at hj;exact h2 j x hjc hj
 have hd:∀x∈l.drop c,cD.lt s x:=λx hx=>by
  obtain⟨j,hj⟩:=dD hx;rw[lR]at hj;exact h1 (c+j) x (by omega) hj
 unfold M9;rw[nD,nD];refine⟨⟨hs.1,by simp,λx hx y hy=>?_⟩,hs.2.1,λx hx y hy=>?_⟩
 ·rw[mA]at hy;subst hy;exact ht x hx
 ·rcases dP.1 hx with h|h
  ·exact hs.2.2 x h y hy
  ·rw[mA]at h;subst h;exact hd y hy
def Kg(l:Z bC)(c:Nat)(p:bC):Z bC:=l.take c++[p]++l.drop c
def O4(l:Z bC)(c:Nat)(p:bC):(Kg l c p).Perm (l++[p]):=by
 unfold Kg;have h:=List.take_append_drop c l;have h1:(l.take c++[p]++l.drop c).Perm (l.take c++(l.drop c++[p])):=by
  rw[kK];exact List.Perm.append_left _ List.perm_append_comm
 rwa[<-kK,h]at h1
def Sa{l:Z bC}{c:Nat}{p:bC}(hl:sP l)(h1:∀(j:Nat)(x:bC),c<=j->l[j]? =some x->kH p x=true)(h2:∀(j:Nat)(x:bC),j<c->l[j]? =some x->kH p x=false):sP (Kg l c p):=by
 have hs:=hl;unfold sP at hs ⊢;rw[<-List.take_append_drop c l,nD]at hs;have ht:∀x∈l.take c,kH p x=false:=λx hx=>by
  obtain⟨j,hj⟩:=dD hx;have hjc:j<c:=by
   have:=(bP.1 hj).1;rw[cN]at this;omega
  rw[List.getElem?_take_of_lt hjc]at hj;exact h2 j x hjc hj
 have hd:∀x∈l.drop c,kH x p=false:=λx hx=>by
  obtain⟨j,hj⟩:=dD hx;rw[lR]at hj;exact wH<|h1 (c+j) x (by omega) hj
 unfold Kg;rw[nD,nD];refine⟨⟨hs.1,by simp,λx hx y hy=>?_⟩,hs.2.1,λx hx y hy=>?_⟩
 ·rw[mA]at hy;subst hy;exact ht x hx
 ·rcases dP.1 hx with h|h
  ·exact hs.2.2 x h y hy
  ·rw[mA]at h;subst h;exact hd y hy
def Q1{α:Type}{l:Z α}{φ:α->α->aV Bool}(hl:l.length<=4611686018427387904)(h:∀x∈l,φ x x=some true):
  (bif(l.length:Int) != (l.length:Int)then some false else((qT l.length (λ(k31:Nat)(s32:Unit)=>((idx l (k31:Int)).bind λx44=>(idx l (k31:Int)).bind λx48=>(φ x44 x48).bind λx54=>bif(!x54)then some (.rt false)else(some<|.nx ()):aV (Fl Unit Bool))) ()).bind λo55=>o55.cs (λ(s32:Unit)=>some true)<|λr=>some r))=some true:=by
 rw[bne_self_eq_false,aR];refine Y9 ?_;refine Ym (aa8 (λ_ _=>True) (Go:=λ_=>True) (Rt:=λ_=>False) hl trivial (λk s hk _=>?_)<|λ_ _=>trivial)<|λo ho=>YS ho (λ_ _=>V_ rfl)<|λr hr=>hr.elim
 have hx:l[k]? =some l[k]:=aM hk;refine Yx hx<|Yx hx<|X_ (h _<|cP hk) ?_
 rw[lT,aR];exact YK trivial
section
variable {N:Nat}{a:lj}{oc:Z (Z aB)}{fU:Z (Z (Z aB))}{r:Nat->Nat}{gs:Z bG}{ofP ofB tZ:Z Int}{u9:Z ld}
end
section
variable {N:Nat}
end
section
variable {N:Nat}
def TG(hN:16<=N):iU N=some true:=by
 have:=Ow (N:=N - 16);rwa[show N - 16+16=N by omega]at this
end
def L1{S R:Type}{body:S->aV (Fl S R)}{N n:Nat}(F:Nat->S)(h1:∀k,k<n->body (F k)=some (.nx<|F<|k+1))(h2:body (F n)=some (.br<|F n))(hn:n<N):iL body N (F 0)=some (.go<|F n):=by
 have key:∀(M j:Nat),j<=n->n - j<M->iL body M (F j)=some (.go<|F n):=by
  intro M
  induction M with
  |zero=>intro j _ h;omega
  |succ M ih=>
   intro j hj h;unfold iL
   by_cases e:j=n
   ·subst e;rw[h2];rfl
   ·rw[h1 j (by omega)];exact ih (j+1) (by omega) (by omega)
 exact key N 0 (dH _) (by omega)
def Z_{α R:Type}{l:Z α}{N:Nat}{c:Bool}{g:α->Bool}{body:Int->aV (Fl Int R)}{Rt:R->Prop}(hn:l.length<N)
  (h1:∀(k:Nat)x,l[k]? =some x->c=true->Ok (body ((k:Nat):Int)) (Pb (λs=>g x=false/\s=((k+1:Nat):Int)) (λ_=>False)<|λr=>Rt r/\g x=true))
  (h2:∀k:Nat,k<=l.length->(k=l.length\/c=false)->Ok (body ((k:Nat):Int)) (Pb (λ_=>False) (λ_=>True)<|λ_=>False)):
  Ok (Gk.iL body N 0) (Ra (λ_=>(c&&l.any g)=false)<|λr=>Rt r/\(c&&l.any g)=true):=by
 refine Zl (λs=>∃k:Nat,s=((k:Nat):Int)/\k<=l.length/\∀x∈l.take k,g x=false) (λs=>l.length - s.toNat) (λs hs=>?_) ⟨0,rfl,dH _,λx hx=>by simp at hx⟩ (by omega);obtain⟨k,rfl,hk,hI⟩:=hs
 by_cases hc:k=l.length\/c=false
 ·refine(h2 k hk hc).mono ?_;rintro(s'|s'|r)hp
  ·exact hp.elim
  ·rcases hc with e|e
   ·subst e;rw[dK]at hI;show(c&&l.any g)=false;rw[List.any_eq_false.2 λx hx=>by rw[hI x hx];exact wg,Bool.and_false]
   ·show(c&&l.any g)=false;rw[e,Bool.false_and]
  ·exact hp.elim
 ·have hlt:k<l.length:=by
   rcases Nat.lt_or_ge k l.length with h|h
   ·exact h
   ·exact absurd (.inl (by omega)) hc
  have hct:c=true:=by cases c with
   |true=>rfl
   |false=>exact absurd (.inr rfl) hc
  refine(h1 k l[k] (aM hlt) hct).mono ?_;rintro(s'|s'|r)hp
  ·obtain⟨h3,h4⟩:=hp;subst h4;refine⟨⟨k+1,rfl,hlt,λx hx=>?_⟩,by simp only[dA];omega⟩;rw[dN hlt]at hx
   rcases dP.1 hx with hx|hx
   ·exact hI x hx
   ·rw[mA]at hx;subst hx;exact h3
  ·exact hp.elim
  ·refine⟨hp.1,?_⟩;show(c&&l.any g)=true;rw[hct,Bool.true_and];exact iN.2 ⟨_,cP hlt,hp.2⟩
section
variable {N:Nat}{t:Z aS}{x:cA}{a:lj}{oc:Z (Z aB)}{fU:Z (Z (Z aB))}{r:Nat->Nat}{gs:Z bG}{ofP ofB tZ:Z Int}{u9:Z ld}
def O5{l:Z bC}{p:bC}(hl:l.length<=1099511627776)(hw:sP l)(hN:4398046511104<=N):∃c,jJ N l p=some (Kg l c p)/\sP (Kg l c p):=by
 have hwi:∀(i j:Nat)(u v:bC),i<j->l[i]? =some u->l[j]? =some v->kH v u=false:=λi j u v hij hu hv=>by
  obtain⟨h1,rfl⟩:=bP.1 hu;obtain⟨h2,rfl⟩:=bP.1 hv;exact og.1 hw i j h1 h2 hij
 have key:Ok (jJ N l p) (λm=>∃c,m=Kg l c p/\sP (Kg l c p)):=by
  unfold jJ
  refine Ym (Zl (Go:=λs=>∃c:Nat,s=((c:Nat):Int)/\c<=l.length/\(∀(j:Nat)(y:bC),c<=j->l[j]? =some y->kH p y=true)/\(∀(j:Nat)(y:bC),j<c->l[j]? =some y->kH p y=false)) (Rt:=λ_=>False)
   (λs=>∃c:Nat,s=((c:Nat):Int)/\c<=l.length/\∀(j:Nat)(y:bC),c<=j->l[j]? =some y->kH p y=true) (λs=>s.toNat) (λs hs=>?_) ⟨l.length,rfl,cG _,λj y hj hy=>by
    have:=(bP.1 hy).1;omega⟩ (by simp only[dA];omega)) ?_
  ·obtain⟨c,rfl,hc,hI⟩:=hs
   by_cases h0:0<c
   ·have hy:l[c - 1]? =some l[c - 1]:=aM (by omega);rw[bS (show((c:Nat):Int)>0 by omega),aO,iv h0 (by omega)];refine X_ (x:=kH p l[c - 1]) ?_<|YW (λh=>YK ⟨⟨c - 1,rfl,by omega,λj y hj hy'=>?_⟩,by simp only[dA];omega⟩)<|λh=>YO ⟨c,rfl,hc,hI,λj y hj hy'=>?_⟩
    ·rw[cK hy,aA];rfl
    ·by_cases e:j=c - 1
     ·subst e;rw[hy]at hy';injection hy' with hy';rw[<-hy'];exact h
     ·exact hI j y (by omega) hy'
    ·by_cases e:j=c - 1
     ·subst e;rw[hy]at hy';injection hy' with hy';rw[<-hy'];exact h
     ·exact ug (hwi j (c - 1) y _ (by omega) hy' hy) h
   ·have:c=0:=by omega
    subst this;rw[cF (show ¬((0:Nat):Int)>0 by omega),aR,aA,aR];exact YO ⟨0,rfl,hc,hI,λj y hj=>by omega⟩
  ·intro o ho;refine YS ho ?_<|λr h=>h.elim
   rintro s⟨c,rfl,hc,h1,h2⟩;refine X_ (nT l c hc)<|Y2 (by simp only[List.length_nil,cN];omega)<|Y2 (by simp only[List.nil_append,cN,dO,List.length_nil];omega)<|X_ (q7 l c hc)<|Y2 (by simp only[List.nil_append,dC,cN,dO,List.length_nil,lS];omega)<|V_ ⟨c,by simp[Kg],Sa hw h1 h2⟩
 obtain⟨m,h1,c,rfl,h2⟩:=key;exact⟨c,h1,h2⟩
def Q3{l:Z cD}{s:cD}(hl:l.length<=1099511627776)(hs:Sorted (λx=>x) l)(hN:4398046511104<=N):∃m,ka N l s=some m/\Sorted (λx=>x) m/\(∀q,q∈m↔q∈l\/q=s)/\m.length<=l.length+1:=by
 refine show Ok (ka N l s) (λm=>Sorted (λx=>x) m/\(∀q,q∈m↔q∈l\/q=s)/\m.length<=l.length+1)from ?_;unfold ka
 refine Ym (Zl (Go:=λz=>∃c:Nat,z=((c:Nat):Int)/\c<=l.length/\(∀(j:Nat)(y:cD),c<=j->l[j]? =some y->cD.lt s y)/\(∀y,0<c->l[c - 1]? =some y->¬cD.lt s y)) (Rt:=λ_=>False)
  (λz=>∃c:Nat,z=((c:Nat):Int)/\c<=l.length/\∀(j:Nat)(y:cD),c<=j->l[j]? =some y->cD.lt s y) (λz=>z.toNat) (λz hz=>?_) ⟨l.length,rfl,cG _,λj y hj hy=>by
   have:=(bP.1 hy).1;omega⟩ (by simp only[dA];omega)) ?_
 ·obtain⟨c,rfl,hc,hI⟩:=hz
  by_cases h0:0<c
  ·have hy:l[c - 1]? =some l[c - 1]:=aM (by omega);rw[bS (show((c:Nat):Int)>0 by omega),aO,iv h0 (by omega)];refine X_ (x:= !(l[c - 1].mH s||l[c - 1].kj s)) ?_<|YW (λh=>YK ⟨⟨c - 1,rfl,by omega,λj y hj hy'=>?_⟩,by simp only[dA];omega⟩)<|λh=>YO ⟨c,rfl,hc,hI,λy _ hy' hlt=>?_⟩
   ·rw[cK hy,aA]
   ·have h':(l[c - 1].mH s||l[c - 1].kj s)=false:=by simpa using h
    by_cases e:j=c - 1
    ·subst e;rw[hy]at hy';injection hy' with hy';rw[<-hy'];exact F8.1 h'
    ·exact hI j y (by omega) hy'
   ·rw[hy]at hy';injection hy' with hy';subst hy'
    have:=F8.2 hlt;rw[this]at h;cases h
  ·have:c=0:=by omega
   subst this;rw[cF (show ¬((0:Nat):Int)>0 by omega),aR,aA,aR];exact YO ⟨0,rfl,hc,hI,λy h=>by omega⟩
 ·intro o ho;refine YS ho ?_<|λr h=>h.elim
  rintro z⟨c,rfl,hc,h1,h2⟩;have fin:(0<c->∀y,l[c - 1]? =some y->y≠s)->Ok ((ui l 0 ((c:Nat):Int)).bind λx61=>(app 16 ([]:Z cD) x61).bind λx63=>(app 16 x63 ([s]:Z cD)).bind λx66=>(ui l ((c:Nat):Int) (l.length:Int)).bind λx68=>(app 16 x66 x68).bind λx70=>some x70)
    (λm=>Sorted (λx=>x) m/\(∀q,q∈m↔q∈l\/q=s)/\m.length<=l.length+1):=λhne=>by
   refine X_ (nT l c hc)<|Y2 (by simp only[List.length_nil,cN];omega)<|Y2 (by simp only[List.nil_append,cN,dO,List.length_nil];omega)<|X_ (q7 l c hc)<|Y2 (by simp only[List.nil_append,dC,cN,dO,List.length_nil,lS];omega)<|V_ ?_
   have e:([]++l.take c++[s]++l.drop c)=M9 l c s:=by simp[M9]
   rw[e];refine⟨L0 hs h1<|λj y hj hy=>?_,λq=>Q0,by simp only[M9,dC,cN,lS,dO,List.length_nil];omega⟩;have hz:l[c - 1]? =some l[c - 1]:=aM (by omega);have hlt:cD.lt l[c - 1] s:=by
    rcases cD.vr l[c - 1] s with h|h|h
    ·exact h
    ·exact absurd h<|hne (by omega) _ hz
    ·exact absurd h<|h2 _ (by omega) hz
   by_cases e:j=c - 1
   ·subst e;rw[hz]at hy;injection hy with hy;rw[<-hy];exact hlt
   ·exact cD.lt_trans (hs j (c - 1) y _ (by omega) hy hz) hlt
  by_cases h0:0<c
  ·have hy:l[c - 1]? =some l[c - 1]:=aM (by omega);rw[bS (show((c:Nat):Int)>0 by omega),aO,iv h0 (by omega)];refine X_ (x:=l[c - 1].kj s) ?_<|YW (λh=>V_ ⟨hs,λq=>⟨.inl,λhq=>?_⟩,by omega⟩)<|λh=>fin λ_ y hy' e=>?_
   ·rw[cK hy,aA]
   ·rcases hq with hq|hq
    ·exact hq
    ·rw[hq,<-rz.1 h];exact cP _
   ·rw[hy]at hy';injection hy' with hy';subst hy'
    rw[e,nG,bS rfl]at h;cases h
  ·have:c=0:=by omega
   subst this;rw[cF (show ¬((0:Nat):Int)>0 by omega),aR,aA,aR];exact fin λh=>by omega
def Q4(hp:x.cR.length<=1048576)(ht:t.length<=1048576)(hq:∀z∈t,z.aT.length<=1048576)(p:bC)(hN:4398046511104<=N):iT N t x p=some (HZ t x.cR p):=by
 refine Y9 ?_;unfold iT;refine Ym (Z_ (l:=x.cR) (c:=true) (g:=λy=>decide (y.Name=p.Part)&&t.any λz=>decide (z.Name=y.jR)&&z.aT.any λq=>decide<|q.Name=p.bC) (Rt:=λr=>r=true) (by omega) (λk y hy _=>?_)<|λk hk hc=>?_) ?_
 ·have hk:=(bP.1 hy).1;rw[jT hk,aO];refine Ym (Z_ (l:=t) (c:=decide<|y.Name=p.Part) (g:=λz=>decide (z.Name=y.jR)&&z.aT.any λq=>decide<|q.Name=p.bC) (Rt:=λr=>r=true) (by omega) (λj z hz hc=>?_)<|λj hj hc=>?_) ?_
  ·have hj:=(bP.1 hz).1;rw[jT hj,aO,cK hy,aA,aA,nG,hc,aO];have hzq:=hq z<|dT hz
   refine Ym (Z_ (l:=z.aT) (c:=decide<|z.Name=y.jR) (g:=λq=>decide<|q.Name=p.bC) (Rt:=λr=>r=true) (by omega) (λi q hqi hc2=>?_)<|λi hi hc2=>?_) ?_
   ·have hi:=(bP.1 hqi).1;rw[cK hz,aA,jT hi,aO,aA,aA,aA,nG,hc2,aO,aA,cK hqi,aA,nG];refine YW (λh=>Zg ⟨rfl,h⟩)<|λh=>YK ⟨h,bR (by omega)⟩
   ·rw[cK hz,aA]
    rcases Nat.lt_or_ge i z.aT.length with h|h
    ·rcases hc2 with e|e
     ·omega
     ·rw[jT h,aO,aA,aA,aA,nG,e,aR];exact YO trivial
    ·rw[AV h,aR,aA,aR];exact YO trivial
   ·intro o ho;exact YS ho (λs hs=>YK ⟨hs,bR (by omega)⟩)<|λr hr=>Zg hr
  ·rcases Nat.lt_or_ge j t.length with h|h
   ·rcases hc with e|e
    ·omega
    ·rw[jT h,aO,cK hy,aA,aA,nG,e,aR];exact YO trivial
   ·rw[AV h,aR,aA,aR];exact YO trivial
  ·intro o ho;exact YS ho (λs hs=>YK ⟨hs,bR (by omega)⟩)<|λr hr=>Zg hr
 ·have:k=x.cR.length:=by
   rcases hc with e|e
   ·exact e
   ·cases e
  subst this;rw[pI,aR];exact YO trivial
 ·intro o ho;refine YS ho (λs hs=>V_ ?_)<|λr hr=>V_ ?_
  ·rw[Bool.true_and]at hs;exact hs.symm
  ·rw[hr.1];have:=hr.2;rw[Bool.true_and]at this;exact this.symm
def O6(ok:sM t x)(p:bC)(hN:4398046511104<=N):lN N x p=some (if HX x p=true then nameOf x p else⟨[]⟩):=by
 have hnl:=ok.Ei;refine Y9 ?_;unfold lN;refine Ym (Z_ (l:=x.bT) (c:=true) (g:=λn=>n.aT.any λq=>decide<|q=p) (Rt:=λr=>∃n∈x.bT,p∈n.aT/\r=n.Name) (by omega) (λk n hn _=>?_)<|λk hk hc=>?_) ?_
 ·have hk:=(bP.1 hn).1;have hnm:=dT hn;have hp:=(ok.zd n hnm).2;rw[jT hk,aO];refine Ym (Z_ (l:=n.aT) (c:=true) (g:=λq=>decide<|q=p) (Rt:=λr=>∃n∈x.bT,p∈n.aT/\r=n.Name) (by omega) (λj q hq _=>?_)<|λj hj hc=>?_) ?_
  ·have hj:=(bP.1 hq).1;rw[cK hn,aA,jT hj,aO,aA,cK hq,aA];refine YW (λh=>?_)<|λh=>YK ⟨h,bR (by omega)⟩
   rw[aA];refine Zg ⟨⟨n,hnm,?_,rfl⟩,h⟩;rw[<-of_decide_eq_true h];exact dT hq
  ·have:j=n.aT.length:=by
    rcases hc with e|e
    ·exact e
    ·cases e
   subst this;rw[cK hn,aA,pI,aR];exact YO trivial
  ·intro o ho;refine YS ho (λs hs=>YK ⟨?_,bR (by omega)⟩)<|λr hr=>Zg ⟨hr.1,?_⟩
   ·rw[Bool.true_and]at hs;exact hs
   ·have:=hr.2;rw[Bool.true_and]at this;exact this
 ·have:k=x.bT.length:=by
   rcases hc with e|e
   ·exact e
   ·cases e
  subst this;rw[pI,aR];exact YO trivial
 ·intro o ho;refine YS ho (λs hs=>V_ ?_)<|λz hz=>V_ ?_
  ·rw[aK];intro h;obtain⟨n,hn,hp⟩:=Kd.1 h;rw[Bool.true_and,List.any_eq_false]at hs;exact hs n hn<|iN.2 ⟨p,hp,bS rfl⟩
  ·obtain⟨⟨n,hn,hp,rfl⟩,_⟩:=hz;have hin:HX x p=true:=Kd.2 ⟨n,hn,hp⟩;rw[aG hin];obtain⟨k,m,h1,h2,h3,h4⟩:=BC hin;obtain⟨i,hi⟩:=dD hn;have:=ok.once i k n m p hi h2 hp h3;subst this;rw[h2]at hi;injection hi with hi
   rw[h4,hi]
def Kh(lg:bC->aV Int)(ps:Z bC):(zw lg ps).1.length=(zw lg ps).2.length/\(zw lg ps).1.length<=ps.length/\∀l∈(zw lg ps).1,l.length<=ps.length/\0<l.length:=by
 have J:=VW lg ps;have hf:=Gc lg ps;have key:∀(L:Z (Z bC)),(∀l∈L,l≠[])->L.length<=L.flatten.length/\∀l∈L,l.length<=L.flatten.length:=by
  intro L
  induction L with
  |nil=>intro _;exact⟨cG _,λl hl=>by cases hl⟩
  |cons y L ih=>
   intro h;obtain⟨h1,h2⟩:=ih λl hl=>h l<|kh _ hl
   have h3:0<y.length:=List.length_pos_iff.2<|h y List.mem_cons_self
   rw[List.flatten_cons,dC,dO];refine⟨by omega,λl hl=>?_⟩
   rcases eJ.1 hl with e|e
   ·subst e;omega
   ·have:=h2 l e;omega
 obtain⟨h1,h2⟩:=key _ J.full;exact⟨J.len,by omega,λl hl=>⟨by have:=h2 l hl;omega,List.length_pos_iff.2<|J.full l hl⟩⟩
def O7(b:sI a oc fU r gs ofP ofB tZ u9){ps:Z bC}(hn:ps.length<=1048576)(hN:4398046511104<=N):
  iG N a.aP a.dF a.aZ a.bW ((dJ 0 fU).map aL.dW) ((dJ 0 fU).map aL.jw) gs ps=some ((zw (BB a (dJ 0 fU) r) ps).1.flatten,decide<|((zw (BB a (dJ 0 fU) r) ps).1.length:Int)>1):=by
 have hlf:=b.D9.zq;refine Y9 ?_;unfold iG;refine X_ (L1 (n:=ps.length) (λk=>((zw (BB a (dJ 0 fU) r)<|ps.take k).1,(zw (BB a (dJ 0 fU) r)<|ps.take k).2,((k:Nat):Int))) (λk hk=>?_) ?_ (by omega)) ?_
 ·refine Y9 ?_;dsimp only;have hx:ps[k]? =some ps[k]:=aM hk;rw[jT hk,aO];refine Yx hx<|X_ (LP (a:=a) (by omega) _ hN) ?_
  rw[Ej _ hk];obtain⟨hlen,hfew,hall⟩:=Kh (BB a (dJ 0 fU) r)<|ps.take k
  have hU:=VY (BB a (dJ 0 fU) r) ps k (by omega);rw[cN]at hfew hall;generalize zw (BB a (dJ 0 fU) r) (ps.take k)=st at hlen hfew hall hU ⊢
  rcases Ji a (dJ 0 fU) r ps[k]with⟨e,h⟩|⟨j,l,e,hl,hp,h⟩
  ·rw[e,show decide ((-1:Int)<0)=true by decide,aO,bR (by omega),Jh h];exact V_ rfl
  ·rw[e,show decide (((j:Nat):Int)<0)=false from cF (by omega),aR];refine Yx hl<|X_ (MY b l hN) ?_
   generalize MN a.aZ (dJ 0 fU) r l=g at h
   refine Ym (P:=Ra (λs:Int×Int=>s.1=V5 st.2 g) (λ_=>False)) (Zl (λs:Int×Int=>∃i:Nat,s.2=((i:Nat):Int)/\i<=st.2.length/\(∀(i':Nat),i'<i->st.2[i']? =some g->0<=g->s.1=((i':Nat):Int))/\(s.1 = -1\/∃i':Nat,st.2[i']? =some g/\0<=g))
    (λs=>st.2.length - s.2.toNat) (λs hs=>?_) ⟨0,rfl,dH _,λi' hi'=>by omega, .inl rfl⟩ (by omega)) ?_
   ·obtain⟨at_,s2⟩:=s;obtain⟨i,rfl,hi,hI1,hI2⟩:=hs;dsimp only at hI1 hI2 ⊢
    by_cases hc:i<st.2.length/\0<=g
    ·have hy:st.2[i]? =some st.2[i]:=aM hc.1;rw[jT hc.1,bS (show g>=0 from hc.2),Bool.and_self,aO];refine Yx hy<|Ym (P:=λz=>z=if st.2[i]=g then((i:Nat):Int)else at_) ?_ ?_
     ·by_cases e2:st.2[i]=g
      ·rw[aG e2,show(st.2[i]==g)=true from by simpa using e2,aO];exact V_ rfl
      ·rw[aK e2,show(st.2[i]==g)=false from by simpa using e2,aR];exact V_ rfl
     ·rintro z rfl;refine YK ⟨⟨i+1,bR (by omega),hc.1,λi' hi' hg' h0=>?_,?_⟩,?_⟩
      ·dsimp only
       by_cases e2:st.2[i]=g
       ·rw[aG e2];have:=hU i i' g (by rw[hy,e2]) hg' h0;rw[this]
       ·rw[aK e2]
        by_cases e3:i'=i
        ·subst e3;rw[hy]at hg';injection hg' with hg';exact absurd hg' e2
        ·exact hI1 i' (by omega) hg' h0
      ·dsimp only
       by_cases e2:st.2[i]=g
       ·exact .inr ⟨i,by rw[hy,e2],hc.2⟩
       ·rw[aK e2];exact hI2
      ·dsimp only;rw[bR (by omega),dA,dA];omega
    ·have hf:(decide (((i:Nat):Int)<((st.2.length:Nat):Int))&&decide (g>=0))=false:=by
      rw[Bool.and_eq_false_iff,decide_eq_false_iff_not,decide_eq_false_iff_not]
      by_cases h1:i<st.2.length
      ·right;intro h2;exact hc ⟨h1,h2⟩
      ·left;omega
     rw[hf,aR];refine YO<|TF hU (λj' hj' h0=>?_) hI2
     have:=(bP.1 hj').1
     exact hI1 j' (by
      rcases Nat.lt_or_ge i st.2.length with h1|h1
      ·exact absurd ⟨h1,h0⟩ hc
      ·omega) hj' h0
   ·intro o ho;refine YS ho ?_<|λr h=>h.elim
    rintro⟨at_,s2⟩hs;dsimp only at hs ⊢;subst hs;unfold V5
    cases hat:uQ st.2 g with
    |none=>
     dsimp only;rw[show decide ((-1:Int)<0)=true by decide,aO,HV h hat,bR (by omega)];refine Ym (P:=λy=>y=(st.1++[[ps[k]]],st.2++[g])) (Yx hx<|Y2 (by simp only[dO,List.length_nil];omega)<|Y2 (by simp only[dO,List.length_nil];omega)<|V_ rfl) ?_;rintro _ rfl;exact V_ rfl
    |some i=>
     obtain⟨h0,hi⟩:=yb hat;have hil:i<st.1.length:=by rw[hlen];exact(bP.1 hi).1
     have hgi:st.1[i]? =some st.1[i]:=aM hil;have hgl:=(hall _<|cP hil).1;dsimp only;rw[cF (show ¬((i:Nat):Int)<0 by omega),aR,HW h hat,bR (by omega)];refine Ym (P:=λy=>y=(st.1.set i<|st.1[i]++[ps[k]],st.2)) (Yx hgi<|Yx hx<|Y2 (by simp only[dO,List.length_nil];omega)<|Yx hgi<|V_ (by rw[dA])) ?_;rintro _ rfl;refine V_ ?_;rw[hgi];rfl
 ·dsimp only;rw[pI,aR]
 ·simp only[Fo.cs];rw[dK];obtain⟨hlen,hfew,hall⟩:=Kh (BB a (dJ 0 fU) r) ps;have hfl:=Gc (BB a (dJ 0 fU) r) ps;generalize zw (BB a (dJ 0 fU) r) ps=st at hlen hfew hall hfl ⊢;refine X_ (L1 (n:=st.1.length) (λk=>((st.1.take k).flatten,((k:Nat):Int))) (λk hk=>?_) ?_ (by omega)) ?_
  ·have hx:st.1[k]? =some st.1[k]:=aM hk;have h1:=(hall _<|cP hk).1;have h2:(st.1.take k).flatten.length<=st.1.flatten.length:=by
    have:st.1.flatten=(st.1.take k).flatten++(st.1.drop k).flatten:=by rw[<-List.flatten_append,List.take_append_drop]
    rw[this,dC];omega
   dsimp only;rw[jT hk,aO,cK hx,aA,j6 (by omega),aA,bR (by omega),dN hk,List.flatten_append];simp
  ·dsimp only;rw[pI,aR]
  ·simp only[Fo.cs];rw[dK];exact V_ rfl
def Na(lg:bC->aV Int)(n:Net):rX lg n=if decide (((zw lg n.aT).1.length:Int)>1)=true then [⟨2,[n.Name],(zw lg n.aT).1.flatten⟩]else []:=by
 obtain⟨_,_,hall⟩:=Kh lg n.aT;unfold rX TD
 by_cases h:(zw lg n.aT).1.length<2
 ·rw[aG h,cF (show ¬(((zw lg n.aT).1.length:Nat):Int)>1 by omega)];simp
 ·rw[aK h,bS (show(((zw lg n.aT).1.length:Nat):Int)>1 by omega)];have hp:0<(zw lg n.aT).1.flatten.length:=by
   have h0:0<(zw lg n.aT).1.length:=by omega
   have h1:=(hall _<|cP h0).2;obtain⟨p,hp⟩:=List.exists_mem_of_length_pos h1;exact List.length_pos_of_mem<|List.mem_flatten.2 ⟨_,cP h0,hp⟩
  rw[bS (show(((zw lg n.aT).1.flatten.length:Nat):Int)>0 by omega)]
end
section
variable {N:Nat}{t:Z aS}{x:cA}{a:lj}{oc:Z (Z aB)}{fU:Z (Z (Z aB))}{r:Nat->Nat}{gs:Z bG}{ofP ofB tZ:Z Int}{u9:Z ld}
def Sb{s:cD}(h:kE s=true):s.kj ⟨[]⟩=false:=by
 rw[nG,decide_eq_false_iff_not];intro e;subst e;exact absurd h (by decide)
def L2(ok:sM t x){p:bC}(h:HX x p=true):(nameOf x p).kj ⟨[]⟩=false:=by
 obtain⟨k,n,_,h2,_,h4⟩:=BC h;rw[h4];exact Sb<|ok.path n<|dT h2
structure Sd (t:Z aS) (x:cA) (ps:Z bC) (s:Z cD×Z bC×Int×Int):Prop where
 sorted:Sorted (λz=>z) s.1
 mem:∀q,q∈s.1↔∃p∈ps,HX x p=true/\q=nameOf x p
 zq:s.1.length<=ps.length
 pins:s.2.1=ps.filter (Ci t x)
 loose:s.2.2.1=(((ps.filter<|LY t x).length:Nat):Int)
def Sd.keys{ps:Z bC}{s:Z cD×Z bC×Int×Int}(h:Sd t x ps s)(hl:ps.length<=1048576):s.1=sK (LX x ps):=by
 obtain⟨h1,h2,h3⟩:=Ek (t:=t) (x:=x) ps;exact VZ h2 h.sorted (λq=>(h.mem q).trans (h3 q).symm) (by omega)
def L3(hbt:bk t<=1048576)(hbx:bk x<=1048576)(hck:iw t x=0)(b:sI a oc fU r gs ofP ofB tZ u9)(h2:eO N a=some 0)(hN:4398046511104<=N):
  fW N t x a=some (QZ t x a (dJ 0 fU) r gs,0):=by
 have ok:=uO hck;have hsm:=Kb hbx;have hfn:=ok.Ei;have hfp:=ok.zq;have hlf:=b.D9.zq;have hf:=b.zq.2;have hgl:=(MX b.QC).2;have hbl:=b.Eb.gb.len;have htl:=kB t;have htp:∀z∈t,z.aT.length<=1048576:=λz hz=>by
  have h1:=wQ hz;rw[pX]at h1;have h3:=kB z.aT;omega
 have isp:∀p,iT N t x p=some (Ci t x p):=λp=>by rw[Q4 (by omega) (by omega) htp p hN,O3 ok]
 refine Y9 ?_;unfold fW;rw[tu hbt hbx (by omega),aA,hck,show((0:Int) != 0)=false from rfl,aR,h2,aA,show((0:Int) != 0)=false from rfl,aR,LO b hN,aA];dsimp only;refine Ym (P:=Ra (λs:Z bC×Int=>s.1=rp (rW a x))<|λ_=>False) (Zc (n:=x.bT.length) (λs:Z bC×Int=>s.2) (λk(s:Z bC×Int)=>sP s.1/\s.1.Perm ((x.bT.take k).flatMap λn=>n.aT.filter<|λp=>decide<|pF a p<0)) ?_ ?_ (dH _) rfl ⟨lf,by simp⟩ (by omega)) ?_
 ·rintro k⟨s1,s2⟩hk e⟨hw,hp⟩;dsimp only at e hw hp ⊢;subst e;have hn:x.bT[k]? =some x.bT[k]:=aM hk;have hpl:=(ok.zd _<|cP hk).2;have hm:=BD (a:=a) ok k;have hsl:=hp.length_eq;rw[jT hk,aO]
  refine Ym (P:=Ra (λs:Z bC×Int=>sP s.1/\s.1.Perm ((x.bT.take (k+1)).flatMap λn=>n.aT.filter (λp=>decide (pF a p<0)))) (λ_=>False)) (Zc (n:=x.bT[k].aT.length) (λs:Z bC×Int=>s.2)
   (λj(s:Z bC×Int)=>sP s.1/\s.1.Perm (((x.bT.take k).flatMap λn=>n.aT.filter (λp=>decide (pF a p<0)))++(x.bT[k].aT.take j).filter (λp=>decide (pF a p<0)))) ?_ ?_ (dH _) rfl ⟨hw,by simpa using hp⟩ (by omega)) ?_
  ·rintro j⟨u1,u2⟩hj e⟨hw,hp⟩;dsimp only at e hw hp ⊢;subst e;have hq:x.bT[k].aT[j]? =some x.bT[k].aT[j]:=aM hj;have hul:=hp.length_eq;have hq2:((x.bT[k].aT.take j).filter<|λp=>decide<|pF a p<0).length<=500:=lh (iW _ _) (by rw[cN];omega);rw[dC]at hul;rw[cK hn,aA,jT hj,aO,aA,cK hq,aA,LP (by omega) _ hN,aA];rw[gC hj];refine Ym (P:=λz=>sP z/\z.Perm (((x.bT.take k).flatMap λn=>n.aT.filter<|λp=>decide<|pF a p<0)++((x.bT[k].aT.take j).filter (λp=>decide<|pF a p<0)++if decide (pF a x.bT[k].aT[j]<0)=true then [x.bT[k].aT[j]]else []))) ?_<|λz hz=>YK ⟨bR (by omega),hz⟩
   refine YW (λh=>?_)<|λh=>V_ ⟨hw,by rw[h];simpa using hp⟩
   rw[aA,cK hq,aA,aG h];obtain⟨c,hc,hcw⟩:=O5 (N:=N) (l:=u1) (p:=x.bT[k].aT[j]) (by omega) hw hN;rw[hc,aA];exact V_ ⟨hcw,(O4 _ _ _).trans (by rw[<-kK];exact hp.append_right _)⟩
  ·rintro⟨u1,u2⟩e⟨hw,hp⟩;dsimp only at e hw hp ⊢;subst e;rw[cK hn,aA,pI,aR];refine YO ⟨hw,?_⟩;rw[dK]at hp;rw[lD hk];exact hp
  ·intro o ho;exact YS ho (λs hs=>YK ⟨bR (by omega),hs⟩)<|λr h=>h.elim
 ·rintro⟨s1,s2⟩e⟨hw,hp⟩;dsimp only at e hw hp ⊢;subst e;rw[pI,aR];rw[dK]at hp;exact YO<|LV hp hw
 intro o ho;refine YS ho ?_<|λr h=>h.elim
 rintro⟨s1,s2⟩hs;dsimp only at hs ⊢;subst hs;refine ZF (by simp) ?_;rw[List.nil_append];have w1:=tv 1<|rp<|rW a x
 show Ok ((iL _ N (gs,qo 1<|rp<|rW a x,0)).bind _) _;rw[show((gs,qo 1<|rp<|rW a x,(0:Int)):Z bG×Z cI×Int)=(gs,qo 1 (rp<|rW a x)++(x.bT.take 0).flatMap (rX<|BB a (dJ 0 fU) r),((0:Nat):Int))by simp];refine X_ (L1 (n:=x.bT.length) (λk=>(gs,qo 1 (rp<|rW a x)++(x.bT.take k).flatMap (rX<|BB a (dJ 0 fU) r),((k:Nat):Int))) (λk hk=>?_) ?_ (by omega)) ?_
 ·have hn:x.bT[k]? =some x.bT[k]:=aM hk;have hpl:=(ok.zd _<|cP hk).2;have l2:=jN (rX<|BB a (dJ 0 fU) r) 1 x.bT k<|λn _=>va _ n
  refine Y9 ?_;dsimp only;rw[jT hk,aO,cK hn,aA,O7 b (by omega) hN,aA];dsimp only;rw[aA];refine ZF (by rw[dC];omega)<|V_ ?_
  rw[bR (by omega),lD hk,Na,kK]
 ·dsimp only;rw[pI,aR]
 simp only[Fo.cs];rw[dK];have l2:=nr (rX<|BB a (dJ 0 fU) r) 1 x.bT<|λn _=>va _ n
 have e0:qo 1 (rp<|rW a x)++x.bT.flatMap (rX<|BB a (dJ 0 fU) r)=qo 1 (rp<|rW a x)++x.bT.flatMap (rX<|BB a (dJ 0 fU) r)++(gs.take 0).flatMap (uh t x):=by simp
 rw[e0];refine X_ (L1 (n:=gs.length) (λk=>(qo 1 (rp<|rW a x)++x.bT.flatMap (rX<|BB a (dJ 0 fU) r)++(gs.take k).flatMap (uh t x),((k:Nat):Int))) (λk hk=>?_) ?_ (by omega)) ?_
 ·have hgx:gs[k]? =some gs[k]:=aM hk;have hgp:=(J6 b.QC hgx).2.2;have l3:=jN (uh t x) 1 gs k<|λg _=>vV t x g
  refine Y9 ?_;dsimp only;rw[jT hk,aO];refine Ym (P:=Ra (λs=>Sd t x gs[k].aT s)<|λ_=>False) (Zc (n:=gs[k].aT.length) (λs:Z cD×Z bC×Int×Int=>s.2.2.2) (λj(s:Z cD×Z bC×Int×Int)=>Sd t x (gs[k].aT.take j) s) ?_ ?_ (dH _) rfl ⟨λi j u v _ h=>by simp at h,λq=>by simp,by simp,rfl,rfl⟩ (by omega)) ?_
  ·rintro j⟨u1,u2,u3,u4⟩hj e hI;dsimp only at e ⊢;subst e;obtain⟨i1,i2,i3,i4,i5⟩:=hI;dsimp only at i1 i2 i3 i4 i5;have hq:gs[k].aT[j]? =some gs[k].aT[j]:=aM hj;have hfl:((gs[k].aT.take j).filter<|Ci t x).length<=j:=lh (iW _ _) (by rw[cN];omega);have hfl2:((gs[k].aT.take j).filter<|LY t x).length<=j:=lh (iW _ _) (by rw[cN];omega);rw[cN]at i3;have hlt:(gs[k].aT.take<|j+1).length=j+1:=by rw[cN];omega
   have hmem:∀(P:bC->Prop),(∃p∈gs[k].aT.take (j+1),P p)↔(∃p∈gs[k].aT.take j,P p)\/P gs[k].aT[j]:=λP=>by
    rw[dN hj];simp only[dP,mA];exact⟨λ⟨p,hp,h⟩=>hp.elim (λh1=> .inl ⟨p,h1,h⟩)<|λh1=> .inr<|h1▸h,λh=>h.elim (λ⟨p,h1,h2⟩=>⟨p, .inl h1,h2⟩)<|λh=>⟨_, .inr rfl,h⟩⟩
   rw[cK hgx,aA,jT hj,aO,aA,cK hq,aA,isp,aA];refine YW (λh=>YK ⟨bR (by omega),⟨i1,λq=>?_,by dsimp only;omega,?_,?_⟩⟩)<|λh=>?_
   ·have hnp:Ci t x gs[k].aT[j]=false:=by simpa using h
    have hni:HX x gs[k].aT[j]=false:=by unfold Ci at hnp;rw[Bool.or_eq_false_iff]at hnp;exact hnp.1
    rw[hmem,i2];exact⟨.inl,λh=>h.elim id λh=>by rw[hni]at h;cases h.1⟩
   ·have hnp:Ci t x gs[k].aT[j]=false:=by simpa using h
    dsimp only;rw[gC hj,i4,hnp];simp
   ·have hnp:Ci t x gs[k].aT[j]=false:=by simpa using h
    have hnq:LY t x gs[k].aT[j]=false:=by
     unfold Ci at hnp;rw[Bool.or_eq_false_iff]at hnp;unfold LY;rw[hnp.2,Bool.and_false]
    dsimp only;rw[gC hj,i5,hnq];simp
   ·have hip:Ci t x gs[k].aT[j]=true:=by simpa using h
    subst i4;refine Y2 (by simp only[dO,List.length_nil];omega)<|X_ (O6 ok _ hN) ?_
    cases hin:HX x gs[k].aT[j]with
    |true=>
     rw[aG rfl,L2 ok hin,qp,aO];obtain⟨m,hm,m1,m2,m3⟩:=Q3 (N:=N) (l:=u1) (s:=nameOf x gs[k].aT[j]) (by omega) i1 hN;rw[hm,aA,aA];refine YK ⟨bR (by omega),⟨m1,λq=>?_,by dsimp only;omega,?_,?_⟩⟩
     ·rw[hmem,m2,i2];exact⟨λh=>h.elim .inl λh=> .inr ⟨hin,h⟩,λh=>h.elim .inl λh=> .inr h.2⟩
     ·dsimp only;rw[gC hj,hip,aG rfl]
     ·have hnq:LY t x gs[k].aT[j]=false:=by unfold LY;rw[hin];rfl
      dsimp only;rw[gC hj,i5,hnq];simp
    |false=>
     rw[aK (by simp)];have he:(⟨[]⟩:cD).kj ⟨[]⟩=true:=rfl;rw[he,lT,aR,aA];refine YK ⟨bR (by omega),⟨i1,λq=>?_,by dsimp only;omega,?_,?_⟩⟩
     ·rw[hmem,i2];exact⟨.inl,λh=>h.elim id λh=>by rw[hin]at h;cases h.1⟩
     ·dsimp only;rw[gC hj,hip,aG rfl]
     ·have hq2:LY t x gs[k].aT[j]=true:=by
       unfold Ci at hip;rw[hin,Bool.false_or]at hip;unfold LY;rw[hin,hip];rfl
      dsimp only;rw[gC hj,i5,hq2,aG rfl,dC,bR (by omega)];rfl
  ·rintro⟨u1,u2,u3,u4⟩e hI;dsimp only at e ⊢;subst e;rw[dK]at hI;rw[cK hgx,aA,pI,aR];exact YO ⟨hI.sorted,hI.mem,hI.zq,hI.pins,hI.loose⟩
  ·intro o ho;refine YS ho ?_<|λr h=>h.elim
   rintro⟨u1,u2,u3,u4⟩hI;have hk2:=hI.keys (by omega);have hfl2:(gs[k].aT.filter<|LY t x).length<=gs[k].aT.length:=iW _ _;have TW:=(Ek (t:=t) (x:=x) gs[k].aT).1;have h4:=hI.pins;have h5:=hI.loose;dsimp only at hk2 h4 h5 ⊢;subst hk2;subst h4;subst h5;rw[wrap_add (by rw[M6];omega),M6];refine ZF (by rw[dC,dC];omega)<|V_ ?_
   rw[bR (by omega),lD hk,kK<|qo 1 (rp<|rW a x)++x.bT.flatMap (rX<|BB a (dJ 0 fU) r)];rfl
 ·dsimp only;rw[pI,aR]
 simp only[Fo.cs];rw[dK];have l3:=nr (uh t x) 1 gs<|λg _=>vV t x g
 refine X_ (L1 (n:=a.bW.length) (λk=>(((a.bW.take k).map j8).filter<|λp=> !Ci t x p,((k:Nat):Int))) (λk hk=>?_) ?_ (by omega)) ?_
 ·have hx:a.bW[k]? =some a.bW[k]:=aM hk;have l1:(((a.bW.take k).map j8).filter<|λp=> !Ci t x p).length<=1000000:=lh (iW _ _) (by rw[dQ,cN];omega);refine Y9 ?_;dsimp only;rw[jT hk,aO,cK hx,aA,aA,show(⟨a.bW[k].Part,a.bW[k].bC⟩:bC)=j8 a.bW[k]from rfl,isp,aA];refine ZF (by omega)<|V_ ?_
  rw[bR (by omega),dN hk,fX,List.filter_append]
  cases h:Ci t x (j8 a.bW[k]) <;> simp[h]
 ·dsimp only;rw[pI,aR]
 simp only[Fo.cs];rw[dK];refine ZF (by rw[dC,dC];omega)<|V_ ?_
 rfl
def H0{w:cI}(h1:w.bT.length<=4611686018427387904)(h2:w.aT.length<=4611686018427387904):ir N w w=some true:=by
 unfold ir;have e1:lO N w.bT w.bT=some true:=by
  have:=Bi (l:=w.bT) (m:=w.bT) (by omega);rw[bS rfl]at this;refine Eq.trans ?_ this;unfold lO JD;simp only[nG]
 have e2:qA N w.aT w.aT=some true:=by
  have:=Bi (l:=w.aT) (m:=w.aT) (by omega);rw[bS rfl]at this;exact this
 rw[beq_self_eq_true,aO,e1,aA,aO,e2];rfl
def yc(hbt:bk t<=1048576)(hbx:bk x<=1048576)(ha:bk a<=1048576)(hN:4398046511104<=N):eZ N t x a=some true:=by
 have fin:∀(W:Z cI)(f:Int),fZ N t x a=some (W,f)->fW N t x a=some (W,f)->W.length<=4611686018427387904->(∀w∈W,w.bT.length<=4611686018427387904/\w.aT.length<=4611686018427387904)->eZ N t x a=some true:=λW f h1 h2 hl hw=>by
  have e:gN N W W (ir N)=some true:=Q1 hl λw h=>H0 (hw w h).1 (hw w h).2;have aw:iU N=some true:=TG (by omega);unfold eZ;rw[h1,h2,aA,aA];simp only[e,aA,beq_self_eq_true,Bool.and_self,aO,aw]
 by_cases hck:iw t x=0
 ·rcases checked (N:=N) (Lu ha) hN with⟨e,he,h1,h2⟩| @⟨oc,fU,r,gs,ofP,ofB,tZ,u9,b,h1,h2⟩
  ·have hb:(e != 0)=true:=by simpa using he
   refine fin [] e ?_ ?_ (dH _) (λw hw=>by cases hw)
   ·unfold fZ kc;rw[tY hbt hbx (by omega),aA,hck,show((0:Int) != 0)=false from rfl,aR,h1];simp only[O8,hb,aO,aA]
   ·unfold fW;rw[tu hbt hbx (by omega),aA,hck,show((0:Int) != 0)=false from rfl,aR,h2,aA,hb,aO]
  ·have ok:=uO hck;have hfn:=ok.Ei;have hgl:=(MX b.QC).2;have hf:=b.zq.2;have hbl:=b.Eb.gb.len;have hlf:=b.D9.zq;have l1:=tv 1<|rp<|rW a x
   have l2:=nr (rX<|BB a (dJ 0 fU) r) 1 x.bT<|λn _=>va _ n
   have l3:=nr (uh t x) 1 gs<|λg _=>vV t x g
   have l4:=tv 4<|Ke t x a
   refine fin _ 0 (HY hbt (Kb hbx) hck b h1 hN) (L3 hbt hbx hck b h2 hN) (by unfold QZ;simp only[dC];omega)<|λw hw=>?_
   have hm:(rW a x).length<=500000:=by
    have:=BD (a:=a) ok x.bT.length;rwa[dK]at this
   unfold QZ at hw;simp only[dP]at hw
   rcases hw with((hw|hw)|hw)|hw
   ·unfold qo at hw;split at hw
    ·rw[mA]at hw;subst hw;exact⟨dH _,by dsimp only;rw[(HU _).length_eq];omega⟩
    ·cases hw
   ·obtain⟨n,hn,hw⟩:=List.mem_flatMap.1 hw;have hpl:=(ok.zd n hn).2;unfold rX at hw;split at hw
    ·rw[mA]at hw;subst hw;have:(TD (BB a (dJ 0 fU) r) n.aT).length<=n.aT.length:=by
      unfold TD;split
      ·exact dH _
      ·exact Gc _ _
     exact⟨by simp,by dsimp only;omega⟩
    ·cases hw
   ·obtain⟨g,hg,hw⟩:=List.mem_flatMap.1 hw;obtain⟨i,hi⟩:=dD hg;have hgp:=(J6 b.QC hi).2.2;unfold uh at hw;split at hw
    ·rw[mA]at hw;subst hw;have h1:=(Ek (t:=t) (x:=x) g.aT).1;have h3:(g.aT.filter<|Ci t x).length<=g.aT.length:=iW _ _;exact⟨by dsimp only;rw[M6];omega,by dsimp only;omega⟩
    ·cases hw
   ·unfold qo at hw;split at hw
    ·rw[mA]at hw;subst hw;have:(Ke t x a).length<=a.bW.length:=by
      unfold Ke;exact lh (iW _ _) (by rw[dQ];exact cG _)
     exact⟨dH _,by dsimp only;omega⟩
    ·cases hw
 ·have hb:(iw t x != 0)=true:=by simpa using hck
  refine fin [] (iw t x) ?_ ?_ (dH _) (λw hw=>by cases hw)
  ·unfold fZ kc;rw[tY hbt hbx (by omega),aA,hb,aO];simp only[O8,hb,aO,aA]
  ·unfold fW;rw[tu hbt hbx (by omega),aA,hb,aO]
end
end Go.Gk
