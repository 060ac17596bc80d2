/-
  Helping texts: plain functions and plain laws. No statement of the seed is proved here.
-/
import Derived.Test.YthjjhaommlojiaaGreatDoorE2
import Derived.Test.YthjjhaommlojiaaGreatDoorA2
set_option linter.unusedVariables false
set_option linter.unusedSimpArgs false
set_option linter.unusedSectionVars false
namespace Go.Gk
open Go IntKind Classical
theorem mW.congr{A A':Nat->Nat->Prop}{s:Nat}{F:Nat->Option Nat}(h:∀a b,A a b↔A' a b)(hF:mW A s F):mW A' s F:=by
 have e:A=A':=funext λa=>funext λb=>propext<|h a b
 rw[<-e];exact hF
theorem pQ{l:List Nat}{k x:Nat}(h:l[k]? =some x):(ints l)[k]? =some ((x:Nat):Int):=by unfold ints;rw[eR,h];rfl
section
variable {N n m:Nat}{tch:List (List Int)}{rs:List (List aH)}
theorem CV(h:tp n m tch)(hr:rs.length=n){v:Nat}(hv:v<n+m)(hN:4398046511104<=N):eW N rs tch ((v:Nat):Int)=some (ints<|dU n tch v):=by
 have hn:=h.nb;have hm:=h.mb;have hl:=h.len;unfold eW;rw[hr]
 by_cases hvn:v<n
 ·rw[bQ (by omega),aM];refine RD ?_;refine QJ (Rw (n:=tch.length) (λst=>st.2) (λk st=>st.1=ints (((List.range k).filter<|λk=>decide<|((v:Nat):Int)∈tch.getD k []).map<|λk=>n+k)) (Go:=λst=>st.1=ints (dU n tch v)) (Rt:=λ_=>False) ?_ ?_ (dJ _) rfl rfl (by omega)) ?_
  ·rintro k⟨s,kk⟩hk e hI;dsimp only at e hI ⊢;subst e;subst hI;rw[j8 hk,aK];have hx:tch[k]? =some tch[k]:=aQ hk;have hf:=h.w5 _<|cC hk
   have hg:tch.getD k []=tch[k]:=by rw[List.getD_eq_getElem?_getD,hx];rfl
   have hlen:(ints<|((List.range k).filter<|λk=>decide<|((v:Nat):Int)∈tch.getD k []).map<|λk=>n+k).length<=k:=by
    rw[gX,cE];have:=kP (λk=>decide<|((v:Nat):Int)∈tch.getD k [])<|List.range k
    rwa[List.length_range]at this
   refine QU hx<|QD (rI (by omega) hN) ?_
   refine QJ (P:=λs=>s=ints (((List.range<|k+1).filter<|λk=>decide<|((v:Nat):Int)∈tch.getD k []).map<|λk=>n+k)) (Q8 (λhc=>?_)<|λhc=>QC ?_)<|λs hs=>Q4 ⟨bL (by omega),hs⟩
   ·rw[wrap_add (by omega)];refine Rp (by simp only[cS,List.length_nil];omega)<|QC ?_
    rw[List.range_succ,jq,List.filter_cons_of_pos (p:=λk=>decide<|((v:Nat):Int)∈tch.getD k []) (by rw[hg];exact hc),List.filter_nil,dG,mg];rfl
   ·rw[List.range_succ,jq,List.filter_cons_of_neg (p:=λk=>decide<|((v:Nat):Int)∈tch.getD k []) (by rw[hg,hc];exact ka),List.filter_nil,lF]
  ·rintro⟨s,kk⟩e hI;dsimp only at e hI ⊢;subst e;rw[l8,aM];refine Q9 ?_;dsimp only;rw[hI];unfold dU;rw[aC hvn]
  intro o ho;exact Ra ho (λst hst=>QC hst)<|λr hr=>hr.elim
 ·have hk:v - n<tch.length:=by omega
  have hx:tch[v - n]? =some tch[v - n]:=aQ hk;have hf:=h.w5 _<|cC hk
  have hnat:=h.nat _<|cC hk
  rw[bJ (by omega),aK,u7 (by omega),show((v:Nat):Int) -((n:Nat):Int)=((v - n:Nat):Int)by omega,dC hx,aB,j6 (by simp only[List.length_nil];omega),aB,List.nil_append];unfold dU;rw[aF hvn,List.getD_eq_getElem?_getD,hx,Option.getD_some];congr 1;unfold ints;rw[List.map_map]
  conv=>lhs;rw[<-List.map_id tch[v - n]]
  refine List.map_congr_left λx hx=>?_;obtain⟨i,_,e⟩:=hnat x hx;rw[e];simp
theorem Iq{t:Nat}(ht:t<=2000000)(hN:4398046511104<=N):
  Ok (iC (λ(s34:List Int×Int)=>(bif decide (s34.2<(s34.1.length:Int))then((idx s34.1 s34.2).bind λx37=>some<|.nx (s34.1.set (Int.toNat s34.2)<|-1,wrap .i64<|s34.2+1))else(some<|.br (s34.1,s34.2)):Option (Fl (List Int×Int) Empty))) N (List.replicate t 0,0)) (MJ (λst=>st.1=List.replicate t (-1)) (λ_:Empty=>False)):=by
 refine Rw (n:=t) (λst=>st.2) (λq st=>st.1.length=t/\∀x,x<t->st.1[x]? =some (if x<q then -1 else 0)) ?_ ?_ (dJ _) rfl ⟨by simp,λx hx=>by simp[hx]⟩ (by omega)
 ·rintro q⟨u,qq⟩hq e⟨h1,h2⟩;dsimp only at e h1 h2 ⊢;subst e;rw[h1,j8 hq,aK];refine QU (h2 q hq)<|Q4 ⟨bL (by omega),by dsimp only;rw[jk];exact h1,λx hx=>?_⟩
  dsimp only;rw[cB]
  by_cases e:q=x
  ·subst e;rw[List.getElem?_set_self (by omega),aC (by omega)]
  ·rw[List.getElem?_set_ne e,h2 x hx];congr 1
   by_cases h3:x<q
   ·rw[aC h3,aC (by omega)]
   ·rw[aF h3,aF (by omega)]
 ·rintro⟨u,qq⟩e⟨h1,h2⟩;dsimp only at e h1 h2 ⊢;subst e;rw[h1,l8,aM];refine Q9 ?_;dsimp only;refine List.ext_getElem? λx=>?_
  by_cases hx:x<t
  ·rw[h2 x hx,aC hx,List.getElem?_replicate,aC hx]
  ·rw[List.getElem?_eq_none (by omega),List.getElem?_eq_none (by simp;omega)]
theorem Hx(h:tp n m tch)(hr:rs.length=n)(s:Int)(hN:4398046511104<=N):dK N rs tch s s=some (List.replicate (n+m)<|-1):=by
 have hn:=h.nb;have hm:=h.mb;refine RD ?_;unfold dK;rw[hr,h.len,wrap_add (by omega)];refine QD (qo 0 (by omega))<|QJ (Iq (N:=N) (t:=n+m) (by omega) hN)<|λo ho=>Ra ho ?_<|λr hr=>hr.elim
 rintro⟨u0,q0⟩hu0;dsimp only at hu0 ⊢;subst hu0;rw[BEq.rfl,aK];exact QC rfl
theorem Au(h:tp n m tch)(hr:rs.length=n){s:Nat}(hs:s<n+m){w:Int}(hw:((s:Nat):Int)≠w)(hN:4398046511104<=N):
  ∃F,dK N rs tch ((s:Nat):Int) w=some (vl (n+m) F)/\mW (λu v=>v∈dU n tch u/\((v:Nat):Int)≠w) s F/\∀v d,F v=some d->v<n+m/\d<n+m:=by
 have hn:=h.nb;have hm:=h.mb
 suffices hh:Ok (dK N rs tch ((s:Nat):Int) w) (λS=>∃F,S=vl (n+m) F/\mW (λu v=>v∈dU n tch u/\((v:Nat):Int)≠w) s F/\∀v d,F v=some d->v<n+m/\d<n+m)by
  obtain⟨S,h1,F,h2,h3,h4⟩:=hh;exact⟨F,by rw[h1,h2],h3,h4⟩
 generalize hA:(λu v=>v∈dU n tch u/\((v:Nat):Int)≠w)=A;unfold dK;rw[hr,h.len,wrap_add (by omega)];refine QD (qo 0 (by omega))<|QJ (Iq (N:=N) (t:=n+m) (by omega) hN)<|λo ho=>Ra ho ?_<|λr hr=>hr.elim
 rintro⟨u0,q0⟩hu0;dsimp only at hu0 ⊢;subst hu0;rw[show(((s:Nat):Int)==w)=false by rw[beq_eq_false_iff_ne];exact hw,aM];have hsx:(List.replicate (n+m) (-1:Int))[s]? =some (-1):=by rw[List.getElem?_replicate,aC hs]
 refine QU hsx ?_;rw[cB,Hv hs]
 refine QJ (RJ (λst=>∃F ord p,BQ A s (n+m) F ord p/\p<=ord.length/\st.1=vl (n+m) F/\st.2.1=ints ord/\st.2.2=((p:Nat):Int)) (λst=>n+m - st.2.2.toNat)
  (Go:=λst=>∃F ord p,BQ A s (n+m) F ord p/\ord.length<=p/\st.1=vl (n+m) F) (Rt:=λ_=>False) ?_ ⟨_,[s],0,BQ.start A hs,by simp,rfl,rfl,rfl⟩ (by dsimp only;omega)) ?_
 ·rintro⟨S,td,pp⟩⟨F,ord,p,hB,hp,e1,e2,e3⟩;dsimp only at e1 e2 e3 ⊢;subst e1;subst e2;subst e3;have hol:=hB.len;rw[gX]
  by_cases hpl:p<ord.length
  ·rw[j8 hpl,aK];have hu:ord[p]? =some ord[p]:=aQ hpl;have hul:=hB.lt _<|cC hpl
   obtain⟨d,hd⟩:∃d,F ord[p]=some d:=by
    have:=(hB.mem ord[p]).2<|cC hpl
    cases hf:F ord[p]with
    |none=>exact absurd hf this
    |some d=>exact⟨d,rfl⟩
   refine QU (pQ hu)<|QD (CV h hr hul hN) ?_
   have qx:=Bt h ord[p];generalize ord[p]=u at *;rw[gX]
   refine QJ (Rw (n:=(dU n tch u).length) (λst=>st.2.2) (λj st=>∃F' ord',BQ A s (n+m) F' ord' p/\p<ord'.length/\st.1=vl (n+m) F'/\st.2.1=ints ord'/\ord'[p]? =some u/\F' u=some d/\∀(i v:Nat),i<j->(dU n tch u)[i]? =some v->A u v->F' v≠none)
    (Go:=λst=>∃F' ord',BQ A s (n+m) F' ord' p/\p<ord'.length/\st.1=vl (n+m) F'/\st.2.1=ints ord'/\ord'[p]? =some u/\F' u=some d/\∀v,A u v->F' v≠none) (Rt:=λ_=>False) ?_ ?_ (dJ _) rfl ⟨F,ord,hB,hpl,rfl,rfl,hu,hd,λi v hi=>by omega⟩ (by omega)) ?_
   ·rintro j⟨S',td',jj⟩hj e⟨F',ord',b1,b2,b3,b4,b5,b6,b7⟩;dsimp only at e b3 b4 ⊢;subst e;subst b3;subst b4;rw[j8 hj,aK];have hxa:(dU n tch u)[j]? =some (dU n tch u)[j]:=aQ hj;have hxm:(dU n tch u)[j]∈dU n tch u:=cC hj;have hxl:=Ht h hxm;have hx:=pQ hxa;generalize (dU n tch u)[j]=v at *;have gT:∀{F2:Nat->Option Nat},(∀x,F' x≠none->F2 x≠none)->(A u v->F2 v≠none)->∀(i x:Nat),i<j+1->(dU n tch u)[i]? =some x->A u x->F2 x≠none:=λ{F2}g1 g2 i x hi hix hax=>by
     by_cases e:i<j
     ·exact g1 x<|b7 i x e hix hax
     ·have:i=j:=by omega
      subst this;rw[hxa]at hix;injection hix with hix
      subst hix;exact g2 hax
    have ob:=b1.len
    by_cases hvw:((v:Nat):Int)=w
    ·refine QD (x:=false) (by rw[dC hx,aB,hvw,bne_self_eq_false,aM]) ?_;rw[aM];exact Q4 ⟨bL (by omega),F',ord',b1,b2,rfl,rfl,b5,b6,gT (λx hx=>hx) (λha=>by rw[<-hA]at ha;exact absurd hvw ha.2)⟩
    have hAuv:A u v:=by rw[<-hA];exact⟨hxm,hvw⟩
    have hc1:((idx (ints<|dU n tch u) ((j:Nat):Int)).bind λx308=>bif x308 != w then((idx (ints<|dU n tch u) ((j:Nat):Int)).bind λx310=>(idx (vl (n+m) F') x310).bind λx311=>some<|decide<|x311<0)else some false)=some (decide<|dst F' v<0):=by
     rw[dC hx,aB,show(((v:Nat):Int) != w)=true by rw[bne_iff_ne];exact hvw,aK,aB,dC<|qu F' hxl,aB]
    refine QD hc1 ?_
    cases hfv:F' v with
    |some e=>
     rw[qO hfv,bQ (by omega),aM];exact Q4 ⟨bL (by omega),F',ord',b1,b2,rfl,rfl,b5,b6,gT (λx hx=>hx) (λ_=>by rw[hfv];exact λh=>by cases h)⟩
    |none=>
     have hpush:=b1.push b5 b6 hAuv hxl hfv;have hpb:=b1.bound b6;have hpl2:=hpush.len;rw[dB,cS,List.length_nil]at hpl2;have hvu:v≠u:=λe=>by rw[e,b6]at hfv;cases hfv
     rw[bJ<|ED.2 hfv,aK];refine QJ (P:=λs=>s=(vl (n+m) (λx=>if x=v then some (d+1)else F' x),ints<|ord'++[v])) (QU hx<|QU (pQ b5)<|QU (qu F'<|b1.lt u<|(b1.mem u).1 (by rw[b6];exact λh=>by cases h))<|QU (qu F' hxl)<|QU hx<|Rp (by rw[gX];simp only[cS,List.length_nil];omega)<|QC ?_)<|λs hs=>Q4 ⟨bL (by omega),_,_,hpush,by rw[dB];omega,by rw[hs],by rw[hs],?_,?_,gT (λx hx=>?_)<|λ_=>?_⟩
     ·rw[qO b6,bL (by omega),cB,Gu hxl,mg];rfl
     ·rw[gp b2];exact b5
     ·rw[aF<|Ne.symm hvu];exact b6
     ·by_cases e:x=v
      ·rw[aC e];exact λh=>by cases h
      ·rw[aF e];exact hx
     ·rw[aC rfl];exact λh=>by cases h
   ·rintro⟨S',td',jj⟩e⟨F',ord',b1,b2,b3,b4,b5,b6,b7⟩;dsimp only at e b3 b4 ⊢;subst e;rw[l8,aM];refine Q9 ⟨F',ord',b1,b2,b3,b4,b5,b6,λv hv=>?_⟩;have hv':=hv;rw[<-hA]at hv';obtain⟨i,hi⟩:=dN hv'.1;exact b7 i v (aZ.1 hi).1 hi hv
   intro o ho;refine Ra ho ?_<|λr hr=>hr.elim
   rintro⟨S',td',jj⟩⟨F',ord',b1,b2,b3,b4,b5,b6,b7⟩;dsimp only at b3 b4 ⊢;have ob:=b1.len;refine Q4 ⟨⟨F',ord',p+1,b1.next b5 b6 b7,by omega,b3,b4,bL (by omega)⟩,?_⟩;dsimp only;rw[bL (by omega)];simp only[cB];omega
  ·rw[wB (by omega),aM];exact Q9 ⟨F,ord,p,hB,by omega,rfl⟩
 intro o ho;refine Ra ho ?_<|λr hr=>hr.elim
 rintro⟨S,td,pp⟩⟨F,ord,p,hB,hp,e1⟩;dsimp only at e1 ⊢;exact QC ⟨F,e1,hB.done hp,λv d hv=>⟨hB.lt v<|(hB.mem v).1 (by rw[hv];exact λh=>by cases h),hB.bound hv⟩⟩
theorem CW(hr:rs.length=n)(hn:n<=1000000){L:List Nat}(hL:L.length<=2000000)(hb:∀v∈L,v<=2000000)(hN:4398046511104<=N):fH N rs (ints L)=some (L.map<|dF n):=by
 refine RD ?_;unfold fH;rw[gX];refine QJ (Rw (n:=L.length) (λst=>st.2) (λk st=>st.1=(L.take k).map (dF n)) (Go:=λst=>st.1=L.map (dF n)) (Rt:=λ_=>False) ?_ ?_ (dJ _) rfl rfl (by omega)) ?_
 ·rintro k⟨s,kk⟩hk e hI;dsimp only at e hI ⊢;subst e;subst hI;rw[j8 hk,aK];have hx:L[k]? =some L[k]:=aQ hk;have hbk:=hb _<|cC hk
  have hh:jf N rs ((L[k]:Nat):Int)=some (dF n L[k]):=by
   unfold jf dF;rw[hr]
   by_cases hlt:L[k]<n
   ·rw[j8 hlt,aK,aC hlt]
   ·rw[wB (by omega),aM,aF hlt,u7 (by omega),show((L[k]:Nat):Int) -((n:Nat):Int)=((L[k] - n:Nat):Int)by omega]
  have hlen:((L.take k).map<|dF n).length<=k:=by rw[cE];exact List.length_take_le _ _
  refine QU (pQ hx)<|QD hh<|Rp (by simp only[cS,List.length_nil];omega)<|Q4 ⟨bL (by omega),?_⟩
  dsimp only;rw[eD hk,dG];rfl
 ·rintro⟨s,kk⟩e hI;dsimp only at e hI ⊢;subst e;rw[l8,aM];rw[eM]at hI;exact Q9 hI
 intro o ho;exact Ra ho (λst hst=>QC hst)<|λr hr=>hr.elim
theorem Kz(h:tp n m tch)(hr:rs.length=n){x y:Nat}{F:Nat->Option Nat}(hF:mW (λu v=>v∈dU n tch u) y F)(hFb:∀v d,F v=some d->v<n+m/\d<n+m){d:Nat}(hd:F x=some d)(hN:4398046511104<=N):
  Ok (iC (λ(s52:Int×List Int)=>((idx (vl (n+m) F) s52.1).bind λx190=>bif decide (x190>0)then((eW N rs tch s52.1).bind λx191=>(iC (λ(s194:Int×Int)=>(bif decide (s194.2<(x191.length:Int))then(((idx x191 s194.2).bind λx243=>(idx (vl (n+m) F) x243).bind λx244=>(idx (vl (n+m) F) s52.1).bind λx245=>bif x244==wrap .i64 (x245 - 1)then(bif decide (s194.1<0)then some true else((idx x191 s194.2).bind λx248=>some<|decide<|x248<s194.1))else some false).bind λs242=>(bif s242 then((idx x191 s194.2).bind λx251=>some x251)else some s194.1).bind λs250=>some<|.nx (s250,wrap .i64<|s194.2+1))else(some<|.br (s194.1,s194.2)):Option (Fl (Int×Int) Empty))) N ((-1),0)).bind λo255=>o255.cs (λ(s194:Int×Int)=>(app 8 s52.2 ([s194.1]:List Int)).bind λx253=>some<|.nx (s194.1,x253))<|λr=>r.elim)else(some<|.br (s52.1,s52.2)):Option (Fl (Int×List Int) Empty))) N (((x:Nat):Int),([((x:Nat):Int)]:List Int))) (MJ (λst=>st.2=ints (oG (dU n tch) F d x)) (λ_:Empty=>False)):=by
 have hn:=h.nb;have hm:=h.mb;have hAs:∀u v,(λu v=>v∈dU n tch u) u v->u∈dU n tch v:=λu v huv=>wH h huv;obtain⟨_,hdl⟩:=hFb x d hd;refine RJ (λst=>∃u e,F u=some e/\e<=d/\st.1=((u:Nat):Int)/\st.2.length+e=d+1/\st.2++ints ((oG (dU n tch) F e u).tail)=ints (oG (dU n tch) F d x)) (λst=>(dst F st.1.toNat).toNat) ?_ ⟨x,d,hd,bV _,rfl,by simp;omega,?_⟩ ?_
 ·rintro⟨c,out⟩⟨u,e,h1,h2,h3,h4,h5⟩;dsimp only at h3 h4 h5 ⊢;subst h3;obtain⟨hul,_⟩:=hFb u e h1;have hxu:=qu (t:=n+m) F hul;rw[qO h1]at hxu;refine QU hxu ?_
  cases e with
  |zero=>
   rw[bQ (by omega),aM];refine Q9 ?_;dsimp only;rw[<-h5];unfold oG;simp[ints]
  |succ e=>
   rw[bJ (by omega),aK];obtain⟨w1,w2,w3⟩:=CS (adj:=dU n tch) hF hAs h1;refine QD (CV h hr hul hN) ?_;have qx:=Bt h u;have hup:=MT h u;have hle:=Gv (p:=λv=>decide<|F v=some e) hup;rw[w3,Option.elim_some]at hle;rw[gX];refine QJ (Rw (n:=(dU n tch u).length) (λst=>st.2) (λj st=>st.1=vm (λv=>decide<|F v=some e) ((dU n tch u).take j)) (Go:=λst=>st.1=((xR (dU n tch) F e u:Nat):Int)) (Rt:=λ_=>False) ?_ ?_ (dJ _) rfl rfl (by omega)) ?_
   ·rintro j⟨b,jj⟩hj e' hI;dsimp only at e' hI ⊢;subst e';subst hI;rw[j8 hj,aK];have hxa:(dU n tch u)[j]? =some (dU n tch u)[j]:=aQ hj;have hxm:(dU n tch u)[j]∈dU n tch u:=cC hj;have hxl:=Ht h hxm;have hx:=pQ hxa;have hsucc:=Gw (p:=λv=>decide<|F v=some e) hj;rw[hsucc];generalize (dU n tch u)[j]=v at *;generalize vm (λv=>decide<|F v=some e) ((dU n tch u).take j)=b at *;refine QD (x:=decide<|F v=some e/\(b<0\/((v:Nat):Int)<b)) ?_<|QJ (P:=λs=>s=if decide (F v=some e)=true/\(b<0\/((v:Nat):Int)<b)then((v:Nat):Int)else b) (Q8 (λhc=>QU hx<|QC ?_)<|λhc=>QC ?_)<|λs hs=>Q4 ⟨bL (by omega),hs⟩
    ·rw[dC hx,aB,dC<|qu F hxl,aB,dC hxu,aB,iH (by omega) (by omega)];simp only[yv]
     by_cases hfe:F v=some e
     ·rw[qO hfe,BEq.rfl,aK]
      by_cases hb0:b<0
      ·rw[bJ hb0,aK,bJ ⟨hfe, .inl hb0⟩]
      ·rw[bQ hb0,aM,aB];congr 1;rw[decide_eq_decide];exact⟨λh=>⟨hfe, .inr h⟩,λh=>h.2.resolve_left hb0⟩
     ·rw[show(dst F v==((e:Nat):Int))=false by rw[beq_eq_false_iff_ne];exact λh=>hfe<|MS.1 h,aM,bQ<|λh=>hfe h.1]
    ·have hc:=of_decide_eq_true hc;rw[aC ⟨bJ hc.1,hc.2⟩]
    ·have hc:=of_decide_eq_false hc;rw[aF<|λh=>hc ⟨of_decide_eq_true h.1,h.2⟩]
   ·rintro⟨b,jj⟩e' hI;dsimp only at e' hI ⊢;subst e';rw[l8,aM];refine Q9 ?_;dsimp only;rw[hI,eM,hle]
   intro o ho;refine Ra ho ?_<|λr hr=>hr.elim
   rintro⟨b,jj⟩hb;dsimp only at hb ⊢;subst hb;refine Rp (by simp only[cS,List.length_nil];omega)<|Q4 ⟨⟨_,e,w2,by omega,rfl,?_,?_⟩,?_⟩
   ·simp only[dB,cS,List.length_nil];omega
   ·dsimp only;rw[<-h5];have e1:(oG (dU n tch) F (e+1) u).tail=oG (dU n tch) F e (xR (dU n tch) F e u):=rfl;have e2:∀(k v:Nat),oG (dU n tch) F k v=v::(oG (dU n tch) F k v).tail:=λk v=>by cases k <;> rfl
    rw[e1,ku]
    conv=>rhs;rw[e2 e]
    rfl
   ·dsimp only;rw[cB,cB,qO w2,qO h1];simp only[cB];omega
 ·have e2:∀(k v:Nat),oG (dU n tch) F k v=v::(oG (dU n tch) F k v).tail:=λk v=>by cases k <;> rfl
  conv=>rhs;rw[e2 d]
  rfl
 ·dsimp only;rw[cB,qO hd];simp only[cB];omega
end
section
variable {N:Nat}
theorem AZ{bs:List cD}{n m:Nat}{h:cL}{rs:List (List aH)}(hh:Ia bs n m h)(hr:rs.length=n)(hn:n+m<=1000000000):fV N rs h=some ((eJ n h:Nat):Int):=by
 obtain⟨k,e,h1,h2⟩:=hh.num;unfold fV eJ
 cases hB:h.cD with
 |true=>
  have:=(h1 hB).1;rw[aK,aC rfl,e,cB,hr,wrap_add (by omega)]
 |false=>rw[aM,aF ka,e,cB]
theorem DR{l m:List cL}(hl:l.length<=4611686018427387904):lQ N l m=some (decide<|l=m):=zZ hl
variable {a:jT}{lE:List (List aA)}{dA:List (List (List aA))}{r:Nat->Nat}{gs:List cP}{ofP ofB pW:List Int}{pX:List cL}
theorem Bu(b:mw a lE dA r gs ofP ofB pW pX)(l:eP)(hN:4398046511104<=N):eG N a.aL ((aR 0 dA).map aI.dL) ((aR 0 dA).map aI.gI) l=some ((l5 a.aL (aR 0 dA) l).getD ⟨false,0⟩,(l5 a.aL (aR 0 dA) l).isSome):=by
 have hf:=b.w5.2;rw[DO b.Aj.gb (by omega) (λp hp=>⟨by have:=(zF b hp).1;omega,λx hx=>((zF b hp).2.1 x hx).2.1⟩) l hN,Ik<|Il b l]
theorem Ir(b:mw a lE dA r gs ofP ofB pW pX){i k:Nat}{x y:eP}(hx:a.bN[i]? =some x)(hy:a.bN[k]? =some y)(hn:l5 a.aL (aR 0 dA) x=none\/l5 a.aL (aR 0 dA) y=none)(hN:4398046511104<=N):
  eF N a.aL a.bN ((aR 0 dA).map aI.dL) ((aR 0 dA).map aI.gI) (dO a.aL<|aR 0 dA) ((i:Nat):Int) ((k:Nat):Int)=some []:=by
 unfold eF;rw[dC hx,aB,Bu b x hN,aB,dC hy,aB,Bu b y hN,aB];dsimp only;have e:(!(l5 a.aL (aR 0 dA) x).isSome|| !(l5 a.aL (aR 0 dA) y).isSome)=true:=by
  rcases hn with h|h
  ·rw[h];rfl
  ·rw[h];simp
 rw[e,aK]
theorem Is(b:mw a lE dA r gs ofP ofB pW pX){i k:Nat}{x y:eP}(hx:a.bN[i]? =some x)(hy:a.bN[k]? =some y){h h':cL}(hh:l5 a.aL (aR 0 dA) x=some h)(hh':l5 a.aL (aR 0 dA) y=some h'){F:Nat->Option Nat}(hF:mW (λx y=>y∈dU (aR 0 dA).length (dO a.aL<|aR 0 dA) x) (eJ (aR 0 dA).length h') F)(hN:4398046511104<=N):
  eF N a.aL a.bN ((aR 0 dA).map aI.dL) ((aR 0 dA).map aI.gI) (dO a.aL<|aR 0 dA) ((i:Nat):Int) ((k:Nat):Int)=some (match F (eJ (aR 0 dA).length h)with|none=>[] |some d=>ints<|oG (dU (aR 0 dA).length<|dO a.aL<|aR 0 dA) F d<|eJ (aR 0 dA).length h):=by
 have hT:=uF b;have hn:=hT.nb;have hm:=hT.mb;have hrl:((aR 0 dA).map aI.gI).length=(aR 0 dA).length:=cE _;obtain⟨u1,u2⟩:=qN<|q6 hh
 obtain⟨v1,v2⟩:=qN<|q6 hh'
 obtain⟨F',f1,f2,f3⟩:=Au (N:=N) hT hrl v2 (w:= -1) (by omega) hN;have hFF:F'=F:=(f2.congr<|λa b=>⟨λh=>h.1,λh=>⟨h,by omega⟩⟩).uniq hF;subst hFF;refine RD ?_;unfold eF;refine QU hx<|QD (Bu b x hN)<|QU hy<|QD (Bu b y hN) ?_
 rw[hh,hh'];dsimp only[Option.getD_some,Option.isSome_some];rw[kQ,Bool.or_self,aM];refine QD (AZ (q6 hh') hrl (by omega))<|QD f1<|QD (AZ (q6 hh) hrl (by omega))<|QU (qu F' u2) ?_
 cases hd:F' (eJ (aR 0 dA).length h)with
 |none=>rw[bJ (ED.2 hd),aK];exact QC rfl
 |some d=>
  rw[qO hd,bQ (by omega),aM];refine QJ (Kz hT hrl hF f3 hd hN)<|λo ho=>Ra ho (λst hst=>QC hst)<|λr hr=>hr.elim
theorem Av(b:mw a lE dA r gs ofP ofB pW pX)(h2:eN N a=some 0)(p q:eE)(hN:4398046511104<=N):fP N a p q=some (bif decide (jC a p<0)||decide (jC a q<0)then(0,0,9)else(jC a p,jC a q,0)):=by
 have hlf:=b.F6.w5;unfold fP;rw[h2,aB,bne_self_eq_false,aM,Gr (by omega) p hN,aB,Gr (by omega) q hN,aB]
 cases(decide (jC a p<0)||decide (jC a q<0)) <;> rfl
theorem Jm(b:mw a lE dA r gs ofP ofB pW pX)(h:i5 N a=some (some (a.aJ,a.cM,a.aL,a.bN,lE,aR 0 dA,dO a.aL<|aR 0 dA,gs,ofP,ofB,pW,pX),0)){p q:eE}{l:List cL}{c:Bool}{e:Int}(hw:jI N a p q=some (l,c,e))(hN:4398046511104<=N):
  e=if jC a p<0\/jC a q<0 then 9 else 0:=by
 unfold jI at hw;rw[h,aB]at hw;simp only[GQ,bne_self_eq_false,aM]at hw;rw[Ip b p q hN,aB]at hw
 by_cases hl:jC a p<0\/jC a q<0
 ·rw[show(decide (jC a p<0)||decide (jC a q<0))=true by rw[dS,bP,bP];exact hl]at hw;rw[aC hl];have hw:some (([]:List cL),false,(9:Int))=some (l,c,e):=hw;injection hw with hw;injection hw with _ hw;injection hw with _ hw;exact hw.symm
 ·rw[show(decide (jC a p<0)||decide (jC a q<0))=false by rw[Bool.or_eq_false_iff,decide_eq_false_iff_not,decide_eq_false_iff_not];omega]at hw;rw[aF hl];simp only[aM,bne_self_eq_false,Bool.false_or]at hw;generalize ((a.bN[(jC a p).toNat]?).bind<|l5 a.aL<|aR 0 dA)=o1 at hw;generalize ((a.bN[(jC a q).toNat]?).bind<|l5 a.aL<|aR 0 dA)=o2 at hw
  cases hb:(!(o1.isSome&&o2.isSome))with
  |true=>
   rw[hb,aK]at hw;injection hw with hw;injection hw with _ hw;injection hw with _ hw;exact hw.symm
  |false=>
   rw[hb,aM]at hw
   cases hx:i7 N (dO a.aL<|aR 0 dA) (o1.getD ⟨false,0⟩) (o2.getD ⟨false,0⟩)with
   |none=>rw[hx]at hw;cases hw
   |some z=>
    rw[hx,aB]at hw;injection hw with hw;injection hw with _ hw;injection hw with _ hw;exact hw.symm
end
section
variable {N:Nat}
theorem Aw{a:jT}{p q:eE}(ha:bk a<=1048576)(_hp:bk p<=1048576)(_hq:bk q<=1048576)(hN:4398046511104<=N):gE N a p q=some true:=by
 have hs:=F9 ha;have aw:iq N=some true:=Lh (by omega);have fin:∀{x:List cL×Bool×Int}{y:List cL×Int},x.1.length<=1000000000->y.1.length<=1000000000->jI N a p q=some x->iB N a p q=some x->fG N a p q=some y->fO N a p q=some y->gE N a p q=some true:=λ{x y}l1 l2 h1 h2 h3 h4=>by
  unfold gE;rw[h1,aB,h2,aB,h3,aB,h4,aB,aw,DR (by omega),DR (by omega)];simp
 have refErr:∀{z:Int×Int×Int},fP N a p q=some z->z.2.2≠0->iB N a p q=some ([],false,z.2.2)/\fO N a p q=some ([],z.2.2):=λ{z}hz he=>by
  constructor
  ·unfold iB;rw[hz,aB,show(z.2.2 != 0)=true by simpa using he,aK]
  ·unfold fO;rw[hz,aB,show(z.2.2 != 0)=true by simpa using he,aK]
 rcases checked (N:=N) hs hN with⟨e,he,h1,h2⟩|⟨b,h1,h2⟩
 ·have hb:(e != 0)=true:=by simpa using he
  have hl:fP N a p q=some (0,0,e):=by unfold fP;rw[h2,aB,hb,aK]
  obtain⟨r1,r2⟩:=refErr hl he;refine fin (x:=([],false,e)) (y:=([],e)) (by simp) (by simp) ?_ r1 ?_ r2
  ·unfold jI;rw[h1,aB];simp only[GQ,hb,aK]
  ·unfold fG;rw[h1,aB];simp only[GQ,hb,aK]
 rename_i lE dA r gs ofP ofB pW pX;have hL:=Av b h2 p q hN
 rcases Jl hs p q hN with⟨e,he,h,h3⟩|⟨b',ho,ep,hx,eq,hy,hn,h,h3⟩|⟨b',ho,ep,hx,eq,hy,hh,hh',hr,hF,hd,hdl,h,h3⟩
 ·have hne:=Jm b h1 h hN
  by_cases hl:jC a p<0\/jC a q<0
  ·rw[aC hl]at hne;subst hne;rw[show(decide (jC a p<0)||decide (jC a q<0))=true by rw[dS,bP,bP];exact hl,aK]at hL;obtain⟨r1,r2⟩:=refErr hL (by decide);exact fin (by simp) (by simp) h r1 h3 r2
  ·rw[aF hl]at hne;exact absurd hne he
 ·clear b h1;rename_i drl' pss' r' gs' ofP' ofB' ofL' atL' i k x y;have hL:=Av b' h2 p q hN;rw[ep,eq,bQ (show ¬((i:Nat):Int)<0 by omega),bQ (show ¬((k:Nat):Int)<0 by omega),Bool.or_self,aM]at hL;have hT:=uF b';have hrl:((aR 0 pss').map aI.gI).length=(aR 0 pss').length:=cE _;have hW:eF N a.aL a.bN ((aR 0 pss').map aI.dL) ((aR 0 pss').map aI.gI) (dO a.aL<|aR 0 pss') ((i:Nat):Int) ((k:Nat):Int)=some []:=by
   cases q1:l5 a.aL (aR 0 pss') x with
   |none=>exact Ir b' hx hy (.inl q1) hN
   |some h1=>
    cases q2:l5 a.aL (aR 0 pss') y with
    |none=>exact Ir b' hx hy (.inr q2) hN
    |some h2=>
     obtain⟨u1,u2⟩:=qN<|q6 q1
     obtain⟨v1,v2⟩:=qN<|q6 q2
     obtain⟨F,hF,_⟩:=Hu b' v2 hN;rw[Is b' hx hy q1 q2 hF hN];have hroot:=CU b' u2 v2 hF
     cases hd:F (eJ (aR 0 pss').length h1)with
     |none=>rfl
     |some d=>exact absurd (hroot.1 (by rw[hd];exact λh=>by cases h)) (hn h1 h2 q1 q2)
  have hH:=CW (N:=N) hrl hT.nb (L:=[]) (by simp) (λv hv=>by cases hv) hN;refine fin (by simp) (by simp) h ?_ h3 ?_
  ·unfold iB;rw[hL,aB];simp only[bne_self_eq_false,aM];rw[tn b' hN,aB];dsimp only;rw[hW,aB];show(fH N ((aR 0 pss').map aI.gI)<|ints []).bind _=_;rw[hH];rfl
  ·unfold fO;rw[hL,aB];simp only[bne_self_eq_false,aM];rw[tn b' hN,aB];dsimp only;rw[hW,aB];rfl
 ·clear b h1;rename_i drl' pss' r' gs' ofP' ofB' ofL' atL' i k x y g g' F d;have hL:=Av b' h2 p q hN;rw[ep,eq,bQ (show ¬((i:Nat):Int)<0 by omega),bQ (show ¬((k:Nat):Int)<0 by omega),Bool.or_self,aM]at hL;have hT:=uF b';have hnb:=hT.nb;have hmb:=hT.mb;have hrl:((aR 0 pss').map aI.gI).length=(aR 0 pss').length:=cE _;have hW:=Is b' hx hy hh hh' hF hN;rw[hd]at hW;dsimp only at hW;have hAs:∀u v,(λu v=>v∈dU (aR 0 pss').length (dO a.aL<|aR 0 pss') u) u v->u∈dU (aR 0 pss').length (dO a.aL<|aR 0 pss') v:=λu v huv=>wH hT huv;obtain⟨u1,u2⟩:=qN<|q6 hh
  obtain⟨v1,v2⟩:=qN<|q6 hh'
  have hlen:=wG (adj:=dU (aR 0 pss').length<|dO a.aL<|aR 0 pss') (F:=F) d<|eJ (aR 0 pss').length g
  have hhead:=Jj (adj:=dU (aR 0 pss').length<|dO a.aL<|aR 0 pss') (F:=F) d<|eJ (aR 0 pss').length g
  have hlast:=Jk hF hAs hd;obtain⟨F0,hF0,hFb⟩:=Hu b' v2 hN;have hFF:F0=F:=hF0.uniq hF;subst hFF;have hlt:∀w∈oG (dU (aR 0 pss').length<|dO a.aL<|aR 0 pss') F0 d (eJ (aR 0 pss').length g),w<(aR 0 pss').length+a.aL.length:=λw hw=>by
   obtain⟨j,hj⟩:=dN hw;obtain⟨_,q2⟩:=Bs hF hAs d _ hd j w hj;exact(hFb _ _ q2).1
  have hbr:∀w,(w<(aR 0 pss').length+a.aL.length)->∃S,dK N ((aR 0 pss').map aI.gI) (dO a.aL<|aR 0 pss') ((eJ (aR 0 pss').length g:Nat):Int) ((w:Nat):Int)=some S/\∃c,S[eJ (aR 0 pss').length g']? =some c/\(decide (c<0)=GA (aR 0 pss').length (dO a.aL<|aR 0 pss') (eJ (aR 0 pss').length g) (eJ (aR 0 pss').length g') w):=λw hw=>by
   generalize eJ (aR 0 pss').length g=u at *;generalize eJ (aR 0 pss').length g'=v at *
   by_cases e:u=w
   ·subst e;refine⟨_,Hx hT hrl _ hN,-1,by rw[List.getElem?_replicate,aC v2],?_⟩;unfold GA;rw[bJ (show(-1:Int)<0 by decide),bJ<|.inl rfl]
   ·obtain⟨G,s1,s2,_⟩:=Au (N:=N) hT hrl u2 (w:=((w:Nat):Int)) (by omega) hN;have s2:=s2.congr (A':=λa' b'=>b'∈dU (aR 0 pss').length (dO a.aL<|aR 0 pss') a'/\b'≠w)<|λa' b'=>⟨λh=>⟨h.1,by omega⟩,λh=>⟨h.1,by omega⟩⟩
    refine⟨_,s1,dst G v,qu G v2,?_⟩;unfold GA;rw[decide_eq_decide,ED]
    by_cases e2:v=w
    ·subst e2;exact⟨λ_=> .inr<|.inl rfl,λ_=>Lo e s2⟩
    ·obtain⟨G2,_,t2,_⟩:=Au (N:=N) hT hrl v2 (w:=((w:Nat):Int)) (by omega) hN;have t2:=t2.congr (A':=λa' b'=>b'∈dU (aR 0 pss').length (dO a.aL<|aR 0 pss') a'/\b'≠w)<|λa' b'=>⟨λh=>⟨h.1,by omega⟩,λh=>⟨h.1,by omega⟩⟩
     have hsym:=Gt (λa' b' hab=>wH hT hab) e e2 s2 t2;constructor
     ·intro h;refine .inr<|.inr λG3 hG3=>?_
      rw[hG3.uniq t2];exact hsym.1 h
     ·rintro(h|h|h)
      ·exact absurd h.symm e
      ·exact absurd h.symm e2
      ·exact hsym.2<|h G2 t2
  generalize hu:eJ (aR 0 pss').length g=u at *;generalize hv:eJ (aR 0 pss').length g'=v at *;generalize hLL:oG (dU (aR 0 pss').length<|dO a.aL<|aR 0 pss') F0 d u=L at *;have hH:=CW (N:=N) hrl hT.nb (L:=L) (by omega) (λv hv=>by have:=hlt v hv;omega) hN;have hfl:=kP (GA (aR 0 pss').length (dO a.aL<|aR 0 pss') u v) L;have hH2:=CW (N:=N) hrl hT.nb (L:=L.filter<|GA (aR 0 pss').length (dO a.aL<|aR 0 pss') u v) (by omega) (λv hv=>by have:=hlt v (jo.1 hv).1;omega) hN;refine fin ?_ ?_ h ?_ h3 ?_
  ·dsimp only;rw[cE];omega
  ·dsimp only;rw[cE];omega
  ·unfold iB;rw[hL,aB];simp only[bne_self_eq_false,aM];rw[tn b' hN,aB];dsimp only;rw[hW,aB,hH,aB,gX,bJ (show((L.length:Nat):Int)>0 by omega)]
  ·refine RD ?_;unfold fO;refine QD hL ?_;simp only[bne_self_eq_false,aM];refine QD (tn b' hN) ?_;dsimp only;refine QD hW ?_;rw[gX,show(((L.length:Nat):Int)==0)=false by rw[beq_eq_false_iff_ne];omega,aM,iH (by omega) (by omega)];refine QJ (Rw (n:=L.length) (λst=>st.2) (λj st=>st.1=ints ((L.take j).filter<|GA (aR 0 pss').length (dO a.aL<|aR 0 pss') u v)) (Go:=λst=>st.1=ints (L.filter<|GA (aR 0 pss').length (dO a.aL<|aR 0 pss') u v)) (Rt:=λ_=>False) ?_ ?_ (dJ _) rfl rfl (by omega)) ?_
   ·rintro j⟨s,jj⟩hj e hI;dsimp only at e hI ⊢;subst e;subst hI;rw[j8 hj,aK];have hxj:L[j]? =some L[j]:=aQ hj;obtain⟨S,s1,c,s2,s3⟩:=hbr L[j]<|hlt _<|cC hj
    have hlj:(ints<|(L.take j).filter<|GA (aR 0 pss').length (dO a.aL<|aR 0 pss') u v).length<=j:=by
     rw[gX];exact Nat.le_trans (kP _ _)<|List.length_take_le _ _
    have hlast':(ints L)[L.length - 1]? =some ((v:Nat):Int):=pQ (by rw[hlen,yv];exact hlast);refine QU (i:=0) (pQ hhead)<|QU (pQ hxj)<|QD s1<|QU hlast'<|QU s2 ?_
    rw[s3];refine QJ (P:=λs=>s=ints ((L.take<|j+1).filter<|GA (aR 0 pss').length (dO a.aL<|aR 0 pss') u v)) (Q8 (λhc=>QU (pQ hxj)<|Rp (by simp only[cS,List.length_nil];omega)<|QC ?_)<|λhc=>QC ?_)<|λs hs=>Q4 ⟨bL (by omega),hs⟩
    ·rw[eD hj,jq,List.filter_cons_of_pos hc,List.filter_nil,mg];rfl
    ·rw[eD hj,jq,List.filter_cons_of_neg (by rw[hc];exact ka),List.filter_nil,lF]
   ·rintro⟨s,jj⟩e hI;dsimp only at e hI ⊢;subst e;rw[l8,aM];rw[eM]at hI;exact Q9 hI
   intro o ho;refine Ra ho ?_<|λr hr=>hr.elim
   rintro⟨s,jj⟩hs;dsimp only at hs ⊢;subst hs;exact QD hH2<|QC rfl
end
end Go.Gk
