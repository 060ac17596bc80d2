/-
  Helping texts: plain functions and plain laws. No statement of the seed is proved here.
-/
import Derived.Test.YthioiiocofohiaaGreatDoorE1
import Derived.Test.YthioiiocofohiaaGreatDoorA2
set_option linter.unusedVariables false
set_option linter.unusedSimpArgs false
set_option linter.unusedSectionVars false
namespace Go.Gk
open Go Classical
section
variable {N:Nat}
theorem wA {p:aH}: ∀{cQ:List (List (List aA))} {k:Nat},p∈bY k cQ->∃(i:Nat) (ps:List (List aA)) (q:List aA),cQ[i]? =some ps/\q∈ps/\p= ⟨((k+i:Nat):Int),q,aO q⟩
 | [],k,h=>by cases h
 | ps::cQ,k,h=>by
  rcases cU.1 h with h | h
  ·obtain⟨q,hq,rfl⟩:=cR.1 h
   exact⟨0,ps,q,rfl,hq,rfl⟩
  ·obtain⟨i,ps',q,h1,h2,h3⟩:=wA h
   refine⟨i+1,ps',q,by simpa using h1,h2,?_⟩
   rw [h3,show k+1+i=k+ (i+1) by omega]
structure nX (a:gS):Prop where
 A0:0<a.aL.length/\a.aL.length<=16
 M4: ∀r∈a.aL,i9 r=0
 out:i9 a.dL=0
 many:a.dL.length+ (a.aL.map List.length).sum<=2000
 vF:lP a=0
 tA:kW a=0
theorem nX.gb {a:gS} (h:nX a):mY a.aW:=⟨(pD h.vF).1,fun b hb=>⟨((pD h.vF).2 b hb).1,((pD h.vF).2 b hb).2.1⟩⟩
theorem nX.cs {a:gS} (h:nX a): ∀r∈a.aL,r.length<=2000/\∀x∈r,CI x:=fun r hr=>Dj (pd.1 (h.M4 r hr)).1
structure vG (a:gS) (jQ:List (List aA)) (cQ:List (List (List aA))) (p:aH) (i:Nat) (r:List aI) (s:List aA) (ps:List (List aA)) (u:Nat->Nat) (j k:Nat):Prop where
 Ng:a.aL[i]? =some r
 jQ:jQ[i]? =some s
 cQ:cQ[i]? =some ps
 dr:sR r (nk a.aW ((i:Nat):Int)) s
 pt:qC s u ps
 at_:ps[j]? =some p.Set
 head: (bV (aO s).length u)[j]? =some k
 set:o8 (mh (aO s) (aO s).length u k) p.Set
 lim:uy (pW r++pW (nk a.aW ((i:Nat):Int))) (lL r++lL (nk a.aW ((i:Nat):Int))) (p.Set.map bR)
 Lo:p.cZ= ((i:Nat):Int)
 Lp:p.iZ=aO p.Set
theorem GW {a:gS} {jQ:List (List aA)} {cQ:List (List (List aA))} (hg:nX a) (hD:uh a.aL a.aW a.aL.length jQ cQ) {p:aH} (hp:p∈bY 0 cQ): ∃i r s ps u j k,vG a jQ cQ p i r s ps u j k:=by
 obtain⟨i,ps,q,h1,h2,rfl⟩:=wA hp
 have hil:i<a.aL.length:=by have:=(bD.1 h1).1;rw [hD.AZ] at this;exact this
 have hc:a.aL[i]? =some a.aL[i]:=aJ hil
 have hd:jQ[i]? =some (jQ[i]'(by rw [hD.len];exact hil)):=aJ _
 have hdr:=hD.dr i _ _ hil hc hd
 obtain⟨u,hu⟩:=hD.pt i _ ps hil hd h1
 obtain⟨sx,sy⟩:=hdr.small (hg.cs _ (cJ hil)).2 (fun x hx=>(vz hg.gb _ x hx).1)
 obtain⟨j,k,g1,g2,g3,g4⟩:=yB hu hdr.can hdr.lim sx sy h2
 exact⟨i,_,_,ps,u,j,k,hc,hd,h1,hdr,hu,g1,g2,g3,g4,by rw [gj],rfl⟩
theorem vG.GL {a:gS} {jQ:List (List aA)} {cQ:List (List (List aA))} (hg:nX a) {p:aH} {i:Nat} {r:List aI} {s:List aA} {ps:List (List aA)} {u:Nat->Nat} {j k:Nat} (h:vG a jQ cQ p i r s ps u j k):
  p.Set.length<=5000/\(∀b∈p.Set,b.Xs.length<=5000)/\p.iZ.length<=5000*5000:=by
 have h1:=(hg.cs r (gT h.Ng)).1
 have h2:=zO hg.gb ((i:Nat):Int)
 rw [h.Lp]
 exact wz (A:=5000) h.set.can h.lim (by rw [dW,lM,lM];omega) (by rw [dW,jN,jN];omega)
def Eg (a0 a1 b0 b1:Int):Bool:=decide (b0<a1)&&decide (a0<b1)
def GX (a b:aI):Bool:=Eg a.X0 a.X1 b.X0 b.X1&&Eg a.Y0 a.Y1 b.Y0 b.Y1
theorem yF {a0 a1 b0 b1:Int} (h1: -1000000<=a0/\a0<=1000000) (h2: -1000000<=a1/\a1<=1000000) (h3: -1000000<=b0/\b0<=1000000) (h4: -1000000<=b1/\b1<=1000000): ∃n,iH N a0 a1 b0 b1=some n/\0<=n/\(n=0↔Eg a0 a1 b0 b1=true):=by
 unfold iH Eg
 have e1:IntKind.wrap .i64 (b0 - a1)=b0 - a1:=fx (by omega) (by omega)
 have e2:IntKind.wrap .i64 (a0 - b1)=a0 - b1:=fx (by omega) (by omega)
 have e3:IntKind.wrap .i64 (b0 - a1+1)=b0 - a1+1:=fx (by omega) (by omega)
 have e4:IntKind.wrap .i64 (a0 - b1+1)=a0 - b1+1:=fx (by omega) (by omega)
 rw [e1,e2,e3,e4]
 refine⟨_,rfl,?_,?_⟩
 ·repeat' split
  all_goals omega
 ·rw [bT,bK,bK]
  repeat' split
  all_goals omega
theorem Jx {a b:aI} (h1:dA a=true) (h2:dA b=true): ∃n,jI N a b=some n/\(n=0↔GX a b=true):=by
 have b1:=gZ h1
 have b2:=gZ h2
 obtain⟨n,n1,n2,n3⟩:=yF (N:=N) (a0:=a.X0) (a1:=a.X1) (b0:=b.X0) (b1:=b.X1) (by omega) (by omega) (by omega) (by omega)
 obtain⟨m,m1,m2,m3⟩:=yF (N:=N) (a0:=a.Y0) (a1:=a.Y1) (b0:=b.Y0) (b1:=b.Y1) (by omega) (by omega) (by omega) (by omega)
 unfold jI GX
 rw [n1,aB,m1,aB]
 refine⟨_,rfl,?_⟩
 rw [bT,<-n3,<-m3]
 split <;> omega
def wB (x y:bZ):Bool:=(decide (x.bU<=y.To)&&decide (y.bU<=x.To))&&GX (xw x) (xw y)
def wQ (a:gS):Prop:=∃(i k:Nat) (x y:bZ),k<i/\a.aW[i]? =some x/\a.aW[k]? =some y/\wB x y=true
noncomputable def zh (r:List aI):Option Int:=if i9 r≠0 then some (i9 r) else none
noncomputable def A3 (a:gS):Int:=if 2000<a.dL.length+ (a.aL.map List.length).sum then 2 else if lP a≠0 then lP a else if kW a≠0 then kW a else if wQ a then 12 else 0
noncomputable def GY (a:gS):Int:=match a.aL.findSome? zh with | some e=>e | none=>if i9 a.dL≠0 then i9 a.dL else A3 a
noncomputable def jo (a:gS):Int:=if a.aL.length=0 then 9 else if 16<a.aL.length then 2 else GY a
def LC (jQ:List (List aA)) (cQ:List (List (List aA))):Prop:=(∀s∈jQ,(aO s).length<=2000)/\(bY 0 cQ).length<=2000
abbrev yG:=(List (List aI))×(List aI)×(List bZ)×(List cY)×(List (List aA))×(List aH)×(List (List Int))×(List cI)×(List Int)×(List Int)×(List Int)×(List dU)
def IP (a:gS) (x:Option yG×Int):Prop:=
 (jo a≠0/\x= (none,jo a))\/(jo a=0/\nX a/\¬wQ a/\∃jQ cQ,uh a.aL a.aW a.aL.length jQ cQ/\
  ((¬LC jQ cQ/\x= (none,2))\/(LC jQ cQ/\∃r gs ofP ofB fH fC,yD a.aW a.bJ (bY 0 cQ) r gs ofP ofB fH fC/\
   x= (some (a.aL,a.dL,a.aW,a.bJ,jQ,bY 0 cQ,eL a.aW (bY 0 cQ),gs,ofP,ofB,fH,fC),0))))
structure vH (a:gS):Prop where
 cs:a.aL.length<=1048576
 each: ∀r∈a.aL,r.length<=1048576
 out:a.dL.length<=1048576
 bs:a.aW.length<=1048576
 ls:a.bJ.length<=1048576
 nm:yz a
theorem Cq {a:gS} (h:bk a<=1048576):vH a:=by
 rw [Gt] at h
 have h1:=tU a.aL
 have h2:=tU a.dL
 have h3:=tU a.aW
 have h4:=tU a.bJ
 refine⟨by omega,fun r hr=>?_,by omega,by omega,by omega,fun x hx=>?_⟩
 ·have:=C7 hr
  have:=tU r;omega
 ·have:=C7 hx
  rw [D3,Gj,Gj] at this;omega
theorem zS {a:gS} (hs:vH a) (hN:4398046511104<=N):Ok (gD N a) (IP a):=by
 unfold gD
 have pe: ∀e:Int,e≠0->jo a=e->Ok (some ((none:Option yG),e)) (IP a):=fun e he h=>Ok.ret (.inl ⟨by rw [h];exact he,by rw [h]⟩)
 have c1:=hs.cs
 refine Ok.bif (fun h=>?_) (fun h=>?_)
 ·have:a.aL.length=0:=by have:=beq_iff_eq.1 h;omega
  exact pe 9 (by omega) (by unfold jo;rw [aD this])
 have h0: ¬a.aL.length=0:=by rw [beq_eq_false_iff_ne] at h;omega
 refine Ok.bif (fun h=>?_) (fun h=>?_)
 ·have h1:16<a.aL.length:=by have:=of_decide_eq_true h;omega
  exact pe 2 (by omega) (by unfold jo;rw [aC h0,aD h1])
 have h1: ¬16<a.aL.length:=by have:=of_decide_eq_false h;omega
 have pe1:jo a=GY a:=by unfold jo;rw [aC h0,aC h1]
 have hso:=hs.out
 have sumle: ∀k,k<=a.aL.length->((a.aL.take k).map List.length).sum<=k*1048576:=by
  intro k
  induction k with
  | zero=>intro _;simp
  | succ k ih=>
   intro hk
   have:=ih (by omega)
   have h2:=hs.each _ (cJ (show k<a.aL.length by omega))
   rw [fu (by omega),eQ,List.sum_append]
   simp only [eG,List.map_nil,List.sum_cons,List.sum_nil]
   rw [Nat.add_mul];omega
 refine Ok.bind (Ok.oZ (Go:=fun s:Int=>s= ((a.dL.length+ (a.aL.map List.length).sum:Nat):Int)/\∀r∈a.aL,i9 r=0) (Rt:=fun x:Option yG×Int=>∃e,e≠0/\x= (none,e)/\a.aL.findSome? zh=some e)
  (fun(k:Nat) (s:Int)=>s= ((a.dL.length+ ((a.aL.take k).map List.length).sum:Nat):Int)/\∀r∈a.aL.take k,i9 r=0) (by omega) ⟨by simp,fun r hr=>by simp at hr⟩ (fun k s hk hI=>?_) (fun s hI=>by rw [eR] at hI;exact hI)) ?_
 ·obtain⟨e,hI⟩:=hI
  subst e
  have hkx:a.aL[k]? =some a.aL[k]:=aJ hk
  have hts:a.aL.take (k+1)=a.aL.take k++[a.aL[k]]:=fu hk
  have he:=hs.each _ (cJ hk)
  refine Ok.ix hkx (Ok.eq (r9 (by omega) hN) ?_)
  refine Ok.bif (fun h=>Ok.rt ?_) (fun h=>Ok.nx ?_)
  ·have h:i9 a.aL[k]≠0:=by simpa using h
   refine⟨_,h,rfl,?_⟩
   rw [List.findSome?_eq_some_iff]
   refine⟨a.aL.take k,a.aL[k],a.aL.drop (k+1),?_,by unfold zh;rw [aD h],fun r hr=>by unfold zh;rw [aC (by simpa using hI r hr)]⟩
   rw [<-qh hk,List.take_append_drop]
  ·have h:i9 a.aL[k]=0:=by simpa using h
   have:=sumle k (by omega)
   have hk16:k*1048576<=16*1048576:=Nat.mul_le_mul_right _ (by omega)
   refine⟨?_,fun r hr=>?_⟩
   ·rw [wrap_add (by omega),hts,eQ,List.sum_append]
    simp only [eG,List.map_nil,List.sum_cons,List.sum_nil]
    congr 1
    omega
   ·rw [hts] at hr
    rcases cU.1 hr with hr | hr
    ·exact hI r hr
    ·simp at hr;subst hr;exact h
 intro o ho
 refine Ok.cs ho ?_ ?_
 rotate_left
 ·rintro x ⟨e,he,rfl,hf⟩
  exact pe e he (by rw [pe1];unfold GY;rw [hf])
 rintro s ⟨rfl,hreg⟩
 have Lz:a.aL.findSome? zh=none:=List.findSome?_eq_none_iff.2 fun r hr=>by unfold zh;rw [aC (by simpa using hreg r hr)]
 have pe2:jo a=if i9 a.dL≠0 then i9 a.dL else A3 a:=by rw [pe1];unfold GY;rw [Lz]
 refine Ok.eq (r9 (by omega) hN) ?_
 refine Ok.bif (fun h=>?_) (fun h=>?_)
 ·have h:i9 a.dL≠0:=by simpa using h
  exact pe _ h (by rw [pe2,aD h])
 have hout:i9 a.dL=0:=by simpa using h
 have pe3:jo a=A3 a:=by rw [pe2,aC (by simpa using hout)]
 refine Ok.bif (fun h=>?_) (fun h=>?_)
 ·have h:2000<a.dL.length+ (a.aL.map List.length).sum:=by have:=of_decide_eq_true h;omega
  exact pe 2 (by omega) (by rw [pe3];unfold A3;rw [aD h])
 have hmany: ¬2000<a.dL.length+ (a.aL.map List.length).sum:=by have:=of_decide_eq_false h;omega
 have hbs:=hs.bs
 have hls:=hs.ls
 refine Ok.eq (zc (by omega) (by omega) (by omega)) ?_
 refine Ok.bif (fun h=>?_) (fun h=>?_)
 ·have h:lP a≠0:=by simpa using h
  exact pe _ h (by rw [pe3];unfold A3;rw [aC hmany,aD h])
 have hbo:lP a=0:=by simpa using h
 refine Ok.eq (zd (by omega) (by omega) hs.nm (by omega)) ?_
 refine Ok.bif (fun h=>?_) (fun h=>?_)
 ·have h:kW a≠0:=by simpa using h
  exact pe _ h (by rw [pe3];unfold A3;rw [aC hmany,aC (by simpa using hbo),aD h])
 have hla:kW a=0:=by simpa using h
 have hg:nX a:=⟨by omega,hreg,hout,by omega,hbo,hla⟩
 have pe4:jo a=if wQ a then 12 else 0:=by rw [pe3];unfold A3;rw [aC hmany,aC (by simpa using hbo),aC (by simpa using hla)]
 refine Ok.bind (Ok.oZ (Go:=fun _:Unit=>¬wQ a) (Rt:=fun x:Option yG×Int=>x= (none,12)/\wQ a)
  (fun(k:Nat) (_:Unit)=>∀(i j:Nat) (x y:bZ),i<k->j<i->a.aW[i]? =some x->a.aW[j]? =some y->¬wB x y=true) (by omega) (fun i j x y h=>by omega) (fun k s hk hI=>?_) (fun s hI=>?_)) ?_
 ·have hkx:a.aW[k]? =some a.aW[k]:=aJ hk
  refine Ok.ix hkx (Ok.eq (uY _ k (by omega)) ?_)
  have hgk:=hg.gb.ok _ (cJ hk)
  refine Ok.bind (Ok.oZ (Go:=fun _:Unit=>∀(j:Nat) (y:bZ),j<k->a.aW[j]? =some y->¬wB a.aW[k] y=true) (Rt:=fun x:Option yG×Int=>x= (none,12)/\wQ a)
   (fun(t:Nat) (_:Unit)=>∀(j:Nat) (y:bZ),j<t->a.aW[j]? =some y->¬wB a.aW[k] y=true) (by rw [dF];omega) (fun j y h=>by omega) (fun t s ht hI2=>?_) (fun s hI2 j y hj hy=>hI2 j y (by rw [dF];omega) hy)) ?_
  ·have htk:t<k:=by rw [dF] at ht;omega
   have htx: (a.aW.take k)[t]? =some a.aW[t]:=by rw [List.getElem?_take_of_lt htk];exact aJ (by omega)
   have hgt:=hg.gb.ok _ (cJ (show t<a.aW.length by omega))
   refine Ok.ix htx ?_
   refine Ok.eq (x:=wB a.aW[k] a.aW[t]) ?_ ?_
   ·unfold wB
    cases hc: (decide (a.aW[k].bU<=a.aW[t].To)&&decide (a.aW[t].bU<=a.aW[k].To)) with
    | false=>rfl
    | true=>
     obtain⟨n,n1,n2⟩:=Jx (N:=N) hgk.2 hgt.2
     rw [aR,mg hgk.1,aB,mg hgt.1,aB,n1,aB,Bool.true_and]
     congr 1
     rw [fO,beq_iff_eq];exact n2
   ·refine Ok.bif (fun h=>Ok.rt ⟨rfl,k,t,_,_,htk,hkx,aJ (by omega),h⟩) (fun h=>Ok.nx fun j y hj hy=>?_)
    by_cases e:j<t
    ·exact hI2 j y e hy
    ·have:j=t:=by omega
     subst this
     rw [aJ (by omega)] at hy;injection hy with hy
     rw [<-hy,h];simp
  ·intro o ho
   refine Ok.cs ho (fun s hI2=>Ok.nx fun i j x y hi hj hx hy=>?_) (fun x hx=>Ok.rt hx)
   by_cases e:i<k
   ·exact hI i j x y e hj hx hy
   ·have:i=k:=by omega
    subst this
    rw [hkx] at hx;injection hx with hx
    rw [<-hx];exact hI2 j y hj hy
 ·rintro⟨i,j,x,y,hj,hx,hy,hc⟩
  exact hI i j x y (bD.1 hx).1 hj hx hy hc
 intro o ho
 refine Ok.cs ho ?_ ?_
 rotate_left
 ·rintro x ⟨rfl,hc⟩
  exact pe 12 (by omega) (by rw [pe4,aD hc])
 intro _ hncl
 have pe5:jo a=0:=by rw [pe4,aC hncl]
 refine Ok.bind (Dl (N:=N) (by omega) hg.cs hg.gb hN) ?_
 rintro⟨okk,jQ,pcs⟩ ⟨cQ,D,e1,e2⟩
 dsimp only at D e1 e2 ⊢
 subst e1
 refine Ok.bif (fun h=>Ok.ret (.inr ⟨pe5,hg,hncl,jQ,cQ,D, .inl ⟨fun hf=>?_,rfl⟩⟩)) (fun h=>?_)
 ·have:=e2.2 hf
  rw [this] at h;cases h
 ·have hf:LC jQ cQ:=e2.1 (by cases okk <;> simp_all)
  have hpr: ∀p∈bY 0 cQ,p.iZ.length<=1073741824:=fun p hp=>by
   obtain⟨i,r,s,ps,u,j,k,hP⟩:=GW hg D hp
   have:=(hP.GL hg).2.2;omega
  have hf2:=hf.2
  refine Ok.eq (GN hg.gb (by omega) hpr) ?_
  refine Ok.bind (A2 (N:=N) hg.gb (by omega) hpr (by omega) hN) ?_
  rintro⟨gs,ofP,ofB,fH,fC⟩ ⟨r,hC⟩
  exact Ok.ret (.inr ⟨pe5,hg,hncl,jQ,cQ,D, .inr ⟨hf,r,gs,ofP,ofB,fH,fC,hC,rfl⟩⟩)
end
end Go.Gk
namespace Go.Gk
open Go Classical
section
variable {N:Nat}
theorem Eh {w:Nat} {g:Nat->Nat} {a:Nat}: ∀{ks:List Nat},ks.Nodup->a∈ks->(ks.map (fun k=>(if a=k then w else 0)+g k)).sum=w+ (ks.map g).sum
 | [],_,h=>by cases h
 | k::ks,hn,h=>by
  have hn':=List.nodup_cons.1 hn
  simp only [eG,List.sum_cons]
  by_cases e:a=k
  ·subst e
   rw [aD rfl]
   have:ks.map (fun k=>(if a=k then w else 0)+g k)=ks.map g:=List.map_congr_left fun x hx=>by
    rw [aC (fun e=>hn'.1 (by rw [e];exact hx)),gj]
   rw [this];omega
  ·rw [aC e,Eh hn'.2 (by rcases fN.1 h with h | h;exact absurd h e;exact h)];omega
theorem Cr {α:Type} {ks:List Nat} (hn:ks.Nodup) (f w:α->Nat): ∀{l:List α},(∀x∈l,f x∈ks)->(ks.map (fun k=>((l.filter (fun x=>decide (f x=k))).map w).sum)).sum= (l.map w).sum
 | [],_=>by
  have: ∀ks:List Nat,(ks.map (fun _=>0)).sum=0:=fun ks=>by
   induction ks with
   | nil=>rfl
   | cons k ks ih=>simp only [eG,List.sum_cons,ih]
  simpa using this ks
 | x::l,h=>by
  have ih:=Cr hn f w (l:=l) fun y hy=>h y (jy _ hy)
  have: (ks.map (fun k=>(((x::l).filter (fun x=>decide (f x=k))).map w).sum))=ks.map (fun k=>(if f x=k then w x else 0)+ ((l.filter (fun x=>decide (f x=k))).map w).sum):=List.map_congr_left fun k _=>by
   rw [List.filter_cons]
   by_cases e:f x=k
   ·rw [aD (by simpa using e),aD e,eG,List.sum_cons]
   ·rw [aC (by simpa using e),aC e,gj]
  rw [this,Eh hn (h x (by simp)),ih,eG,List.sum_cons]
theorem vG.ne {a:gS} {jQ:List (List aA)} {cQ:List (List (List aA))} {p:aH} {i:Nat} {r:List aI} {s:List aA} {ps:List (List aA)} {u:Nat->Nat} {j k:Nat} (h:vG a jQ cQ p i r s ps u j k):p.Set≠[]:=by
 intro e
 have hh:=hZ.1 (gT h.head)
 have hx: (aO s)[k]? =some (aO s)[k]:=aJ hh.1
 have hm: (aO s)[k]∈mh (aO s) (aO s).length u k:=nj.2 ⟨k,hh.1,hh.2,hx⟩
 obtain⟨b,hb,q,hq,hr⟩:=n8 (gT hx)
 have hbm:bR b∈s.map bR:=cR.2 ⟨b,hb,rfl⟩
 have hq1:=Dd (h.dr.can.each _ hbm).2.2.1 q hq
 have hb1:=(h.dr.can.each _ hbm).1
 have hc:=h.set.cover q.1 b.Y0
 rw [e] at hc
 have:wO (mh (aO s) (aO s).length u k) q.1 b.Y0=true:=j6.2 ⟨_,hm,by rw [hr];exact⟨⟨Int.le_refl _,hq1⟩,Int.le_refl _,hb1⟩⟩
 rw [this] at hc
 cases hc
structure j8 (a:gS) (jQ:List (List aA)) (cQ:List (List (List aA))) (r:Nat->Nat) (gs:List cI) (ofP ofB fH:List Int) (fC:List dU):Prop where
 Dp:nX a
 Ni: ¬wQ a
 dr:uh a.aL a.aW a.aL.length jQ cQ
 A0:LC jQ cQ
 Bg:yD a.aW a.bJ (bY 0 cQ) r gs ofP ofB fH fC
inductive Jy (N:Nat) (a:gS):Prop
 | err (e:Int) (he:e≠0) (h:gD N a=some (none,e))
 | ok {jQ:List (List aA)} {cQ:List (List (List aA))} {r:Nat->Nat} {gs:List cI} {ofP ofB fH:List Int} {fC:List dU} (b:j8 a jQ cQ r gs ofP ofB fH fC)
  (h:gD N a=some (some (a.aL,a.dL,a.aW,a.bJ,jQ,bY 0 cQ,eL a.aW (bY 0 cQ),gs,ofP,ofB,fH,fC),0))
theorem opened {a:gS} (hs:vH a) (hN:4398046511104<=N):Jy N a:=by
 obtain⟨x,hx,hI⟩:=zS (N:=N) hs hN
 rcases hI with ⟨he,rfl⟩ | ⟨_,hg,hcl,jQ,cQ,D,⟨_,rfl⟩ | ⟨hf,r,gs,ofP,ofB,fH,fC,hC,rfl⟩⟩
 ·exact .err _ he hx
 ·exact .err 2 (by omega) hx
 ·exact .ok ⟨hg,hcl,D,hf,hC⟩ hx
end
end Go.Gk
namespace Go.Gk
open Go Classical
section
variable {S R:Type}
theorem Ok.AO {body:S->Option (Fl S R)} {N n:Nat} {s:S} (ι:S->Int) (Inv:Nat->S->Prop) {Go:S->Prop} {Rt:R->Prop}
  (h1: ∀k s,k<n->ι s= ((k:Nat):Int)->Inv k s->Ok (body s) (IK (fun s'=>ι s'= ((k+1:Nat):Int)/\Inv (k+1) s') Go Rt))
  (h2: ∀s,ι s= ((n:Nat):Int)->Inv n s->Ok (body s) (IK (fun _=>False) Go Rt))
  {k0:Nat} (hk:k0<=n) (hi:ι s= ((k0:Nat):Int)) (h0:Inv k0 s) (hn:n<N):Ok (Gk.np body N s) (Le Go Rt):=by
 refine Ok.np (fun s=>∃k:Nat,k<=n/\ι s= ((k:Nat):Int)/\Inv k s) (fun s=>n - (ι s).toNat) ?_ ⟨k0,hk,hi,h0⟩ (by omega)
 rintro s ⟨k,hk,e,hI⟩
 by_cases hlt:k<n
 ·refine(h1 k s hlt e hI).mono ?_
  rintro(s' | s' | r) hp
  ·have hp1:ι s'= ((k+1:Nat):Int):=hp.1
   exact⟨⟨k+1,hlt,hp.1,hp.2⟩,by rw [e,hp1];simp only [bS];omega⟩
  ·exact hp
  ·exact hp
 ·have:k=n:=by omega
  subst this
  refine(h2 s e hI).mono ?_
  rintro(s' | s' | r) hp
  ·exact hp.elim
  ·exact hp
  ·exact hp
theorem Lq {k n:Nat} (h:k<n):decide (((k:Nat):Int)< ((n:Nat):Int))=true:=cD (by omega)
theorem Lr (n:Nat):decide (((n:Nat):Int)< ((n:Nat):Int))=false:=bF (by omega)
end
section
variable {N:Nat}
theorem A4 (a b:Int): (if a<b then b else a)=max a b:=by split <;> omega
end
end Go.Gk
namespace Go.Gk
open Go Classical
section
variable {α:Type} [DecidableEq α] {N:Nat}
end
section
variable {N:Nat}
end
end Go.Gk
namespace Go.Gk
open Go Classical
theorem yH (n:Nat) (g:Nat->Nat): ((List.range (n+1)).map g).sum= ((List.range n).map g).sum+g n:=by
 rw [List.range_succ,eQ,List.sum_append];simp
def LD (r:aI) (x y:Int):Bool:=(decide (r.X0<=x)&&decide (x<r.X1))&&(decide (r.Y0<=y)&&decide (y<r.Y1))
def Ls (a b:aI):Prop:=∀x y,¬(LD a x y=true/\LD b x y=true)
theorem H8 {r:aI} {x y:Int}:LD r x y=true↔(r.X0<=x/\x<r.X1)/\r.Y0<=y/\y<r.Y1:=by unfold LD;simp
theorem vI: ∀{xs:List Int},l6 xs->(zL xs).Pairwise (fun p q=>p.2<q.1)
 | [],_=>jR
 | [a],_=>jR
 | a::b::l,h=>by
  unfold zL
  rw [List.pairwise_cons]
  exact⟨fun q hq=>h.tail.head q.1 (AU q hq).1,vI h.tail.tail⟩
def Dq (a b:aI):Prop:=a.Y1<=b.Y0\/(a.Y0=b.Y0/\a.Y1=b.Y1/\a.X1<b.X0)
theorem Dq.apart {a b:aI} (h:Dq a b):Ls a b:=fun x y ⟨h1,h2⟩=>by
 rw [H8] at h1 h2
 rcases h with h | h <;> omega
theorem vJ: ∀{s:List aA},eC (s.map bR)->(aO s).Pairwise Dq
 | [],_=>jR
 | b::s,h=>by
  rw [me,List.pairwise_append]
  refine⟨?_,vJ h.tail,fun x hx y hy=>?_⟩
  ·unfold mc
   rw [List.pairwise_map]
   exact List.Pairwise.imp (fun hpq=> .inr ⟨rfl,rfl,hpq⟩) (vI (h.each (bR b) (by simp)).2.2.1)
  ·unfold mc at hx
   obtain⟨p,_,rfl⟩:=cR.1 hx
   obtain⟨c,hc,q,_,rfl⟩:=n8 hy
   exact .inl (h.yg (bR c) (cR.2 ⟨c,hc,rfl⟩))
theorem zT {s:List aA} (h:eC (s.map bR)): ∀r∈aO s,r.X0<r.X1/\r.Y0<r.Y1:=fun r hr=>by
 obtain⟨b,hb,p,hp,rfl⟩:=n8 hr
 have hc:=h.each (bR b) (cR.2 ⟨b,hb,rfl⟩)
 exact⟨Dd hc.2.2.1 p hp,hc.1⟩
theorem Cs {s:List aA} (h:eC (s.map bR)): (aO s).Nodup:=by
 have h1:=vJ h
 have h2:=zT h
 refine List.Pairwise.imp_of_mem (fun{a b} ha hb hab e=>?_) h1
 subst e
 have:=h2 a ha
 rcases hab with h | h <;> omega
def nE (s:List Bd):Nat:=(s.map (fun b=>b.xs.length / 2)).sum
theorem si (s t:List Bd):nE (s++t)=nE s+nE t:=by unfold nE;rw [eQ,List.sum_append]
theorem Fh (s:List Bd) (b:Bd):nE (mb s b)<=nE s+b.xs.length / 2:=by
 unfold mb
 split
 ·omega
 ·split
  ·rename_i c hc
   have hsp:=qA hc
   have e:nE s=nE s.dropLast+c.xs.length / 2:=by
    conv=>lhs;rw [hsp,si]
    simp [nE]
   split
   ·rw [si,e];simp [nE]
   ·rw [si];simp [nE]
  ·simp [nE]
structure M5 (t:List Bd):Prop where
 each: ∀b∈t,b.y0<b.y1/\l6 b.xs/\b.xs.length % 2=0
 ord:t.Pairwise (fun b c=>b.y1<=c.y0)
theorem fold_push: ∀(t out:List Bd),M5 t->eC out->(∀c∈out,∀b∈t,c.y1<=b.y0)->eC (t.foldl mb out)/\nE (t.foldl mb out)<=nE out+nE t/\
  ∀y,rowAt (t.foldl mb out) y=if (∃b∈t,b.y0<=y/\y<b.y1) then rowAt t y else rowAt out y
 | [],out,_,hc,_=>⟨hc,by simp [nE],fun y=>by simp⟩
 | b::t,out,hl,hc,ho=>by
  have hb:=hl.each b (by simp)
  have hord:=List.pairwise_cons.1 hl.ord
  have ho1: ∀c∈out,c.y1<=b.y0:=fun c h=>ho c h b (by simp)
  have h1:=wj hc ho1 hb.2.1 hb.2.2
  have htop:=wk ho1 (show b.y0<=b.y1 by omega)
  obtain⟨f1,f2,f3⟩:=fold_push t (mb out b) ⟨fun c hcm=>hl.each c (jy _ hcm),hord.2⟩ h1 (fun c hcm d hd=>by have:=htop c hcm;have:=hord.1 d hd;omega)
  refine⟨f1,?_,fun y=>?_⟩
  ·have:=Fh out b
   have e:nE (b::t)=b.xs.length / 2+nE t:=by simp [nE]
   rw [List.foldl_cons,e];omega
  ·rw [List.foldl_cons,f3 y,wi ho1 (fun c hcm=>(hc.each c hcm).1) (fun h=>absurd h (by omega)),kS]
   by_cases hy:b.y0<=y/\y<b.y1
   ·have hn: ¬∃c∈t,c.y0<=y/\y<c.y1:=fun⟨c,hcm,h⟩=>by have:=hord.1 c hcm;omega
    rw [aC hn,aD hy,aD ⟨b,by simp,hy⟩,aD hy]
   ·rw [aC hy]
    by_cases h: ∃c∈t,c.y0<=y/\y<c.y1
    ·obtain⟨c,hcm,h⟩:=h
     rw [aD ⟨c,hcm,h⟩,aD ⟨c,jy _ hcm,h⟩,aC hy]
    ·rw [aC h,aC hy,aC (show ¬∃c∈b::t,c.y0<=y/\y<c.y1 from fun⟨c,hcm,h2⟩=>by
      rcases fN.1 hcm with rfl | hcm
      ·exact hy h2
      ·exact h ⟨c,hcm,h2⟩)]
noncomputable def nL (C:List aI) (b:aA):Bd:=⟨b.Y0,b.Y1,o7 ((zL b.Xs).filter (fun p=>decide ((⟨p.1,b.Y0,p.2,b.Y1⟩:aI)∈C)))⟩
theorem Fi {l m:List (Int×Int)} (h:l.Sublist m): (o7 l).Sublist (o7 m):=by
 induction h with
 | slnil=>exact List.Sublist.refl _
 | cons a _ ih=>rw [mV];exact(ih.cons _).cons _
 | cons_cons a _ ih=>rw [mV,mV];exact(ih.cons_cons _).cons_cons _
theorem yI (l:List (Int×Int)): (o7 l).length % 2=0/\(o7 l).length / 2=l.length:=by rw [E0];omega
theorem zU {s p:List aA} {C:List aI} (hs:eC (s.map bR)) (hp:eC (p.map bR)) (hC: ∀r∈C,r∈aO s) (hcov: ∀x y,vn (p.map bR) x y=wO C x y): (aO p).length<=C.length:=by
 have hinc: ∀b∈s,l6 (nL C b).xs:=fun b hb=>by
  have h1:=Ec hs b hb
  have h2:=Fi (List.filter_sublist (l:=zL b.Xs) (p:=fun p=>decide ((⟨p.1,b.Y0,p.2,b.Y1⟩:aI)∈C)))
  rw [vr (pZ hs b hb)] at h2
  exact List.Pairwise.sublist h2 h1
 have hlow:M5 (s.map (nL C)):=by
  refine⟨fun b hb=>?_,?_⟩
  ·obtain⟨c,hc,rfl⟩:=cR.1 hb
   exact⟨(hs.each (bR c) (cR.2 ⟨c,hc,rfl⟩)).1,hinc c hc,(yI _).1⟩
  ·have:=hs.ord
   rw [List.pairwise_map] at this ⊢
   exact List.Pairwise.imp (fun h=>h.1) this
 obtain⟨f1,f2,f3⟩:=fold_push (s.map (nL C)) [] hlow eC.nil (fun c hc=>by cases hc)
 have hrow: ∀{t:List aA},(∀b∈t,b∈s)->∀x y,mE (rowAt (t.map (nL C)) y) x=true->wO C x y=true:=by
  intro t ht x y h
  induction t with
  | nil=>cases h
  | cons b t ih=>
   rw [eG,kS] at h
   split at h
   ·rename_i hy
    have hbm:=ht b (by simp)
    have h1:=hinc b hbm
    have h:mE (o7 ((zL b.Xs).filter (fun p=>decide ((⟨p.1,b.Y0,p.2,b.Y1⟩:aI)∈C)))) x=true:=h
    rw [vo h1,yk] at h
    obtain⟨q,hq,h2⟩:=h
    have hq:=iB.1 hq
    exact j6.2 ⟨_,of_decide_eq_true hq.2,h2,hy⟩
   ·exact ih (fun c hc=>ht c (jy _ hc)) h
 have hrow2: ∀x y,wO C x y=true->mE (rowAt (s.map (nL C)) y) x=true:=by
  intro x y h
  obtain⟨r,hr,h1,h2⟩:=j6.1 h
  obtain⟨b,hb,q,hq,rfl⟩:=n8 (hC r hr)
  dsimp only at h1 h2
  have key: ∀{t:List aA},(∀c∈t,c∈s)->eC (t.map bR)->b∈t->rowAt (t.map (nL C)) y= (nL C b).xs:=by
   intro t ht hc hbt
   induction t with
   | nil=>cases hbt
   | cons c t ih=>
    rw [eG,kS]
    by_cases hy:c.Y0<=y/\y<c.Y1
    ·rw [aD (show (nL C c).y0<=y/\y< (nL C c).y1 from hy)]
     rcases fN.1 hbt with rfl | hbt
     ·rfl
     ·have:=hc.yg (bR b) (cR.2 ⟨b,hbt,rfl⟩)
      have e1: (bR c).y1=c.Y1:=rfl
      have e2: (bR b).y0=b.Y0:=rfl
      omega
    ·rw [aC (show ¬((nL C c).y0<=y/\y< (nL C c).y1) from hy)]
     rcases fN.1 hbt with rfl | hbt
     ·exact absurd h2 hy
     ·exact ih (fun d hd=>ht d (jy _ hd)) hc.tail hbt
  rw [key (fun c hc=>hc) hs hb]
  have h1':=hinc b hb
  show mE (o7 ((zL b.Xs).filter (fun p=>decide ((⟨p.1,b.Y0,p.2,b.Y1⟩:aI)∈C)))) x=true
  rw [vo h1',yk]
  exact⟨q,iB.2 ⟨hq,cD hr⟩,h1⟩
 have hsame:p.map bR= (s.map (nL C)).foldl mb []:=yi hp f1 fun x y=>by
  rw [hcov,fO]
  have e:rowAt ((s.map (nL C)).foldl mb []) y=rowAt (s.map (nL C)) y:=by
   rw [f3]
   by_cases h: ∃b∈s.map (nL C),b.y0<=y/\y<b.y1
   ·rw [aD h]
   ·rw [aC h]
    exact(j5 fun b hb=>by
     have: ¬(b.y0<=y/\y<b.y1):=fun h2=>h ⟨b,hb,h2⟩
     omega).symm
  unfold vn
  rw [e]
  exact⟨hrow2 x y,hrow (fun b hb=>hb) x y⟩
 have hc1: (aO p).length=nE (p.map bR):=by
  have: ∀p:List aA,(aO p).length=nE (p.map bR):=fun p=>by
   induction p with
   | nil=>rfl
   | cons b p ih=>rw [me,dW,ln,ih];unfold nE;rw [eG,eG,List.sum_cons];rfl
  exact this p
 have hc2: ∀s:List aA,nE (s.map (nL C))= ((aO s).filter (fun r=>decide (r∈C))).length:=fun s=>by
  induction s with
  | nil=>rfl
  | cons b s ih=>
   rw [me,g8,dW,<-ih]
   unfold nE
   rw [eG,eG,List.sum_cons]
   congr 1
   show (o7 _).length / 2=_
   rw [(yI _).2]
   unfold mc
   rw [List.filter_map,fD];rfl
 have hc3: ((aO s).filter (fun r=>decide (r∈C))).length<=C.length:=dN (List.Nodup.sublist List.filter_sublist (Cs hs)) fun r hr=>of_decide_eq_true (iB.1 hr).2
 rw [hc1,hsame]
 have e0:nE ([]:List Bd)=0:=rfl
 have:=hc2 s
 omega
end Go.Gk
namespace Go.Gk
open Go Classical
section
variable {N:Nat}
theorem tB {all:List aI} (w:aI->Nat): ∀(c:List Nat),((c.filterMap (fun i=>all[i]?)).map w).sum= (c.map (fun i=>(all[i]?).elim 0 w)).sum
 | []=>rfl
 | i::c=>by
  rw [eG,List.sum_cons,<-tB w c]
  cases h:all[i]? with
  | none=>rw [List.filterMap_cons_none (f:=fun i=>all[i]?) h];simp
  | some x=>rw [List.filterMap_cons_some (f:=fun i=>all[i]?) h,eG,List.sum_cons];rfl
theorem H9 {all:List aI} {u:Nat->Nat} (h: ∀i,i<all.length->u i∈bV all.length u) (w:aI->Nat): ((bV all.length u).map (fun k=>((mh all all.length u k).map w).sum)).sum= (all.map w).sum:=by
 have e: (fun k=>((mh all all.length u k).map w).sum)=fun k=>(((List.range all.length).filter (fun x=>decide (u x=k))).map (fun i=>(all[i]?).elim 0 w)).sum:=by
  funext k;unfold mh;rw [tB];rfl
 rw [e,Cr (mf _ _) u _ (fun x hx=>h x (gm.1 hx))]
 have: ∀m,m<=all.length->((List.range m).map (fun i=>(all[i]?).elim 0 w)).sum= ((all.take m).map w).sum:=by
  intro m
  induction m with
  | zero=>intro _;rfl
  | succ m ih=>
   intro hm
   rw [yH,ih (by omega),fu (by omega),eQ,List.sum_append,aJ (by omega)]
   simp
 rw [this _ (bP _),eR]
theorem yJ: ∀{l m:List Nat},l.length=m.length->(∀(j x y:Nat),l[j]? =some x->m[j]? =some y->x<=y)->l.sum<=m.sum
 | [],[],_,_=>bP _
 | [],_::_,h,_=>by simp at h
 | _::_,[],h,_=>by simp at h
 | a::l,b::m,h,hle=>by
  have h1:=hle 0 a b rfl rfl
  have h2:=yJ (l:=l) (m:=m) (by simpa using h) fun j x y hx hy=>hle (j+1) x y (by simpa using hx) (by simpa using hy)
  rw [List.sum_cons,List.sum_cons];omega
theorem Ia {r hs:List aI} {s:List aA} (h1: ∀x∈r,dA x=true) (h2: ∀x∈hs,dA x=true) (hc:eC (s.map bR)) (hl:uy (pW r++pW hs) (lL r++lL hs) (s.map bR)): ∀q∈aO s,dA q=true/\q.X0<q.X1/\q.Y0<q.Y1:=by
 intro q hq
 have hp:=zT hc q hq
 obtain⟨b,hb,p,hpm,rfl⟩:=n8 hq
 have hll:=hl (bR b) (cR.2 ⟨b,hb,rfl⟩)
 have hm:=AU p hpm
 have bx: ∀c∈pW r++pW hs,-1000000<=c/\c<=1000000:=fun c hcm=>by
  rcases cU.1 hcm with h | h
  ·obtain⟨x,hx,h⟩:=pX.1 h
   have:=gZ (h1 x hx)
   rcases h with rfl | rfl <;> omega
  ·obtain⟨x,hx,h⟩:=pX.1 h
   have:=gZ (h2 x hx)
   rcases h with rfl | rfl <;> omega
 have by': ∀c∈lL r++lL hs,-1000000<=c/\c<=1000000:=fun c hcm=>by
  rcases cU.1 hcm with h | h
  ·obtain⟨x,hx,h⟩:=kU.1 h
   have:=gZ (h1 x hx)
   rcases h with rfl | rfl <;> omega
  ·obtain⟨x,hx,h⟩:=kU.1 h
   have:=gZ (h2 x hx)
   rcases h with rfl | rfl <;> omega
 have g1:=bx _ (hll.2.2 p.1 hm.1)
 have g2:=bx _ (hll.2.2 p.2 hm.2)
 have g3:=by' _ hll.1
 have g4:=by' _ hll.2.1
 exact⟨yy ⟨g1,g3,g2,g4⟩,hp⟩
structure qG (r hs:List aI) (s:List aA) (u:Nat->Nat) (ps:List (List aA)):Prop where
 r1: ∀x∈r,dA x=true
 r2: ∀x∈hs,dA x=true
 k1: ∀x∈r,CI x
 k2: ∀x∈hs,CI x
 dr:sR r hs s
 pt:qC s u ps
 A0: (aO s).length<=2000
theorem qG.part {r hs:List aI} {s:List aA} {u:Nat->Nat} {ps:List (List aA)} (h:qG r hs s u ps) {p:List aA} (hp:p∈ps):eC (p.map bR)/\(aO p).length<=2000/\∀q∈aO p,dA q=true/\q.X0<q.X1/\q.Y0<q.Y1:=by
 obtain⟨sx,sy⟩:=h.dr.small h.k1 h.k2
 obtain⟨j,k,g1,g2,g3,g4⟩:=yB h.pt h.dr.can h.dr.lim sx sy hp
 have:=zU h.dr.can g3.can (fun x hx=>by
  obtain⟨i,_,_,hi⟩:=nj.1 hx
  exact gT hi) g3.cover
 have h2:=yu (aO s) (aO s).length u k
 have:=h.A0
 exact⟨g3.can,by omega,Ia h.r1 h.r2 g3.can g4⟩
theorem qG.bV {r hs:List aI} {s:List aA} {u:Nat->Nat} {ps:List (List aA)} (h:qG r hs s u ps): ∀i,i< (aO s).length->u i∈Gk.bV (aO s).length u:=fun i hi=>hZ.2 ⟨by have:=h.pt.join.le i hi;omega,h.pt.join.rr i hi⟩
theorem qG.total {r hs:List aI} {s:List aA} {u:Nat->Nat} {ps:List (List aA)} (h:qG r hs s u ps): (ps.map (fun p=>(aO p).length)).sum<=(aO s).length:=by
 have h1:=H9 h.bV (fun _=>1)
 have one: ∀l:List aI,(l.map (fun _=>1)).sum=l.length:=fun l=>by
  induction l with
  | nil=>rfl
  | cons x l ih=>simp only [eG,List.sum_cons,ih,je];omega
 simp only [one] at h1
 rw [<-h1]
 refine yJ (by simp [h.pt.len]) fun j x y hx hy=>?_
 rw [fG,Option.map_eq_some_iff] at hx hy
 obtain⟨p,hp,rfl⟩:=hx
 obtain⟨k,hk,rfl⟩:=hy
 have hs:=h.pt.each j k p hk hp
 exact zU h.dr.can hs.can (fun x hx=>by
  obtain⟨i,_,_,hi⟩:=nj.1 hx
  exact gT hi) hs.cover
theorem wR {ps:List (List aA)} {x y:Int}:wO (ps.flatMap aO) x y=true↔∃p∈ps,wO (aO p) x y=true:=by
 rw [j6]
 constructor
 ·rintro⟨r,hr,h⟩
  obtain⟨p,hp,hrp⟩:=List.mem_flatMap.1 hr
  exact⟨p,hp,j6.2 ⟨r,hrp,h⟩⟩
 ·rintro⟨p,hp,h⟩
  obtain⟨r,hr,h⟩:=j6.1 h
  exact⟨r,List.mem_flatMap.2 ⟨p,hp,hr⟩,h⟩
theorem qG.cover {r hs:List aI} {s:List aA} {u:Nat->Nat} {ps:List (List aA)} (h:qG r hs s u ps) (x y:Int):wO (ps.flatMap aO) x y=vn (s.map bR) x y:=by
 rw [<-sL h.dr.can,fO,wR]
 constructor
 ·rintro⟨p,hp,hc⟩
  obtain⟨j,hj⟩:=gk hp
  have hjl:=(bD.1 hj).1
  have hk: (Gk.bV (aO s).length u)[j]? =some ((Gk.bV (aO s).length u)[j]'(by rw [<-h.pt.len];exact hjl)):=aJ _
  have hs:=h.pt.each j _ _ hk hj
  rw [sL hs.can,hs.cover] at hc
  obtain⟨q,hq,h2⟩:=j6.1 hc
  obtain⟨i,_,_,hi⟩:=nj.1 hq
  exact j6.2 ⟨q,gT hi,h2⟩
 ·intro hc
  obtain⟨q,hq,h2⟩:=j6.1 hc
  obtain⟨i,hi⟩:=gk hq
  have hil:=(bD.1 hi).1
  obtain⟨j,hj⟩:=gk (h.bV i hil)
  have hjl:j<ps.length:=by rw [h.pt.len];exact(bD.1 hj).1
  have hs:=h.pt.each j _ _ hj (aJ hjl)
  refine⟨_,cJ hjl,?_⟩
  rw [sL hs.can,hs.cover]
  exact j6.2 ⟨q,nj.2 ⟨i,hil,rfl,hi⟩,h2⟩
section
variable {a:gS} {jQ:List (List aA)} {cQ:List (List (List aA))} {r:Nat->Nat} {gs:List cI} {ofP ofB fH:List Int} {fC:List dU}
theorem Ct (b:j8 a jQ cQ r gs ofP ofB fH fC) {i:Nat} (hi:i<a.aL.length): ∃s ps u,jQ[i]? =some s/\cQ[i]? =some ps/\qG a.aL[i] (nk a.aW ((i:Nat):Int)) s u ps:=by
 have hd:jQ[i]? =some (jQ[i]'(by rw [b.dr.len];exact hi)):=aJ _
 have hp:cQ[i]? =some (cQ[i]'(by rw [b.dr.AZ];exact hi)):=aJ _
 have hdr:=b.dr.dr i _ _ hi (aJ hi) hd
 obtain⟨u,hu⟩:=b.dr.pt i _ _ hi hd hp
 have hreg:=pd.1 (b.Dp.M4 _ (cJ hi))
 exact⟨_,_,u,hd,hp,fun x hx=>((pC.1 hreg.1).2 x hx).1,fun x hx=>(vz b.Dp.gb _ x hx).2,(Dj hreg.1).2,fun x hx=>(vz b.Dp.gb _ x hx).1,hdr,hu,b.A0.1 _ (gT hd)⟩
end
end
end Go.Gk
namespace Go.Gk
open Go Classical
def A5 (f:Int->Int->Bool) (x y:Int):Prop:=f x y=true/\∀x' y',f x' y'=true->y<y'\/(y=y'/\x<=x')
theorem A5.unique {f:Int->Int->Bool} {x y x' y':Int} (h:A5 f x y) (h':A5 f x' y'):x=x'/\y=y':=by
 have h1:=h.2 _ _ h'.1
 have h2:=h'.2 _ _ h.1
 omega
section
variable {N:Nat}
structure BI (all:List aI) (u:Nat->Nat) (i:Nat) (q:List Nat) (done:List Bool) (own:List aI):Prop where
 len:done.length=all.length
 nd:q.Nodup
 lt: ∀k∈q,k<all.length/\u k=i
 hd:i∈q
 dn: ∀k,k<all.length->done[k]? =some (decide (u k<i\/k∈q))
 ow:own.map some=q.map (fun k=>all[k]?)
theorem BI.A0 {all:List aI} {u:Nat->Nat} {i:Nat} {q:List Nat} {done:List Bool} {own:List aI} (h:BI all u i q done own):q.length<=all.length:=by
 have:=dN h.nd (m:=List.range all.length) (fun k hk=>by rw [gm];exact(h.lt k hk).1)
 rwa [List.length_range] at this
theorem BI.at_ {all:List aI} {u:Nat->Nat} {i:Nat} {q:List Nat} {done:List Bool} {own:List aI} (h:BI all u i q done own) {p k:Nat} (hk:q[p]? =some k):own[p]? =all[k]? :=by
 have e:=congrArg (fun l=>l[p]?) h.ow
 simp only [fG,hk,Option.map_some] at e
 cases ho:own[p]? with
 | none=>rw [ho] at e;cases e
 | some x=>rw [ho] at e;injection e
theorem BI.mem {all:List aI} {u:Nat->Nat} {i:Nat} {q:List Nat} {done:List Bool} {own:List aI} (h:BI all u i q done own) {r:aI}:r∈own↔∃k∈q,all[k]? =some r:=by
 have:r∈own↔some r∈own.map some:=by simp
 rw [this,h.ow,cR]
end
end Go.Gk
namespace Go.Gk
open Go Classical
section
variable {α β:Type}
theorem GZ {N:Nat} {l:List α} {s:β} {φ:α->β->Option Int} (c:α->Int) (hφ: ∀x,φ x s=some (c x)) (hs: ∀(i j:Nat) (x y:α),i<j->l[i]? =some x->l[j]? =some y->0<=c x->0<c y)
  (hl:l.length<=1048576) (hN:4194304<=N): ∃r,Gr N l s φ=some r/\r.2=l.any (fun x=>c x==0)/\(r.2=true->r.1=D1 l (fun x=>c x==0)):=by
 show Ok (Gr N l s φ) (fun r=>r.2=l.any (fun x=>c x==0)/\(r.2=true->r.1=D1 l (fun x=>c x==0)))
 unfold Gr
 refine Ok.bind (Ok.np (Go:=fun st:Int×Int=>∃a:Nat,st.1= ((a:Nat):Int)/\a<=l.length/\(∀j x,j<a->l[j]? =some x->c x<0)/\(∀j x,a<=j->l[j]? =some x->0<=c x)) (Rt:=fun _=>True)
  (fun st=>∃a b:Nat,st= (((a:Nat):Int),((b:Nat):Int))/\a<=b/\b<=l.length/\(∀j x,j<a->l[j]? =some x->c x<0)/\(∀j x,b<=j->l[j]? =some x->0<=c x))
  (fun st=>(st.2 - st.1).toNat) ?_ ⟨0,l.length,rfl,by omega,bP _,fun j x hj=>by omega,fun j x hj hx=>by have:=(bD.1 hx).1;omega⟩ (by simp only;omega)) ?_
 ·rintro st ⟨a,b,rfl,hab,hb,h1,h2⟩
  dsimp only
  by_cases hlt:a<b
  ·have hm: (a+b) / 2<l.length:=by omega
   have hx:l[(a+b) / 2]? =some l[(a+b) / 2]:=aJ hm
   rw [show decide (((a:Nat):Int)< ((b:Nat):Int))=true by rw [bK];omega,aR,EU hlt (by omega:b<=4611686018427387904)]
   refine Ok.ix hx (Ok.eq (hφ _) ?_)
   by_cases hc:c l[(a+b) / 2]<0
   ·rw [cD hc,aR,aB]
    refine Ok.nx ⟨⟨(a+b) / 2+1,b,?_,by omega,hb,fun j x hj hx'=>?_,h2⟩,?_⟩
    ·rw [fK (by omega)]
    ·by_cases e:j= (a+b) / 2
     ·subst e;rw [hx] at hx';injection hx' with hx';rw [<-hx'];exact hc
     ·by_cases h0:c x<0
      ·exact h0
      ·have:=hs j _ x _ (by omega) hx' hx (by omega)
       omega
    ·rw [fK (by omega)];simp only;omega
   ·rw [bF hc,aS,aB]
    refine Ok.nx ⟨⟨a,(a+b) / 2,rfl,by omega,by omega,h1,fun j x hj hx'=>?_⟩,by simp only;omega⟩
    by_cases e:j= (a+b) / 2
    ·subst e;rw [hx] at hx';injection hx' with hx';rw [<-hx'];omega
    ·have:=hs _ j _ x (by omega) hx hx' (by omega)
     omega
  ·rw [show decide (((a:Nat):Int)< ((b:Nat):Int))=false by rw [decide_eq_false_iff_not];omega,aS]
   exact Ok.br ⟨a,rfl,by omega,h1,fun j x hj hx=>h2 j x (by omega) hx⟩
 intro o ho
 refine Ok.cs ho ?_ (fun r hr=>r.elim)
 rintro⟨st1,st2⟩ ⟨a,ha,hle,h1,h2⟩
 dsimp only at ha ⊢
 subst ha
 by_cases hlt:a<l.length
 ·have hx:l[a]? =some l[a]:=aJ hlt
  rw [show decide (((a:Nat):Int)< ((l.length:Nat):Int))=true by rw [bK];omega,aR,dD hx,aB,hφ,aB,aB]
  refine Ok.ret ?_
  by_cases he:c l[a]=0
  ·have hb: (c l[a]==0)=true:=by rw [beq_iff_eq];exact he
   rw [hb]
   refine⟨(jA.2 ⟨_,cJ hlt,hb⟩).symm,fun _=>?_⟩
   rw [Gm hx hb (fun j y hj hy=>by have:=h1 j y hj hy;rw [beq_eq_false_iff_ne];omega)]
  ·have hb: (c l[a]==0)=false:=by rw [beq_eq_false_iff_ne];exact he
   rw [hb]
   refine⟨?_,fun h=>by cases h⟩
   symm
   rw [List.any_eq_false]
   intro x hx'
   obtain⟨j,hj⟩:=gk hx'
   rw [oT,beq_eq_false_iff_ne]
   by_cases hja:j<a
   ·have:=h1 j x hja hj;omega
   ·by_cases e:j=a
    ·subst e;rw [hx] at hj;injection hj with hj;rw [<-hj];exact he
    ·have h3:=h2 a _ (bP _) hx
     have:=hs a j _ x (by omega) hx hj h3
     omega
 ·rw [show decide (((a:Nat):Int)< ((l.length:Nat):Int))=false by rw [decide_eq_false_iff_not];omega,aS,aB]
  refine Ok.ret ⟨?_,fun h=>by cases h⟩
  symm
  rw [List.any_eq_false]
  intro x hx'
  obtain⟨j,hj⟩:=gk hx'
  have:=(bD.1 hj).1
  have:=h1 j x (by omega) hj
  rw [oT,beq_eq_false_iff_ne];omega
end
def vK (p q:fV):Prop:=dJ.lt p.Part q.Part\/(p.Part=q.Part/\dJ.lt p.fV q.fV)
theorem Ei {p q:fV} (h1:p.Part=q.Part) (h2:p.fV=q.fV):p=q:=by cases p;cases q;simp at h1 h2;subst h1;subst h2;rfl
theorem vK.irrefl (p:fV): ¬vK p p:=fun h=>by
 rcases h with h | ⟨_,h⟩
 ·exact dJ.lt_irrefl _ h
 ·exact dJ.lt_irrefl _ h
theorem vK.trans {p q r:fV} (h1:vK p q) (h2:vK q r):vK p r:=by
 rcases h1 with h1 | ⟨e1,h1⟩ <;> rcases h2 with h2 | ⟨e2,h2⟩
 ·exact .inl (dJ.lt_trans h1 h2)
 ·exact .inl (by rw [<-e2];exact h1)
 ·exact .inl (by rw [e1];exact h2)
 ·exact .inr ⟨e1.trans e2,dJ.lt_trans h1 h2⟩
theorem vK.total (p q:fV):vK p q\/p=q\/vK q p:=by
 rcases dJ.B9 p.Part q.Part with h | h | h
 ·exact .inl (.inl h)
 ·rcases dJ.B9 p.fV q.fV with h' | h' | h'
  ·exact .inl (.inr ⟨h,h'⟩)
  ·exact .inr (.inl (Ei h h'))
  ·exact .inr (.inr (.inr ⟨h.symm,h'⟩))
 ·exact .inr (.inr (.inl h))
theorem vK.asymm {p q:fV} (h:vK p q): ¬vK q p:=fun h'=>vK.irrefl p (h.trans h')
theorem vK.ne {p q:fV} (h:vK p q):p≠q:=fun e=>by subst e;exact vK.irrefl _ h
theorem qc {a b:dJ}:Lib.compareBytes a.cS b.cS=0↔a=b:=⟨fun h=>dJ.ext' ((tT _ _).1 h),fun h=>(tT _ _).2 (by rw [h])⟩
theorem lr {p q:fV}:gx p q=0↔p=q:=by
 unfold gx
 by_cases h:Lib.compareBytes p.Part.cS q.Part.cS=0
 ·rw [aC (by simpa using h),qc]
  exact⟨fun h'=>Ei (qc.1 h) h',fun h'=>by rw [h']⟩
 ·rw [aD h]
  exact⟨fun h'=>absurd h' h,fun h'=>absurd (qc.2 (by rw [h'])) h⟩
theorem yK {p q:fV}:gx p q<0↔vK p q:=by
 unfold gx vK
 by_cases h:Lib.compareBytes p.Part.cS q.Part.cS=0
 ·rw [aC (by simpa using h),tS]
  have e:=qc.1 h
  constructor
  ·exact fun h'=> .inr ⟨e,h'⟩
  ·rintro(h' | ⟨_,h'⟩)
   ·rw [e] at h';exact absurd h' (dJ.lt_irrefl _)
   ·exact h'
 ·rw [aD h,tS]
  constructor
  ·exact fun h'=> .inl h'
  ·rintro(h' | ⟨e,_⟩)
   ·exact h'
   ·exact absurd (qc.2 e) h
theorem l7 {p q:fV}:0<gx p q↔vK q p:=by
 constructor
 ·intro h
  rcases vK.total p q with h' | h' | h'
  ·have:=yK.2 h';omega
  ·have:=lr.2 h';omega
  ·exact h'
 ·intro h
  by_cases h1:gx p q<0
  ·exact absurd (yK.1 h1) h.asymm
  ·by_cases h2:gx p q=0
   ·exact absurd (lr.1 h2).symm h.ne
   ·omega
section
variable {N:Nat}
structure Dr (a:gS) (x:cY):Prop where
 name:pB x.Part=true/\isWord x.fV=true
 Lo:0<=x.cZ/\x.cZ< ((a.aL.length:Nat):Int)
 at_:tx x.At=true
structure qd (a:gS):Prop where
 A0:a.bJ.length<=1000
 each: ∀x∈a.bJ,Dr a x
 up:a.bJ.Pairwise (fun x y=>vK (kV x) (kV y))
theorem A6 {a:gS} {k:Nat} {x:cY} (hx:a.bJ[k]? =some x) (h:lq a k=none):Dr a x/\∀y,0<k->a.bJ[k - 1]? =some y->vK (kV y) (kV x):=by
 unfold lq at h
 rw [hx,Option.bind_some] at h
 split at h
 ·rename_i h1
  split at h
  ·rename_i h2
   split at h
   ·cases h
   ·rename_i h3
    rw [bT] at h1 h2
    unfold ig at h2
    rw [bT,bK,bK] at h2
    refine⟨⟨h1,⟨by omega,by omega⟩,h2.2⟩,fun y hk hy=>?_⟩
    have h4: ¬gx (kV x) (kV y)<=0:=fun h4=>h3 ⟨hk,y,hy,h4⟩
    exact l7.1 (by omega)
  ·cases h
 ·cases h
theorem Ds {a:gS} {k:Nat} {e:Int} (h:lq a k=some e):e≠0:=by
 unfold lq at h
 cases hx:a.bJ[k]? with
 | none=>rw [hx] at h;cases h
 | some x=>
  rw [hx,Option.bind_some] at h
  repeat' split at h
  all_goals first | (injection h with h;omega) | cases h
theorem Fj {a:gS} (h:kW a=0):qd a:=by
 unfold kW at h
 split at h
 ·omega
 rename_i hl
 have hn:m9 a.bJ.length (lq a)=none:=by
  cases hf:m9 a.bJ.length (lq a) with
  | none=>rfl
  | some e=>
   rw [hf] at h
   obtain⟨k,_,hk,_⟩:=iK.1 hf
   exact absurd h (Ds hk)
 rw [gC] at hn
 have hg: ∀(k:Nat) x,a.bJ[k]? =some x->Dr a x/\∀y,0<k->a.bJ[k - 1]? =some y->vK (kV y) (kV x):=fun k x hx=>A6 hx (hn k (bD.1 hx).1)
 refine⟨by omega,fun x hx=>?_,?_⟩
 ·obtain⟨k,hk⟩:=gk hx
  exact(hg k x hk).1
 ·have hstep: ∀(n i:Nat) x y,a.bJ[i]? =some x->a.bJ[i+n+1]? =some y->vK (kV x) (kV y):=by
   intro n
   induction n with
   | zero=>intro i x y hx hy;exact(hg (i+1) y hy).2 x (by omega) hx
   | succ n ih=>
    intro i x y hx hy
    have hz:i+n+1<a.bJ.length:=by have:=(bD.1 hy).1;omega
    have h1:=ih i x _ hx (aJ hz)
    exact h1.trans ((hg (i+ (n+1)+1) y hy).2 _ (by omega) (by rw [show i+ (n+1)+1 - 1=i+n+1 by omega];exact aJ hz))
  rw [lR]
  intro i j hi hj hij
  exact hstep (j - i - 1) i _ _ (aJ hi) (by rw [show i+ (j - i - 1)+1=j by omega];exact aJ hj)
theorem qd.inj {a:gS} (h:qd a) {i j:Nat} {x y:cY} (hx:a.bJ[i]? =some x) (hy:a.bJ[j]? =some y) (e:kV x=kV y):i=j:=by
 obtain⟨h1,rfl⟩:=bD.1 hx
 obtain⟨h2,rfl⟩:=bD.1 hy
 have hp:=lR.1 h.up
 rcases Nat.lt_trichotomy i j with h3 | h3 | h3
 ·exact absurd e (hp i j h1 h2 h3).ne
 ·exact h3
 ·exact absurd e.symm (hp j i h2 h1 h3).ne
theorem Cu {l:List cY} {p:fV} (hu:l.Pairwise (fun x y=>vK (kV x) (kV y))) (hl:l.length<=1048576) (hN:4194304<=N) {φ:cY->fV->Option Int} (hφ: ∀x,φ x p=some (gx (kV x) p)):
  ∃r,Gr N l p φ=some r/\(bif (!r.2) then (some (-1)) else (some r.1))=some (D1 l (fun x=>decide (kV x=p))):=by
 obtain⟨r,h1,h2,h3⟩:=GZ (N:=N) (l:=l) (s:=p) (φ:=φ) (fun x=>gx (kV x) p) hφ (fun i j x y hij hx hy hc=>by
  obtain⟨g1,rfl⟩:=bD.1 hx
  obtain⟨g2,rfl⟩:=bD.1 hy
  have hlt:=lR.1 hu i j g1 g2 hij
  refine l7.2 ?_
  by_cases h0:gx (kV l[i]) p=0
  ·rw [<-lr.1 h0];exact hlt
  ·exact(l7.1 (by omega)).trans hlt) hl hN
 have e: (fun x=>gx (kV x) p==0)= (fun x=>decide (kV x=p)):=by
  funext x
  rw [fO,beq_iff_eq,bK,lr]
 rw [e] at h2 h3
 refine⟨r,h1,?_⟩
 cases hr:r.2 with
 | true=>simp only [lS,aS];rw [h3 hr]
 | false=>
  simp only [mj,aR]
  rw [hr] at h2
  rw [Gl h2.symm]
def kA (a:gS) (p:fV):Int:=D1 a.bJ (fun x=>decide (kV x=p))
theorem wS (a:gS) (p:fV): (kA a p = -1/\∀x∈a.bJ,kV x≠p)\/∃(k:Nat) (x:cY),kA a p= ((k:Nat):Int)/\a.bJ[k]? =some x/\kV x=p:=by
 rcases sI a.bJ (fun x=>decide (kV x=p)) with ⟨h1,h2⟩ | ⟨k,x,h1,h2,h3,_⟩
 ·exact .inl ⟨h1,fun x hx=>of_decide_eq_false (h2 x hx)⟩
 ·exact .inr ⟨k,x,h1,h2,of_decide_eq_true h3⟩
end
end Go.Gk
namespace Go.Gk
open Go Classical
section
variable {N:Nat}
end
end Go.Gk
namespace Go.Gk
open Go Classical
section
variable {N:Nat}
end
section
variable {N:Nat} {a:gS} {jQ:List (List aA)} {cQ:List (List (List aA))} {r:Nat->Nat} {gs:List cI} {ofP ofB fH:List Int} {fC:List dU}
theorem Cv (b:j8 a jQ cQ r gs ofP ofB fH fC) {p:aH} (hp:p∈bY 0 cQ):p.iZ.length<=2000/\(∀q∈p.iZ,dA q=true/\q.X0<q.X1/\q.Y0<q.Y1)/\∃i:Nat,p.cZ= ((i:Nat):Int)/\∀x y,wO p.iZ x y=true->wO (nk a.aW ((i:Nat):Int)) x y=false:=by
 obtain⟨i,ps,q,h1,h2,rfl⟩:=wA hp
 have hil:i<a.aL.length:=by have:=(bD.1 h1).1;rw [b.dr.AZ] at this;exact this
 obtain⟨s,ps',u,g1,g2,L⟩:=Ct b hil
 rw [h1] at g2;injection g2 with g2;subst g2
 obtain⟨k1,k2,k3⟩:=L.part h2
 refine⟨k2,k3,i,by simp,fun x y h=>?_⟩
 have h3:wO (ps.flatMap aO) x y=true:=wR.2 ⟨q,h2,h⟩
 rw [L.cover,L.dr.cover,bT,Bool.not_eq_true'] at h3
 exact h3.2
end
end Go.Gk
namespace Go.Gk
open Go Classical
structure PS (n:Nat) (r:Nat->Nat) (h:Nat) (q:List Nat) (seen:List Bool) (pieces todo:List Int):Prop where
 sl:seen.length=n
 sn: ∀p,p<n->seen[p]? =some (decide (r p<h\/p∈q))
 qn:q.Nodup
 qi: ∀p∈q,p<n/\r p=h
 q0:h∈q
 td:todo=ints q
 pi:l6 pieces
 pm: ∀x,x∈pieces↔∃p∈q,x= ((p:Nat):Int)
structure QS (n m:Nat) (tch:List (List Int)) (r:Nat->Nat) (h:Nat) (q qb:List Nat) (vF:List Int) (used:List Bool):Prop where
 ul:used.length=m
 un: ∀k,k<m->used[k]? =some (decide (k∈qb))
 bi:l6 vF
 bm: ∀x,x∈vF↔∃k∈qb,x= ((k:Nat):Int)
 bk: ∀k∈qb,k<m/\r (n+k)=h/\∀l,tch[k]? =some l->∀p:Nat,((p:Nat):Int)∈l->p∈q
theorem PS.A0 {n:Nat} {r:Nat->Nat} {h:Nat} {q:List Nat} {seen:List Bool} {pieces todo:List Int} (H:PS n r h q seen pieces todo):q.length<=n/\pieces.length<=n:=by
 have h1:=dN H.qn (m:=List.range n) (fun k hk=>by rw [gm];exact(H.qi k hk).1)
 rw [List.length_range] at h1
 have h2:=dN H.pi.nodup (m:=ints q) (fun x hx=>yC.2 ((H.pm x).1 hx))
 rw [mB] at h2
 exact⟨h1,by omega⟩
theorem QS.A0 {n m:Nat} {tch:List (List Int)} {r:Nat->Nat} {h:Nat} {q qb:List Nat} {vF:List Int} {used:List Bool} (H:QS n m tch r h q qb vF used):vF.length<=m:=by
 have h2:=dN H.bi.nodup (m:=ints (List.range m)) (fun x hx=>by
  obtain⟨k,hk,e⟩:=(H.bm x).1 hx
  exact yC.2 ⟨k,gm.2 (H.bk k hk).1,e⟩)
 rwa [mB,List.length_range] at h2
section
variable {N:Nat}
end
end Go.Gk
namespace Go.Gk
open Go Classical
structure Nh (G G':List cI):Prop where
 len:G'.length=G.length
 each: ∀(g:Nat) x,G[g]? =some x->∃y,G'[g]? =some y/\y.nu=x.nu/\y.aW=x.aW
section
variable {N:Nat}
end
section
variable {N:Nat} {a:gS} {jQ:List (List aA)} {cQ:List (List (List aA))} {r:Nat->Nat} {gs:List cI} {ofP ofB fH:List Int} {fC:List dU}
theorem j8.tA (b:j8 a jQ cQ r gs ofP ofB fH fC):qd a:=Fj b.Dp.tA
end
end Go.Gk
namespace Go.Gk
open Go Classical
section
variable {N:Nat} {a:gS} {jQ:List (List aA)} {cQ:List (List (List aA))} {r:Nat->Nat} {gs:List cI} {ofP ofB fH:List Int} {fC:List dU}
end
section
variable {N:Nat}
end
end Go.Gk
namespace Go.Gk
open Go Classical
section
variable {bs:List bZ} {ls:List cY} {pcs:List aH} {r:Nat->Nat} {gs:List cI} {ofP ofB fH:List Int} {fC:List dU}
theorem G0 (hc:yD bs ls pcs r gs ofP ofB fH fC):gs.length= (live bs pcs.length (pcs.length+bs.length) r (bV (pcs.length+bs.length) r)).length/\gs.length<=pcs.length+bs.length:=by
 have e:gs.length= (live bs pcs.length (pcs.length+bs.length) r (bV (pcs.length+bs.length) r)).length:=by
  rw [hc.gs,vE,sg]
 refine⟨e,?_⟩
 rw [e]
 have:=qF bs pcs.length (pcs.length+bs.length) r (bV (pcs.length+bs.length) r)
 have:=mX (pcs.length+bs.length) r
 omega
theorem Lt (hc:yD bs ls pcs r gs ofP ofB fH fC) {k:Nat} (hk:k<pcs.length):
  ∃g:Nat,ofP[k]? =some ((g:Nat):Int)/\g<gs.length/\(live bs pcs.length (pcs.length+bs.length) r (bV (pcs.length+bs.length) r))[g]? =some (r k):=by
 have hm:r k∈bV (pcs.length+bs.length) r:=hZ.2 ⟨by have:=hc.conn.le k (by omega);omega,hc.conn.rr k (by omega)⟩
 obtain⟨g1,g2⟩:=Co (bs:=bs) (n:=pcs.length) hm (GU hk (by omega))
 exact⟨_,hc.of.pc k hk hm,by rw [(G0 hc).1];exact g1,g2⟩
end
section
variable {N:Nat} {a:gS} {jQ:List (List aA)} {cQ:List (List (List aA))} {r:Nat->Nat} {gs:List cI} {ofP ofB fH:List Int} {fC:List dU}
end
section
variable {N:Nat}
end
end Go.Gk
namespace Go.Gk
open Go Classical
section
variable {N:Nat} {a:gS} {jQ:List (List aA)} {cQ:List (List (List aA))} {r:Nat->Nat} {gs:List cI} {ofP ofB fH:List Int} {fC:List dU}
theorem qe (g:qd a) (p:fV) (hN:4398046511104<=N):dR N a p=some (kA a p):=by
 obtain⟨r,h1,h2⟩:=Cu (N:=N) (p:=p) g.up (by have:=g.A0;omega) (by omega) (φ:=gL N) (fun x=>by unfold gL;rw [wy,aB,kd,aB])
 unfold dR
 have e:eK N a.bJ p (gL N)=Gr N a.bJ p (gL N):=rfl
 rw [e,h1,aB];exact h2
end
section
variable {N:Nat}
end
end Go.Gk
namespace Go.Gk
open Go Classical
theorem zf.uniq {n m:Nat} {tch:List (List Int)} {r1 r2:Nat->Nat} (h1:zf n m tch r1) (h2:zf n m tch r2) {i j:Nat} (hi:i<n+m) (hj:j<n+m):r1 i=r1 j↔r2 i=r2 j:=by
 have key: ∀{r1 r2:Nat->Nat},zf n m tch r1->zf n m tch r2->r1 i=r1 j->r2 i=r2 j:=fun{r1 r2} h1 h2 e=>
  (h1.fi (fun x=>r2 i=r2 x) (fun a b hab=>by rw [h2.co a b hab]) i j hi hj e) rfl
 exact⟨key h1 h2,key h2 h1⟩
section
variable {N:Nat} {a:gS} {jQ:List (List aA)} {cQ:List (List (List aA))} {r:Nat->Nat} {gs:List cI} {ofP ofB fH:List Int} {fC:List dU}
theorem Jz (x y:Int) (u:List Int):gM N x y [] u=dH N u x y:=by
 show (((dH N u x y).bind fun x38=>some x38).bind fun s36=>some s36)=_
 cases dH N u x y <;> rfl
theorem A7 {bs:List bZ} {pcs:List aH} {l:cY} {h:dU} (hh:nD bs pcs l=some h) (hn:pcs.length+bs.length<=1000000000):
  fZ N h ((pcs.length:Nat):Int)=some ((eP pcs.length h:Nat):Int)/\eP pcs.length h<pcs.length+bs.length:=by
 obtain⟨k,e,h1,h2⟩:=(Dn hh).num
 unfold fZ eP
 cases hB:h.bZ with
 | true=>
  have:=(h1 hB).1
  rw [aR,aD rfl,e,bS,wrap_add (by omega)]
  exact⟨rfl,by omega⟩
 | false=>
  have:=h2 hB
  rw [aS,aC iC,e,bS]
  exact⟨rfl,by omega⟩
structure Ib (bs:List bZ) (pcs:List aH) (ls:List cY) (r2:Nat->Nat) (j:Nat) (up:List Int) (fm:List (Int×Int)) (out:List Int):Prop where
 uf:UF (pcs.length+bs.length) up r2
 len:out.length=ls.length
 no: ∀i l,i<j->ls[i]? =some l->nD bs pcs l=none->out[i]? =some (-1)
 yes: ∀i l h,i<j->ls[i]? =some l->nD bs pcs l=some h->iW fm ((r2 (eP pcs.length h):Nat):Int)=true/\out[i]? =some (dM fm ((r2 (eP pcs.length h):Nat):Int) 0)
 low: ∀x,iW fm x=true->∃v:Nat,dM fm x 0= ((v:Nat):Int)/\v<j
 inj: ∀x y,iW fm x=true->iW fm y=true->dM fm x 0=dM fm y 0->x=y
theorem Dt {bs:List bZ} {pcs:List aH} {ls:List cY} (hn:pcs.length+bs.length<=1000000000) (hp:pcs.length<=1073741824) (hbl:bs.length<=1073741824) (hl:ls.length<=1073741824) (hof:fH=ls.map (Bf bs pcs r)) (hat:fC=ls.map (fun l=>(nD bs pcs l).getD ⟨false,0⟩)) (hN:4398046511104<=N):
  ∃r2 c up fm,dE N bs ls pcs (eL bs pcs) fH fC []=some c/\zf pcs.length bs.length (eL bs pcs) r2/\Ib bs pcs ls r2 ls.length up fm c:=by
 suffices h:Ok (dE N bs ls pcs (eL bs pcs) fH fC []) (fun c=>∃r2 up fm,zf pcs.length bs.length (eL bs pcs) r2/\Ib bs pcs ls r2 ls.length up fm c) by
  obtain⟨c,h1,r2,up,fm,h2,h3⟩:=h
  exact⟨r2,c,up,fm,h1,h2,h3⟩
 unfold dE
 refine Ok.eq (x:=[]) rfl ?_
 rw [wrap_add (by omega)]
 obtain⟨up0,u1,u2⟩:=rY (N:=N) (n:=pcs.length+bs.length) (by omega)
 refine Ok.eq u1 ?_
 simp only [Jz]
 refine Ok.bind (zQ (n:=pcs.length) (m:=bs.length) (by unfold eL;simp) (yE (by omega)) (by omega) (by omega) u2 hN) ?_
 rintro up1 ⟨r2,v1,v2⟩
 refine Ok.eq (x:=up1) rfl (Ok.eq (o4 0 (by omega)) ?_)
 have jC:fC.length=ls.length:=by rw [hat,fD]
 refine Ok.bind (Ok.iF (fun j (st:List Int×List (Int×Int)×List Int)=>Ib bs pcs ls r2 j st.1 st.2.1 st.2.2) (by omega) ⟨v1,by simp,fun i l h=>by omega,fun i l h h1=>by omega,fun x hx=>(by cases hx),fun x y hx=>(by cases hx)⟩ ?_) (fun st I=>Ok.ret ⟨r2,st.1,st.2.1,v2,by rw [<-jC];exact I⟩)
 rintro j ⟨up,fm,out⟩ hj I
 rw [jC] at hj
 dsimp only at I ⊢
 have hx:ls[j]? =some ls[j]:=aJ hj
 have h1:fC[j]? =some ((nD bs pcs ls[j]).getD ⟨false,0⟩):=by rw [hat,fG,hx];rfl
 have h2:fH[j]? =some (Bf bs pcs r ls[j]):=by rw [hof,fG,hx];rfl
 have h3:out[j]? =some (out[j]'(by rw [I.len];exact hj)):=aJ _
 have hjo:j<out.length:=by rw [I.len];exact hj
 refine Ok.ix h1 ?_
 cases hh:nD bs pcs ls[j] with
 | none=>
  have e1:Bf bs pcs r ls[j] = -1:=by unfold Bf uj;rw [hh];rfl
  refine Ok.eq (x:=0) rfl (Ok.eq (x:=true) (by rw [dD h2,aB,e1];rfl) ?_)
  refine Ok.ix h3 (Ok.ret ?_)
  dsimp only
  rw [bS]
  refine⟨I.uf,by rw [gh];exact I.len,fun i l hi hil hn=>?_,fun i l h hi hil hs=>?_,fun x hx=>?_,I.inj⟩
  ·by_cases e:i=j
   ·subst e;rw [List.getElem?_set_self hjo]
   ·rw [List.getElem?_set_ne (Ne.symm e)];exact I.no i l (by omega) hil hn
  ·by_cases e:i=j
   ·subst e;rw [hx] at hil;injection hil with hil;subst hil;rw [hh] at hs;cases hs
   ·rw [List.getElem?_set_ne (Ne.symm e)];exact I.yes i l h (by omega) hil hs
  ·obtain⟨v,q1,q2⟩:=I.low x hx;exact⟨v,q1,by omega⟩
 | some h=>
  obtain⟨c1,c2⟩:=A7 (N:=N) hh hn
  have e1: ∃g:Nat,Bf bs pcs r ls[j]= ((g:Nat):Int):=by unfold Bf uj;rw [hh];exact⟨_,rfl⟩
  obtain⟨g,e1⟩:=e1
  refine Ok.eq c1 (Ok.eq (x:=false) (by rw [dD h2,aB,e1,bF (show ¬((g:Nat):Int)<0 by omega),aS];rfl) ?_)
  rw [aS]
  obtain⟨up2,t1,t2⟩:=nC (N:=N) I.uf c2 (by omega)
  refine Ok.eq t1 ?_
  dsimp only
  have fin: ∀(up3:List Int) (fm2:List (Int×Int)),UF (pcs.length+bs.length) up3 r2->(∀x,iW fm x=true->iW fm2 x=true/\dM fm2 x 0=dM fm x 0)->iW fm2 ((r2 (eP pcs.length h):Nat):Int)=true->(∀x,iW fm2 x=true->∃v:Nat,dM fm2 x 0= ((v:Nat):Int)/\v<j+1)->(∀x y,iW fm2 x=true->iW fm2 y=true->dM fm2 x 0=dM fm2 y 0->x=y)->
    Ib bs pcs ls r2 (j+1) up3 fm2 (out.set j (dM fm2 ((r2 (eP pcs.length h):Nat):Int) 0)):=fun up3 fm2 g1 g2 g3 g4 g5=>by
   refine⟨g1,by rw [gh];exact I.len,fun i l hi hil hn=>?_,fun i l h' hi hil hs=>?_,g4,g5⟩
   ·by_cases e:i=j
    ·subst e;rw [hx] at hil;injection hil with hil;subst hil;rw [hh] at hn;cases hn
    ·rw [List.getElem?_set_ne (Ne.symm e)];exact I.no i l (by omega) hil hn
   ·by_cases e:i=j
    ·subst e;rw [hx] at hil;injection hil with hil;subst hil;rw [hh] at hs;injection hs with hs;subst hs
     exact⟨g3,by rw [List.getElem?_set_self hjo]⟩
    ·obtain⟨q1,q2⟩:=I.yes i l h' (by omega) hil hs
     rw [List.getElem?_set_ne (Ne.symm e),q2,(g2 _ q1).2]
     exact⟨(g2 _ q1).1,rfl⟩
  cases hm:iW fm ((r2 (eP pcs.length h):Nat):Int) with
  | true=>
   rw [lS,aS]
   obtain⟨up3,t3,t4⟩:=nC (N:=N) t2 c2 (by omega)
   refine Ok.eq (x:=(up2,fm)) rfl (Ok.eq t3 (Ok.ix h3 (Ok.ret ?_)))
   dsimp only
   rw [bS]
   exact fin up3 fm t4 (fun x hx=>⟨hx,rfl⟩) hm (fun x hx=>by obtain⟨v,q1,q2⟩:=I.low x hx;exact⟨v,q1,by omega⟩) I.inj
  | false=>
   rw [mj,aR]
   obtain⟨up3,t3,t4⟩:=nC (N:=N) t2 c2 (by omega)
   obtain⟨up4,t5,t6⟩:=nC (N:=N) t4 c2 (by omega)
   refine Ok.eq (x:=(up3,ph fm ((r2 (eP pcs.length h):Nat):Int) ((j:Nat):Int))) (by rw [t3,aB]) (Ok.eq t5 (Ok.ix h3 (Ok.ret ?_)))
   dsimp only
   rw [bS]
   refine fin up4 _ t6 (fun x hx=>?_) (by rw [ll];simp) (fun x hx=>?_) (fun x y hx hy e=>?_)
   ·have hne:x≠((r2 (eP pcs.length h):Nat):Int):=fun e=>by rw [e,hm] at hx;cases hx
    rw [ll,jd,aC hne,hx]
    exact⟨by simp,rfl⟩
   ·rw [jd]
    by_cases e:x= ((r2 (eP pcs.length h):Nat):Int)
    ·rw [aD e];exact⟨j,rfl,by omega⟩
    ·rw [aC e]
     rw [ll,bF e,Bool.false_or] at hx
     obtain⟨v,q1,q2⟩:=I.low x hx;exact⟨v,q1,by omega⟩
   ·rw [jd,jd] at e
    rw [ll] at hx hy
    by_cases ex:x= ((r2 (eP pcs.length h):Nat):Int)
    ·by_cases ey:y= ((r2 (eP pcs.length h):Nat):Int)
     ·rw [ex,ey]
     ·rw [aD ex,aC ey] at e
      rw [bF ey,Bool.false_or] at hy
      obtain⟨v,q1,q2⟩:=I.low y hy
      omega
    ·rw [bF ex,Bool.false_or] at hx
     by_cases ey:y= ((r2 (eP pcs.length h):Nat):Int)
     ·rw [aC ex,aD ey] at e
      obtain⟨v,q1,q2⟩:=I.low x hx
      omega
     ·rw [aC ex,aC ey] at e
      rw [bF ey,Bool.false_or] at hy
      exact I.inj x y hx hy e
theorem Ic (b:j8 a jQ cQ r gs ofP ofB fH fC) {x y:cY} {h h':dU} (hx:nD a.aW (bY 0 cQ) x=some h) (hy:nD a.aW (bY 0 cQ) y=some h'): (uj a.aW (bY 0 cQ) r x=uj a.aW (bY 0 cQ) r y)↔r (eP (bY 0 cQ).length h)=r (eP (bY 0 cQ).length h'):=by
 have gp: ∀{z:cY} {h:dU},nD a.aW (bY 0 cQ) z=some h->(live a.aW (bY 0 cQ).length ((bY 0 cQ).length+a.aW.length) r (bV ((bY 0 cQ).length+a.aW.length) r))[gi a.aW (bY 0 cQ).length ((bY 0 cQ).length+a.aW.length) r (r (eP (bY 0 cQ).length h))]? =some (r (eP (bY 0 cQ).length h)):=by
  intro z h hz
  obtain⟨k,e,g1,g2⟩:=(Dn hz).num
  have hle:=b.Bg.conn.le
  have hrr:=b.Bg.conn.rr
  have hd: ∀i,i< (bY 0 cQ).length+a.aW.length->r i∈bV ((bY 0 cQ).length+a.aW.length) r:=fun i hi=>iB.2 ⟨gm.2 (by have:=hle i hi;omega),by rw [bK];exact hrr i hi⟩
  unfold eP
  cases hB:h.bZ with
  | true=>
   obtain⟨k1,k2⟩:=g1 hB
   rw [aD rfl,e,bS]
   exact(Co (hd _ (by omega)) (GV k2 (by omega))).2
  | false=>
   have k1:=g2 hB
   rw [aC iC,e,bS]
   exact(Co (hd _ (by omega)) (GU k1 (by omega))).2
 unfold uj
 rw [hx,hy]
 constructor
 ·intro e
  simp only [Option.map_some,Option.some.injEq] at e
  have h1:=gp hx
  have h2:=gp hy
  rw [e,h2] at h1
  injection h1 with h1;exact h1.symm
 ·intro e
  simp only [Option.map_some,Option.some.injEq]
  rw [e]
theorem A8 (b:j8 a jQ cQ r gs ofP ofB fH fC) (h1:gD N a=some (some (a.aL,a.dL,a.aW,a.bJ,jQ,bY 0 cQ,eL a.aW (bY 0 cQ),gs,ofP,ofB,fH,fC),0)) {p q:fV} {i k:Nat} {x y:cY} (ep:kA a p= ((i:Nat):Int)) (hx:a.bJ[i]? =some x) (eq:kA a q= ((k:Nat):Int)) (hy:a.bJ[k]? =some y) (hN:4398046511104<=N):
  iq N a [] p q=some ((uj a.aW (bY 0 cQ) r x).isSome&&decide (uj a.aW (bY 0 cQ) r x=uj a.aW (bY 0 cQ) r y),0):=by
 have hf:=b.A0.2
 have hbl:=b.Dp.gb.len
 have hlf:=b.tA.A0
 obtain⟨r2,c,up,fm,c1,c2,c3⟩:=Dt (N:=N) (r:=r) (fH:=fH) (fC:=fC) (bs:=a.aW) (pcs:=bY 0 cQ) (ls:=a.bJ) (by omega) (by omega) (by omega) (by omega) b.Bg.fH b.Bg.fC hN
 have hil:=(bD.1 hx).1
 have hkl:=(bD.1 hy).1
 unfold iq
 rw [h1,aB,qe b.tA p hN,qe b.tA q hN]
 simp only [DL,bne_self_eq_false,aS,aB]
 have hz: ∀(p0:List (List aI)) (p1:List aI) (p2:List bZ) (p3:List cY) (p4:List (List aA)) (p5:List aH) (p6:List (List Int)) (p7:List cI) (p8 p9 p10:List Int) (p11:List dU),jL N p0 p1 p2 p3 p4 p5 p6 p7 p8 p9 p10 p11 []=some 0:=fun _ _ _ _ _ _ _ _ _ _ _ _=>rfl
 rw [hz,aB,bne_self_eq_false,aS,ep,eq,bF (show ¬((i:Nat):Int)<0 by omega),bF (show ¬((k:Nat):Int)<0 by omega),Bool.or_false,aS,c1,aB]
 cases hhx:nD a.aW (bY 0 cQ) x with
 | none=>
  have e1:uj a.aW (bY 0 cQ) r x=none:=by unfold uj;rw [hhx];rfl
  rw [dD (c3.no i x hil hx hhx),aB,e1];rfl
 | some h=>
  obtain⟨q1,q2⟩:=c3.yes i x h hil hx hhx
  obtain⟨v,v1,_⟩:=c3.low _ q1
  have e1: (uj a.aW (bY 0 cQ) r x).isSome=true:=by unfold uj;rw [hhx];rfl
  rw [dD q2,aB,v1,cD (show ((v:Nat):Int)>=0 by omega),aR,aB,e1,Bool.true_and]
  cases hhy:nD a.aW (bY 0 cQ) y with
  | none=>
   have e2:uj a.aW (bY 0 cQ) r y=none:=by unfold uj;rw [hhy];rfl
   rw [dD (c3.no k y hkl hy hhy),aB,aB,bF (fun e=>by rw [e,e2] at e1;cases e1),show ((((v:Nat):Int))== -1)=false from by rw [beq_eq_false_iff_ne];omega]
  | some h'=>
   obtain⟨s1,s2⟩:=c3.yes k y h' hkl hy hhy
   obtain⟨w,w1,_⟩:=c3.low _ s1
   rw [dD s2,aB,w1,aB]
   have t1:=(A7 (N:=N) hhx (by omega)).2
   have t2:=(A7 (N:=N) hhy (by omega)).2
   have key: (((v:Nat):Int)= ((w:Nat):Int))↔uj a.aW (bY 0 cQ) r x=uj a.aW (bY 0 cQ) r y:=by
    rw [Ic b hhx hhy,zf.uniq b.Bg.conn c2 t1 t2]
    constructor
    ·intro e
     have:=c3.inj _ _ q1 s1 (by rw [v1,w1];exact e)
     omega
    ·intro e
     rw [e,w1] at v1;exact v1.symm
   congr 2
   rw [fO,beq_iff_eq,bK];exact key
end
def oS:gS:=⟨[[⟨0,0,1,1⟩]],[],[],[⟨⟨[97]⟩,⟨[49]⟩,0,⟨0,0⟩⟩]⟩
def Ie:fV:=⟨⟨[97]⟩,⟨[49]⟩⟩
def qR:aA:=⟨0,1,[0,1]⟩
theorem Ig:o8 [⟨0,0,1,1⟩] [qR] where
 can:=⟨fun b hb=>by
  have e:b=bR qR:=by simpa using hb
  subst e
  exact⟨by decide,by decide,by unfold l6;decide,by decide⟩,List.pairwise_singleton _ _⟩
 cover:=fun x y=>by
  show mE (if (0:Int)<=y/\y<1 then [0,1] else []) x= ((decide ((0:Int)<=x)&&decide (x<1))&&(decide ((0:Int)<=y)&&decide (y<1))||false)
  by_cases h: (0:Int)<=y/\y<1
  ·rw [aD h,cD h.1,cD h.2]
   unfold mE
   rw [lK,lK,AP]
   by_cases h0: (0:Int)<=x
   ·by_cases h1: (1:Int)<=x
    ·rw [aD h0,aD h1,bF (show ¬x<1 by omega)];simp
    ·rw [aD h0,aC h1,cD h0,cD (show x<1 by omega)];rfl
   ·rw [aC h0,aC (show ¬(1:Int)<=x by omega),bF h0];rfl
  ·rw [aC h]
   have: (decide ((0:Int)<=y)&&decide (y<1))=false:=by
    rw [Bool.eq_false_iff];intro h';rw [bT,bK,bK] at h';exact h h'
   rw [this,Bool.and_false];rfl
 lim:=fun b hb=>by
  have e:b=bR qR:=by simpa using hb
  subst e
  exact⟨by decide,by decide,by decide⟩
theorem MR:o8 [] []:=⟨eC.nil,fun _ _=>rfl,fun b hb=>by cases hb⟩
theorem MS:i9 [⟨0,0,1,1⟩]=0:=pd.2 ⟨by decide,fun k a b h1 h2=>(by cases k <;> simp at h2),⟨_,Ig,rfl⟩⟩
theorem MT:i9 []=0:=pd.2 ⟨by decide,fun k a b h1 h2=>(by simp at h2),⟨_,MR,rfl⟩⟩
theorem JA:vH oS:=⟨by decide,by decide,by decide,by decide,by decide,by
 intro x hx
 have e:x= ⟨⟨[97]⟩,⟨[49]⟩,0,⟨0,0⟩⟩:=by simpa [oS] using hx
 subst e;decide⟩
theorem JB:jo oS=0:=by
 have e1:oS.aL.findSome? zh=none:=by
  show [[(⟨0,0,1,1⟩:aI)]].findSome? zh=none
  have:zh [⟨0,0,1,1⟩]=none:=by unfold zh;rw [MS];simp
  simp [this]
 have e2:lP oS=0:=by decide
 have e3:kW oS=0:=by
  unfold kW
  have:m9 oS.bJ.length (lq oS)=none:=gC.2 fun k hk=>by
   have hk:k<1:=hk
   obtain rfl:k=0:=by omega
   unfold lq
   have hx0:oS.bJ[0]? =some ⟨⟨[97]⟩,⟨[49]⟩,0,⟨0,0⟩⟩:=rfl
   rw [hx0,Option.bind_some,aD (by decide),aD (by decide),aC (by rintro⟨h,_⟩;omega)]
  rw [this,aC (by decide)];rfl
 have e4: ¬wQ oS:=by
  rintro⟨i,k,x,y,_,h,_⟩
  simp [oS] at h
 unfold jo
 rw [aC (by decide),aC (by decide)]
 unfold GY
 rw [e1]
 show (if i9 []≠0 then i9 [] else A3 oS)=0
 rw [MT,aC (by simp)]
 unfold A3
 rw [aC (by decide),e2,aC (by simp),e3,aC (by simp),aC e4]
theorem Lu {jQ:List (List aA)} {cQ:List (List (List aA))} (D:uh oS.aL oS.aW oS.aL.length jQ cQ):jQ= [[qR]]/\cQ= [[[qR]]]:=by
 obtain⟨s,rfl⟩:=List.length_eq_one_iff.1 D.len
 obtain⟨ps,rfl⟩:=List.length_eq_one_iff.1 D.AZ
 have hd:=D.dr 0 [⟨0,0,1,1⟩] s (by decide) rfl rfl
 have hs:s= [qR]:=Ck hd.can Ig.can fun x y=>by
  rw [hd.cover,Ig.cover]
  show (_&& !wO [] x y)=_
  simp [wO]
 subst hs
 obtain⟨u,hu⟩:=D.pt 0 [qR] ps (by decide) rfl rfl
 have u0:u 0=0:=Nat.le_zero.1 (hu.join.le 0 (by decide))
 have hh:bV (aO [qR]).length u= [0]:=by
  show (List.range 1).filter (fun k=>decide (u k=k))= [0]
  simp [List.range_succ,u0]
 obtain⟨p,rfl⟩:=List.length_eq_one_iff.1 (show ps.length=1 by rw [hu.len,hh];rfl)
 have hp:=hu.each 0 0 p (by rw [hh];rfl) rfl
 have hc:mh (aO [qR]) (aO [qR]).length u 0= [⟨0,0,1,1⟩]:=by
  show ((List.range 1).filter (fun i=>decide (u i=0))).filterMap (fun i=>(aO [qR])[i]?)=_
  simp [List.range_succ,u0];rfl
 rw [hc] at hp
 exact⟨rfl,by rw [hp.unique Ig]⟩
section
variable {N:Nat}
theorem Ih (hN:4398046511104<=N):f0 N=some true:=by
 have key:iq N oS [] Ie Ie=some (true,0):=by
  obtain⟨x,hx,hI⟩:=zS (N:=N) JA hN
  rcases hI with ⟨he,_⟩ | ⟨_,hg,hcl,jQ,cQ,D,⟨hf,_⟩ | ⟨hf,r,gs,ofP,ofB,fH,fC,hC,rfl⟩⟩
  ·exact absurd JB he
  ·obtain⟨rfl,rfl⟩:=Lu D
   exact absurd ⟨by decide,by decide⟩ hf
  ·have b:j8 oS jQ cQ r gs ofP ofB fH fC:=⟨hg,hcl,D,hf,hC⟩
   have e:kA oS Ie= ((0:Nat):Int):=by
    rcases wS oS Ie with ⟨_,h⟩ | ⟨k,x,h,hk,_⟩
    ·exact absurd rfl (h ⟨⟨[97]⟩,⟨[49]⟩,0,⟨0,0⟩⟩ (by simp [oS]))
    ·have:k<1:=(bD.1 hk).1
     rw [h];omega
   have hl:oS.bJ[0]? =some ⟨⟨[97]⟩,⟨[49]⟩,0,⟨0,0⟩⟩:=rfl
   rw [A8 b hx e hl e hl hN]
   obtain⟨rfl,rfl⟩:=Lu D
   have hh:nD oS.aW (bY 0 [[[qR]]]) ⟨⟨[97]⟩,⟨[49]⟩,0,⟨0,0⟩⟩=some ⟨false,0⟩:=by decide
   unfold uj
   rw [hh];simp
 unfold f0
 have e:iq N (⟨([([(⟨0,0,1,1⟩:aI)]: (List aI))]: (List (List aI))),([]: (List aI)),([]: (List bZ)),([(⟨⟨[97]⟩,⟨[49]⟩,0,⟨0,0⟩⟩:cY)]: (List cY))⟩:gS) ([]: (List bQ)) (⟨⟨[97]⟩,⟨[49]⟩⟩:fV) (⟨⟨[97]⟩,⟨[49]⟩⟩:fV)=some (true,0):=key
 rw [e,aB];rfl
end
end Go.Gk
namespace Go.Gk
open Go Classical
def vL (n:Nat) (fl:List bQ) (v:Nat):Prop:=∃x∈fl,x.Open=true/\eP n x.dU=v
structure Lv (bs:List bZ) (n m:Nat) (fl:List bQ):Prop where
 op: ∀x∈fl,x.Open=true->GS bs n m x.dU
 br: ∀x∈fl,x.Open=false->∃i k:Nat,x.A= ((i:Nat):Int)/\x.B= ((k:Nat):Int)/\i<k/\k<n
def Lw (n:Nat) (tch:List (List Int)) (fl:List bQ) (i j:Nat):Prop:=Lk n tch i j\/∃x∈fl,x.Open=false/\x.A= ((i:Nat):Int)/\x.B= ((j:Nat):Int)
def LF (n:Nat) (tch:List (List Int)) (fl:List bQ) (i j:Nat):Prop:=Lw n tch fl i j/\¬vL n fl i/\¬vL n fl j
structure vM (t:Nat) (L:Nat->Nat->Prop) (r:Nat->Nat):Prop where
 le: ∀i,i<t->r i<=i
 rr: ∀i,i<t->r (r i)=r i
 co: ∀i j,L i j->r i=r j
 fi: ∀S:Nat->Prop,(∀i j,L i j->(S i↔S j))->∀i j,i<t->j<t->r i=r j->S i->S j
theorem vM.uniq {t:Nat} {L:Nat->Nat->Prop} {r1 r2:Nat->Nat} (h1:vM t L r1) (h2:vM t L r2) {i j:Nat} (hi:i<t) (hj:j<t):r1 i=r1 j↔r2 i=r2 j:=by
 have key: ∀{r1 r2:Nat->Nat},vM t L r1->vM t L r2->r1 i=r1 j->r2 i=r2 j:=fun{r1 r2} h1 h2 e=>
  (h1.fi (fun x=>r2 i=r2 x) (fun a b hab=>by rw [h2.co a b hab]) i j hi hj e) rfl
 exact⟨key h1 h2,key h2 h1⟩
noncomputable def oH (bs:List bZ) (pcs:List aH) (fl:List bQ) (l:cY):Option Nat:=(nD bs pcs l).bind fun h=>if vL pcs.length fl (eP pcs.length h) then none else some (eP pcs.length h)
section
variable {N:Nat} {r:Nat->Nat} {fH:List Int} {fC:List dU}
theorem JC {bs:List bZ} {n m:Nat} {h:dU} (hh:GS bs n m h) (hn:n+m<=1000000000):fZ N h ((n:Nat):Int)=some ((eP n h:Nat):Int)/\eP n h<n+m:=by
 obtain⟨k,e,h1,h2⟩:=hh.num
 unfold fZ eP
 cases hB:h.bZ with
 | true=>
  have:=(h1 hB).1
  rw [aR,aD rfl,e,bS,wrap_add (by omega)]
  exact⟨rfl,by omega⟩
 | false=>
  have:=h2 hB
  rw [aS,aC iC,e,bS]
  exact⟨rfl,by omega⟩
def Hp (t:Nat) (L:Nat->Nat->Prop) (op:Nat->Prop) (done:Nat->Nat->Prop) (u:List Int):Prop:=
 ∃r E,UF t u r/\mW r E/\wt t r E/\(∀p∈E,L p.1 p.2/\¬op p.1/\¬op p.2)/\∀i j,done i j->¬op i->¬op j->(i,j)∈E
theorem Hp.mono {t:Nat} {L:Nat->Nat->Prop} {op:Nat->Prop} {d d':Nat->Nat->Prop} {u:List Int} (h:Hp t L op d u) (hd: ∀i j,d' i j->d i j):Hp t L op d' u:=by
 obtain⟨r,E,h1,h2,h3,h4,h5⟩:=h
 exact⟨r,E,h1,h2,h3,h4,fun i j hij=>h5 i j (hd i j hij)⟩
theorem G1 {t:Nat} {L:Nat->Nat->Prop} {op:Nat->Prop} {done:Nat->Nat->Prop} {u:List Int} {om:List (Int×Bool)} (hom: ∀v:Nat,dM om ((v:Nat):Int) false=true↔op v) (hI:Hp t L op done u) {i k:Nat} (hi:i<t) (hk:k<t) (ht:t<N) (hL:L i k):
  Ok (gM N ((i:Nat):Int) ((k:Nat):Int) om u) (Hp t L op (fun a b=>done a b\/(a=i/\b=k))):=by
 obtain⟨r,E,h1,h2,h3,h4,h5⟩:=hI
 have skip:op i\/op k->Hp t L op (fun a b=>done a b\/(a=i/\b=k)) u:=fun ho=>⟨r,E,h1,h2,h3,h4,fun a b hab ha hb=>by
  rcases hab with hab | ⟨rfl,rfl⟩
  ·exact h5 a b hab ha hb
  ·rcases ho with ho | ho
   ·exact absurd ho ha
   ·exact absurd ho hb⟩
 unfold gM
 by_cases ho:op i
 ·refine Ok.eq (x:=false) (by rw [(hom i).2 ho];rfl) (Ok.ret (skip (.inl ho)))
 ·have e1:dM om ((i:Nat):Int) false=false:=by rw [Bool.eq_false_iff];exact fun h=>ho ((hom i).1 h)
  by_cases hp:op k
  ·refine Ok.eq (x:=false) (by rw [e1,(hom k).2 hp];rfl) (Ok.ret (skip (.inr hp)))
  ·have e2:dM om ((k:Nat):Int) false=false:=by rw [Bool.eq_false_iff];exact fun h=>hp ((hom k).1 h)
   refine Ok.eq (x:=true) (by rw [e1,e2];rfl) ?_
   obtain⟨u2,a1,a2⟩:=D9 (N:=N) h1 hi hk ht
   rw [aR,a1]
   refine Ok.ret ⟨_,_,a2,h2.join i k (h1.rr i hi),h3.join hi hk,fun p hp'=>?_,fun a b hab ha hb=>?_⟩
   ·rcases cU.1 hp' with h | h
    ·exact h4 p h
    ·simp at h;subst h;exact⟨hL,ho,hp⟩
   ·rcases hab with hab | ⟨rfl,rfl⟩
    ·exact List.mem_append_left _ (h5 a b hab ha hb)
    ·simp
structure zi (bs:List bZ) (pcs:List aH) (fl:List bQ) (ls:List cY) (r2:Nat->Nat) (j:Nat) (up:List Int) (fm:List (Int×Int)) (out:List Int):Prop where
 uf:UF (pcs.length+bs.length) up r2
 len:out.length=ls.length
 no: ∀i l,i<j->ls[i]? =some l->oH bs pcs fl l=none->out[i]? =some (-1)
 yes: ∀i l v,i<j->ls[i]? =some l->oH bs pcs fl l=some v->iW fm ((r2 v:Nat):Int)=true/\out[i]? =some (dM fm ((r2 v:Nat):Int) 0)
 low: ∀x,iW fm x=true->∃(v:Nat) (l:cY) (u:Nat),dM fm x 0= ((v:Nat):Int)/\v<j/\ls[v]? =some l/\oH bs pcs fl l=some u/\((r2 u:Nat):Int)=x
 inj: ∀x y,iW fm x=true->iW fm y=true->dM fm x 0=dM fm y 0->x=y
theorem Cw {bs:List bZ} {pcs:List aH} {ls:List cY} {fl:List bQ} (hfl:Lv bs pcs.length bs.length fl) (hfn:fl.length<=1073741824) (hn:pcs.length+bs.length<=1000000000) (hp:pcs.length<=1073741824) (hbl:bs.length<=1073741824) (hl:ls.length<=1073741824) (hof:fH=ls.map (Bf bs pcs r)) (hat:fC=ls.map (fun l=>(nD bs pcs l).getD ⟨false,0⟩)) (hN:4398046511104<=N):
  ∃r2 c up fm,dE N bs ls pcs (eL bs pcs) fH fC fl=some c/\vM (pcs.length+bs.length) (LF pcs.length (eL bs pcs) fl) r2/\zi bs pcs fl ls r2 ls.length up fm c:=by
 suffices h:Ok (dE N bs ls pcs (eL bs pcs) fH fC fl) (fun c=>∃r2 up fm,vM (pcs.length+bs.length) (LF pcs.length (eL bs pcs) fl) r2/\zi bs pcs fl ls r2 ls.length up fm c) by
  obtain⟨c,h1,r2,up,fm,h2,h3⟩:=h
  exact⟨r2,c,up,fm,h1,h2,h3⟩
 unfold dE
 refine Ok.bind (Ok.iF (fun q om=>∀v:Nat,dM om ((v:Nat):Int) false=true↔vL pcs.length (fl.take q) v) (by omega) (fun v=>⟨fun h=>(by cases h),fun⟨x,hx,_⟩=>(by simp at hx)⟩) (fun q om hq hI=>?_)) ?_
 ·have hx:fl[q]? =some fl[q]:=aJ hq
  have hts:=fu hq
  refine Ok.ix hx ?_
  cases ho:fl[q].Open with
  | true=>
   obtain⟨c1,_⟩:=JC (N:=N) (hfl.op _ (cJ hq) ho) hn
   refine Ok.eq (x:=ph om ((eP pcs.length fl[q].dU:Nat):Int) true) (by rw [aR,c1,aB]) (Ok.ret fun v=>?_)
   rw [jd,hts]
   by_cases e: ((v:Nat):Int)= ((eP pcs.length fl[q].dU:Nat):Int)
   ·rw [aD e]
    exact⟨fun _=>⟨fl[q],List.mem_append_right _ (List.mem_singleton.2 rfl),ho,by omega⟩,fun _=>rfl⟩
   ·rw [aC e,hI v]
    constructor
    ·rintro⟨x,hx,h1,h2⟩;exact⟨x,List.mem_append_left _ hx,h1,h2⟩
    ·rintro⟨x,hx,h1,h2⟩
     rcases cU.1 hx with hx | hx
     ·exact⟨x,hx,h1,h2⟩
     ·simp at hx;subst hx;exact absurd (by rw [h2]) e
  | false=>
   refine Ok.eq (x:=om) rfl (Ok.ret fun v=>?_)
   rw [hI v,hts]
   constructor
   ·rintro⟨x,hx,h1,h2⟩;exact⟨x,List.mem_append_left _ hx,h1,h2⟩
   ·rintro⟨x,hx,h1,h2⟩
    rcases cU.1 hx with hx | hx
    ·exact⟨x,hx,h1,h2⟩
    ·simp at hx;subst hx;rw [ho] at h1;cases h1
 intro om hom
 rw [eR] at hom
 rw [wrap_add (by omega)]
 obtain⟨up0,u1,u2⟩:=rY (N:=N) (n:=pcs.length+bs.length) (by omega)
 refine Ok.eq u1 ?_
 have htl: (eL bs pcs).length=bs.length:=by unfold eL;simp
 have hto:=yE (bs:=bs) (pcs:=pcs) (by omega)
 refine Ok.bind (Ok.iF (fun q u=>Hp (pcs.length+bs.length) (Lw pcs.length (eL bs pcs) fl) (vL pcs.length fl) (fun a b=>∃k l,k<q/\(eL bs pcs)[k]? =some l/\((a:Nat):Int)∈l/\b=pcs.length+k) u) (by omega)
  ⟨_,_,u2,mW.id,wt.id _,fun p hp=>(by cases hp),fun i j ⟨k,l,hk,_⟩=>by omega⟩ (fun q u hq hI=>?_)) ?_
 ·have hqx: (eL bs pcs)[q]? =some (eL bs pcs)[q]:=aJ hq
  obtain⟨hl1,hl2⟩:=hto _ (cJ hq)
  refine Ok.ix hqx ?_
  rw [wrap_add (by omega)]
  refine Ok.bind (Ok.iF (fun t u=>Hp (pcs.length+bs.length) (Lw pcs.length (eL bs pcs) fl) (vL pcs.length fl) (fun a b=>(∃k l,k<q/\(eL bs pcs)[k]? =some l/\((a:Nat):Int)∈l/\b=pcs.length+k)\/(((a:Nat):Int)∈(eL bs pcs)[q].take t/\b=pcs.length+q)) u) (by omega)
   (hI.mono fun i j h=>by rcases h with h | ⟨h,_⟩;exact h;simp at h) (fun t u ht hJ=>?_)) (fun u hJ=>Ok.ret (hJ.mono fun i j ⟨k,l,hk,h1,h2,h3⟩=>?_))
  ·have htx: (eL bs pcs)[q][t]? =some (eL bs pcs)[q][t]:=aJ ht
   obtain⟨i,hi,e⟩:=hl2 _ (cJ ht)
   refine Ok.ix htx ?_
   rw [e]
   refine Ok.bind (G1 hom hJ (i:=i) (k:=pcs.length+q) (by omega) (by omega) (by omega) (.inl ⟨q,_,hqx,by rw [<-e];exact cJ ht,rfl⟩)) (fun u2 hu2=>Ok.ret (hu2.mono fun a b h=>?_))
   rw [fu ht] at h
   rcases h with h | ⟨h,hb⟩
   ·exact .inl (.inl h)
   ·rcases cU.1 h with h | h
    ·exact .inl (.inr ⟨h,hb⟩)
    ·rw [List.mem_singleton,e] at h;exact .inr ⟨by omega,hb⟩
  ·by_cases hkq:k<q
   ·exact .inl ⟨k,l,hkq,h1,h2,h3⟩
   ·have:k=q:=by omega
    subst this
    rw [hqx] at h1;injection h1 with h1;subst h1
    exact .inr ⟨by rw [eR];exact h2,h3⟩
 intro u3 h3
 refine Ok.bind (Ok.iF (fun q u=>Hp (pcs.length+bs.length) (Lw pcs.length (eL bs pcs) fl) (vL pcs.length fl) (fun a b=>Lk pcs.length (eL bs pcs) a b\/∃x∈fl.take q,x.Open=false/\x.A= ((a:Nat):Int)/\x.B= ((b:Nat):Int)) u) (by omega)
  (h3.mono fun i j h=>by
   rcases h with ⟨k,l,h1,h2,h3⟩ | ⟨x,hx,_⟩
   ·exact⟨k,l,(bD.1 h1).1,h1,h2,h3⟩
   ·simp at hx) (fun q u hq hI=>?_)) ?_
 ·have hx:fl[q]? =some fl[q]:=aJ hq
  have hts:=fu hq
  refine Ok.ix hx ?_
  cases ho:fl[q].Open with
  | true=>
   refine Ok.eq (x:=u) rfl (Ok.ret (hI.mono fun a b h=>?_))
   rw [hts] at h
   rcases h with h | ⟨x,hx,h1,h2⟩
   ·exact .inl h
   ·rcases cU.1 hx with hx | hx
    ·exact .inr ⟨x,hx,h1,h2⟩
    ·simp at hx;subst hx;rw [ho] at h1;cases h1
  | false=>
   obtain⟨i,k,e1,e2,e3,e4⟩:=hfl.br _ (cJ hq) ho
   rw [mj,aR,e1,e2]
   refine Ok.bind (P:=Hp (pcs.length+bs.length) (Lw pcs.length (eL bs pcs) fl) (vL pcs.length fl) (fun a b=>(Lk pcs.length (eL bs pcs) a b\/∃x∈fl.take q,x.Open=false/\x.A= ((a:Nat):Int)/\x.B= ((b:Nat):Int))\/(a=i/\b=k))) (Ok.bind (G1 hom hI (i:=i) (k:=k) (by omega) (by omega) (by omega) (.inr ⟨fl[q],cJ hq,ho,e1,e2⟩)) (fun u2 hu2=>Ok.ret hu2)) (fun u2 hu2=>Ok.ret (hu2.mono fun a b h=>?_))
   rw [hts] at h
   rcases h with h | ⟨x,hx,h1,h2,h3⟩
   ·exact .inl (.inl h)
   ·rcases cU.1 hx with hx | hx
    ·exact .inl (.inr ⟨x,hx,h1,h2,h3⟩)
    ·simp at hx;subst hx
     rw [e1] at h2;rw [e2] at h3
     exact .inr ⟨by omega,by omega⟩
 rintro up1 ⟨r2,E,v1,v2,v3,v4,v5⟩
 rw [eR] at v5
 have hC:vM (pcs.length+bs.length) (LF pcs.length (eL bs pcs) fl) r2:=
  ⟨v1.le,v1.rr,fun i j h=>v2 (i,j) (v5 i j h.1 h.2.1 h.2.2),fun S hS i j hi hj=>v3 S (fun p hp=>hS p.1 p.2 (v4 p hp)) i j hi hj⟩
 refine Ok.eq (o4 0 (by omega)) ?_
 have jC:fC.length=ls.length:=by rw [hat,fD]
 refine Ok.bind (Ok.iF (fun j (st:List Int×List (Int×Int)×List Int)=>zi bs pcs fl ls r2 j st.1 st.2.1 st.2.2) (by omega) ⟨v1,by simp,fun i l h=>by omega,fun i l h h1=>by omega,fun x hx=>(by cases hx),fun x y hx=>(by cases hx)⟩ ?_) (fun st I=>Ok.ret ⟨r2,st.1,st.2.1,hC,by rw [<-jC];exact I⟩)
 rintro j ⟨up,fm,out⟩ hj I
 rw [jC] at hj
 dsimp only at I ⊢
 have hx:ls[j]? =some ls[j]:=aJ hj
 have h1:fC[j]? =some ((nD bs pcs ls[j]).getD ⟨false,0⟩):=by rw [hat,fG,hx];rfl
 have h2:fH[j]? =some (Bf bs pcs r ls[j]):=by rw [hof,fG,hx];rfl
 have h3:out[j]? =some (out[j]'(by rw [I.len];exact hj)):=aJ _
 have hjo:j<out.length:=by rw [I.len];exact hj
 have hx0:=hx
 have dead:oH bs pcs fl ls[j]=none->zi bs pcs fl ls r2 (j+1) up fm (out.set j (-1)):=fun hnd=>by
  refine⟨I.uf,by rw [gh];exact I.len,fun i l hi hil hn=>?_,fun i l v hi hil hs=>?_,fun x hx=>?_,I.inj⟩
  ·by_cases e:i=j
   ·subst e;rw [List.getElem?_set_self hjo]
   ·rw [List.getElem?_set_ne (Ne.symm e)];exact I.no i l (by omega) hil hn
  ·by_cases e:i=j
   ·subst e;rw [hx] at hil;injection hil with hil;subst hil;rw [hnd] at hs;cases hs
   ·rw [List.getElem?_set_ne (Ne.symm e)];exact I.yes i l v (by omega) hil hs
  ·obtain⟨v,l,u,q1,q2,q3⟩:=I.low x hx;exact⟨v,l,u,q1,by omega,q3⟩
 refine Ok.ix h1 ?_
 cases hh:nD bs pcs ls[j] with
 | none=>
  have e1:Bf bs pcs r ls[j] = -1:=by unfold Bf uj;rw [hh];rfl
  refine Ok.eq (x:=0) rfl (Ok.eq (x:=true) (by rw [dD h2,aB,e1];rfl) ?_)
  refine Ok.ix h3 (Ok.ret ?_)
  dsimp only
  rw [bS]
  exact dead (by unfold oH;rw [hh];rfl)
 | some h=>
  obtain⟨c1,c2⟩:=A7 (N:=N) hh hn
  have e1: ∃g:Nat,Bf bs pcs r ls[j]= ((g:Nat):Int):=by unfold Bf uj;rw [hh];exact⟨_,rfl⟩
  obtain⟨g,e1⟩:=e1
  refine Ok.eq c1 ?_
  by_cases hop:vL pcs.length fl (eP pcs.length h)
  ·refine Ok.eq (x:=true) (by rw [dD h2,aB,e1,bF (show ¬((g:Nat):Int)<0 by omega),aS,(hom _).2 hop]) ?_
   refine Ok.ix h3 (Ok.ret ?_)
   dsimp only
   rw [bS]
   exact dead (by unfold oH;rw [hh,Option.bind_some,aD hop])
  have hnd:oH bs pcs fl ls[j]=some (eP pcs.length h):=by unfold oH;rw [hh,Option.bind_some,aC hop]
  refine Ok.eq (x:=false) (by rw [dD h2,aB,e1,bF (show ¬((g:Nat):Int)<0 by omega),aS];rw [Bool.eq_false_iff.2 fun h=>hop ((hom _).1 h)]) ?_
  rw [aS]
  obtain⟨up2,t1,t2⟩:=nC (N:=N) I.uf c2 (by omega)
  refine Ok.eq t1 ?_
  dsimp only
  have fin: ∀(up3:List Int) (fm2:List (Int×Int)),UF (pcs.length+bs.length) up3 r2->(∀x,iW fm x=true->iW fm2 x=true/\dM fm2 x 0=dM fm x 0)->iW fm2 ((r2 (eP pcs.length h):Nat):Int)=true->(∀x,iW fm2 x=true->∃(v:Nat) (l:cY) (u:Nat),dM fm2 x 0= ((v:Nat):Int)/\v<j+1/\ls[v]? =some l/\oH bs pcs fl l=some u/\((r2 u:Nat):Int)=x)->(∀x y,iW fm2 x=true->iW fm2 y=true->dM fm2 x 0=dM fm2 y 0->x=y)->
    zi bs pcs fl ls r2 (j+1) up3 fm2 (out.set j (dM fm2 ((r2 (eP pcs.length h):Nat):Int) 0)):=fun up3 fm2 g1 g2 g3 g4 g5=>by
   refine⟨g1,by rw [gh];exact I.len,fun i l hi hil hn=>?_,fun i l h' hi hil hs=>?_,g4,g5⟩
   ·by_cases e:i=j
    ·subst e;rw [hx] at hil;injection hil with hil;subst hil;rw [hnd] at hn;cases hn
    ·rw [List.getElem?_set_ne (Ne.symm e)];exact I.no i l (by omega) hil hn
   ·by_cases e:i=j
    ·subst e;rw [hx] at hil;injection hil with hil;subst hil;rw [hnd] at hs;injection hs with hs;subst hs
     exact⟨g3,by rw [List.getElem?_set_self hjo]⟩
    ·obtain⟨q1,q2⟩:=I.yes i l h' (by omega) hil hs
     rw [List.getElem?_set_ne (Ne.symm e),q2,(g2 _ q1).2]
     exact⟨(g2 _ q1).1,rfl⟩
  cases hm:iW fm ((r2 (eP pcs.length h):Nat):Int) with
  | true=>
   rw [lS,aS]
   obtain⟨up3,t3,t4⟩:=nC (N:=N) t2 c2 (by omega)
   refine Ok.eq (x:=(up2,fm)) rfl (Ok.eq t3 (Ok.ix h3 (Ok.ret ?_)))
   dsimp only
   rw [bS]
   exact fin up3 fm t4 (fun x hx=>⟨hx,rfl⟩) hm (fun x hx=>by obtain⟨v,l,u,q1,q2,q3⟩:=I.low x hx;exact⟨v,l,u,q1,by omega,q3⟩) I.inj
  | false=>
   rw [mj,aR]
   obtain⟨up3,t3,t4⟩:=nC (N:=N) t2 c2 (by omega)
   obtain⟨up4,t5,t6⟩:=nC (N:=N) t4 c2 (by omega)
   refine Ok.eq (x:=(up3,ph fm ((r2 (eP pcs.length h):Nat):Int) ((j:Nat):Int))) (by rw [t3,aB]) (Ok.eq t5 (Ok.ix h3 (Ok.ret ?_)))
   dsimp only
   rw [bS]
   refine fin up4 _ t6 (fun x hx=>?_) (by rw [ll];simp) (fun x hx=>?_) (fun x y hx hy e=>?_)
   ·have hne:x≠((r2 (eP pcs.length h):Nat):Int):=fun e=>by rw [e,hm] at hx;cases hx
    rw [ll,jd,aC hne,hx]
    exact⟨by simp,rfl⟩
   ·rw [jd]
    by_cases e:x= ((r2 (eP pcs.length h):Nat):Int)
    ·rw [aD e];exact⟨j,ls[j],_,rfl,by omega,hx0,hnd,e.symm⟩
    ·rw [aC e]
     rw [ll,bF e,Bool.false_or] at hx
     obtain⟨v,l,u,q1,q2,q3⟩:=I.low x hx;exact⟨v,l,u,q1,by omega,q3⟩
   ·rw [jd,jd] at e
    rw [ll] at hx hy
    by_cases ex:x= ((r2 (eP pcs.length h):Nat):Int)
    ·by_cases ey:y= ((r2 (eP pcs.length h):Nat):Int)
     ·rw [ex,ey]
     ·rw [aD ex,aC ey] at e
      rw [bF ey,Bool.false_or] at hy
      obtain⟨v,_,_,q1,q2,_⟩:=I.low y hy
      omega
    ·rw [bF ex,Bool.false_or] at hx
     by_cases ey:y= ((r2 (eP pcs.length h):Nat):Int)
     ·rw [aC ex,aD ey] at e
      obtain⟨v,_,_,q1,q2,_⟩:=I.low x hx
      omega
     ·rw [aC ex,aC ey] at e
      rw [bF ey,Bool.false_or] at hy
      exact I.inj x y hx hy e
def IQ (n:Nat) (k:Int):Bool:=decide (k>=0)&&decide (k<=((n:Nat):Int) - 1)
def uk (bs:List bZ) (n:Nat) (x:bQ):Bool:=bif x.Open then (bif x.dU.bZ then IQ bs.length x.dU.Number&&vD bs x.dU.Number.toNat else IQ n x.dU.Number) else IQ n x.A&&IQ n x.B
def IU (x:bQ):Bool:=bif x.Open then x.A != 0||x.B != 0 else !decide (x.dU= ⟨false,0⟩)
def yL (bs:List bZ) (n:Nat) (fl:List bQ) (k:Nat):Option Int:=(fl[k]?).bind fun x=>
 if IU x=true then some 3 else if uk bs n x=false then some 9 else if (!x.Open&&decide (x.B<=x.A))=true then some 8 else if x∈fl.take k then some 7 else none
def pE (bs:List bZ) (n:Nat) (fl:List bQ):Int:=if 20<fl.length then 2 else (m9 fl.length (yL bs n fl)).getD 0
theorem Cx {bs:List bZ} {n:Nat} {fl:List bQ} (h:pE bs n fl=0):fl.length<=20/\Lv bs n bs.length fl:=by
 unfold pE at h
 split at h
 ·cases h
 rename_i h20
 have hn: ∀k,k<fl.length->yL bs n fl k=none:=by
  cases hf:m9 fl.length (yL bs n fl) with
  | none=>exact gC.1 hf
  | some e=>
   rw [hf] at h
   obtain⟨k,hk,he,_⟩:=iK.1 hf
   have h:e=0:=h
   subst h
   unfold yL at he
   rw [aJ hk,Option.bind_some] at he
   repeat' split at he
   all_goals (first | (injection he with he;omega) | cases he)
 have hx: ∀x∈fl,uk bs n x=true/\(x.Open=false->x.A<x.B):=fun x hx=>by
  obtain⟨k,hk,rfl⟩:=List.mem_iff_getElem.1 hx
  have:=hn k hk
  unfold yL at this
  rw [aJ hk,Option.bind_some] at this
  split at this
  ·cases this
  ·split at this
   ·cases this
   ·rename_i h2
    split at this
    ·cases this
    ·rename_i h3
     refine⟨by simpa using h2,fun ho=>?_⟩
     rw [ho,mj,Bool.true_and,bK] at h3
     omega
 have inp: ∀{n:Nat} {k:Int},IQ n k=true->∃j:Nat,k= ((j:Nat):Int)/\j<n:=fun{n k} h=>by
  unfold IQ at h
  rw [bT,bK,bK] at h
  exact⟨k.toNat,by omega,by omega⟩
 refine⟨by omega,fun x hm ho=>?_,fun x hm ho=>?_⟩
 ·obtain⟨h1,_⟩:=hx x hm
  unfold uk at h1
  rw [ho,aR] at h1
  cases hB:x.dU.bZ with
  | true=>
   rw [hB,aR,bT] at h1
   obtain⟨j,e,hj⟩:=inp h1.1
   refine⟨j,e,fun _=>⟨hj,?_⟩,fun h=>(by rw [hB] at h;cases h)⟩
   rw [e,bS] at h1;exact h1.2
  | false=>
   rw [hB,aS] at h1
   obtain⟨j,e,hj⟩:=inp h1
   exact⟨j,e,fun h=>(by rw [hB] at h;cases h),fun _=>hj⟩
 ·obtain⟨h1,h2⟩:=hx x hm
  unfold uk at h1
  rw [ho,aS,bT] at h1
  obtain⟨i,e1,hi⟩:=inp h1.1
  obtain⟨k,e2,hk⟩:=inp h1.2
  have:=h2 ho
  exact⟨i,k,e1,e2,by omega,hk⟩
end
end Go.Gk
namespace Go.Gk
open Go Classical
structure G2 (c:List Int):Prop where
 neg: ∀(i:Nat) (x:Int),c[i]? =some x->x<0->x = -1
 own: ∀(i v:Nat),c[i]? =some ((v:Nat):Int)->c[v]? =some ((v:Nat):Int)
def Cy (c:List Int) (i k:Nat):Bool:=decide (c.getD i (-1)>=0)&&c.getD i (-1)==c.getD k (-1)
def mL (c:List Int) (i:Nat):Int:=if c.getD i (-1)<0 then ((i:Nat):Int) else c.getD i (-1)
section
variable {r:Nat->Nat}
theorem zi.first {bs:List bZ} {pcs:List aH} {fl:List bQ} {ls:List cY} {r2:Nat->Nat} {up:List Int} {fm:List (Int×Int)} {c:List Int} (h:zi bs pcs fl ls r2 ls.length up fm c):G2 c where
 neg:=fun i x hx h0=>by
  have hi:=(bD.1 hx).1
  rw [h.len] at hi
  have hl:ls[i]? =some ls[i]:=aJ hi
  cases hn:oH bs pcs fl ls[i] with
  | none=>have:=h.no i _ hi hl hn;rw [hx] at this;injection this
  | some u=>
   obtain⟨q1,q2⟩:=h.yes i _ u hi hl hn
   obtain⟨v,_,_,q3,_⟩:=h.low _ q1
   rw [hx,q3] at q2;injection q2 with q2;omega
 own:=fun i v hx=>by
  have hi:=(bD.1 hx).1
  rw [h.len] at hi
  have hl:ls[i]? =some ls[i]:=aJ hi
  cases hn:oH bs pcs fl ls[i] with
  | none=>have:=h.no i _ hi hl hn;rw [hx] at this;injection this with this;omega
  | some u=>
   obtain⟨q1,q2⟩:=h.yes i _ u hi hl hn
   obtain⟨v',l',u',q3,q4,q5,q6,q7⟩:=h.low _ q1
   have e:v=v':=by rw [hx,q3] at q2;injection q2 with q2;omega
   subst e
   obtain⟨s1,s2⟩:=h.yes v l' u' q4 q5 q6
   rw [q7,q3] at s2;exact s2
theorem zi.conn {bs:List bZ} {pcs:List aH} {fl:List bQ} {ls:List cY} {r2:Nat->Nat} {up:List Int} {fm:List (Int×Int)} {c:List Int} (h:zi bs pcs fl ls r2 ls.length up fm c) {i k:Nat} {x y:cY} (hx:ls[i]? =some x) (hy:ls[k]? =some y):
  Cy c i k=true↔∃u v,oH bs pcs fl x=some u/\oH bs pcs fl y=some v/\r2 u=r2 v:=by
 have hi:=(bD.1 hx).1
 have hk:=(bD.1 hy).1
 unfold Cy
 rw [bT,bK,beq_iff_eq,List.getD_eq_getElem?_getD,List.getD_eq_getElem?_getD]
 cases hn:oH bs pcs fl x with
 | none=>
  rw [h.no i x hi hx hn,Option.getD_some]
  exact⟨fun h=>absurd h.1 (by decide),fun⟨u,v,e,_⟩=>(by cases e)⟩
 | some u=>
  obtain⟨q1,q2⟩:=h.yes i x u hi hx hn
  obtain⟨a,_,_,q3,_⟩:=h.low _ q1
  rw [q2,Option.getD_some,q3]
  cases hm:oH bs pcs fl y with
  | none=>
   rw [h.no k y hk hy hm,Option.getD_some]
   exact⟨fun h=>absurd h.2 (by omega),fun⟨u,v,_,e,_⟩=>(by cases e)⟩
  | some v=>
   obtain⟨s1,s2⟩:=h.yes k y v hk hy hm
   obtain⟨b,_,_,s3,_⟩:=h.low _ s1
   rw [s2,Option.getD_some,s3]
   constructor
   ·rintro⟨_,e⟩
    have:=h.inj _ _ q1 s1 (by rw [q3,s3];exact e)
    exact⟨u,v,rfl,rfl,by omega⟩
   ·rintro⟨u',v',e1,e2,e3⟩
    injection e1 with e1;injection e2 with e2
    subst e1;subst e2
    rw [e3,s3] at q3
    exact⟨by omega,q3.symm⟩
end
end Go.Gk
namespace Go.Gk
open Go Classical
section
variable {N:Nat} {a:gS} {jQ:List (List aA)} {cQ:List (List (List aA))} {r:Nat->Nat} {gs:List cI} {ofP ofB fH:List Int} {fC:List dU}
theorem G3 (b:j8 a jQ cQ r gs ofP ofB fH fC) {fl:List bQ} (h0:pE a.aW (bY 0 cQ).length fl=0) (hN:4398046511104<=N):
  ∃r2 c up fm,dE N a.aW a.bJ (bY 0 cQ) (eL a.aW (bY 0 cQ)) fH fC fl=some c/\vM ((bY 0 cQ).length+a.aW.length) (LF (bY 0 cQ).length (eL a.aW (bY 0 cQ)) fl) r2/\zi a.aW (bY 0 cQ) fl a.bJ r2 a.bJ.length up fm c:=by
 have hf:=b.A0.2
 have hbl:=b.Dp.gb.len
 have hlf:=b.tA.A0
 obtain⟨h20,hok⟩:=Cx h0
 exact Cw (N:=N) (r:=r) hok (by omega) (by omega) (by omega) (by omega) (by omega) b.Bg.fH b.Bg.fC hN
end
end Go.Gk
namespace Go.Gk
open Go Classical
def Du (a0 a1 b0 b1:Int):Int:=max (max 0 (b0 - a1+1)) (a0 - b1+1)
def wC (a b:aI):Int:=max (Du a.X0 a.X1 b.X0 b.X1) (Du a.Y0 a.Y1 b.Y0 b.Y1)
def zj (s:Int) (x:aI) (b:List aI):Int:=b.foldl (fun s y=>if s<0\/wC x y<s then wC x y else s) s
def um (a b:List aI):Int:=a.foldl (fun s x=>zj s x b) (-1)
theorem G4 {a0 a1 b0 b1:Int} (h0: -1000000<=a0/\a0<=1000000) (h1: -1000000<=a1/\a1<=1000000) (h2: -1000000<=b0/\b0<=1000000) (h3: -1000000<=b1/\b1<=1000000):0<=Du a0 a1 b0 b1/\Du a0 a1 b0 b1<=2000001:=by
 unfold Du;omega
theorem JD {a b:aI} (ha:dA a=true) (hb:dA b=true):0<=wC a b/\wC a b<=2000001:=by
 obtain⟨a1,a2,a3,a4⟩:=gZ ha
 obtain⟨b1,b2,b3,b4⟩:=gZ hb
 have:=G4 a1 a3 b1 b3
 have:=G4 a2 a4 b2 b4
 unfold wC;omega
theorem Ej {x:aI} {s:Int} (hx:dA x=true): ∀(b:List aI),(∀y∈b,dA y=true)->∀{s:Int},-1<=s/\s<=2000001-> -1<=zj s x b/\zj s x b<=2000001
 | [],_,s,h=>h
 | y::b,hb,s,h=>by
  have hf:=JD hx (hb y (List.mem_cons_self ..))
  unfold zj
  rw [List.foldl_cons]
  refine Ej (s:=s) hx b (fun z hz=>hb z (jy _ hz)) ?_
  split <;> omega
theorem Ii {a b:List aI} (ha: ∀y∈a,dA y=true) (hb: ∀y∈b,dA y=true): -1<=um a b/\um a b<=2000001:=by
 have key: ∀(a:List aI),(∀y∈a,dA y=true)->∀{s:Int},-1<=s/\s<=2000001-> -1<=a.foldl (fun s x=>zj s x b) s/\a.foldl (fun s x=>zj s x b) s<=2000001:=by
  intro a
  induction a with
  | nil=>intro _ s h;exact h
  | cons x a ih=>
   intro ha s h
   rw [List.foldl_cons]
   exact ih (fun z hz=>ha z (jy _ hz)) (Ej (s:=s) (ha x (List.mem_cons_self ..)) b hb h)
 exact key a ha ⟨by omega,by omega⟩
section
variable {N:Nat}
theorem yM {a0 a1 b0 b1:Int} (h0: -1000000<=a0/\a0<=1000000) (h1: -1000000<=a1/\a1<=1000000) (h2: -1000000<=b0/\b0<=1000000) (h3: -1000000<=b1/\b1<=1000000):iH N a0 a1 b0 b1=some (Du a0 a1 b0 b1):=by
 unfold iH Du
 rw [kz (n:=b0 - a1) (by omega),kz (n:=b0 - a1+1) (by omega),kz (n:=a0 - b1) (by omega),kz (n:=a0 - b1+1) (by omega),A4,A4]
theorem G5 {a b:aI} (ha:dA a=true) (hb:dA b=true):jI N a b=some (wC a b):=by
 obtain⟨a1,a2,a3,a4⟩:=gZ ha
 obtain⟨b1,b2,b3,b4⟩:=gZ hb
 unfold jI wC
 rw [yM a1 a3 b1 b3,aB,yM a2 a4 b2 b4,aB,A4]
theorem G6 (a b:aI): ∃n,jI N a b=some n:=⟨_,rfl⟩
theorem zV (a b:aI) (n:Int): ∃p,oe N a b n=some p:=⟨_,rfl⟩
theorem zW (p q:eN): ∃c,og N p q=some c:=⟨_,rfl⟩
theorem G7 {a b:List aI} (jC:a.length<=1000000) (hbl:b.length<=1000000) (ha: ∀y∈a,dA y=true) (hb: ∀y∈b,dA y=true): ∃g,l8 N a b=some g/\g.iv=um a b - 1:=by
 have hd:=Ii ha hb
 suffices h:Ok (l8 N a b) (fun g=>g.iv=um a b - 1) from h
 unfold l8
 refine Ok.bind (Ok.iF (fun k s=>s= (a.take k).foldl (fun s x=>zj s x b) (-1)) (by omega) rfl (fun k s hk e=>?_)) (fun s e=>?_)
 ·have hx:a[k]? =some a[k]:=aJ hk
  refine Ok.ix hx (Ok.bind (Ok.iF (fun j t=>t=zj s a[k] (b.take j)) (by omega) rfl (fun j t hj et=>?_)) (fun t et=>Ok.ret ?_))
  ·have hy:b[j]? =some b[j]:=aJ hj
   refine Ok.ix hy (Ok.eq (G5 (ha _ (cJ hk)) (hb _ (cJ hj))) ?_)
   have e2:zj s a[k] (b.take (j+1))=if t<0\/wC a[k] b[j]<t then wC a[k] b[j] else t:=by
    unfold zj at et ⊢
    rw [fu hj,List.foldl_append,<-et];rfl
   rw [e2]
   by_cases hc:t<0\/wC a[k] b[j]<t
   ·rw [aD hc,show (decide (t<0)||decide (wC a[k] b[j]<t))=true by rw [dS,bK,bK];exact hc]
    exact Ok.ret rfl
   ·rw [aC hc,show (decide (t<0)||decide (wC a[k] b[j]<t))=false by rw [Bool.or_eq_false_iff,decide_eq_false_iff_not,decide_eq_false_iff_not];omega]
    exact Ok.ret rfl
  ·rw [et,eR,fu hk,List.foldl_append,<-e];rfl
 rw [eR] at e
 have e:s=um a b:=e
 subst e
 rw [kz (by omega)]
 refine Ok.bind (Ok.iF (fun k (st:qg×Bool)=>st.1.iv=um a b - 1) (by omega) rfl (fun k st hk I=>?_)) (fun st I=>?_)
 ·have hx:a[k]? =some a[k]:=aJ hk
  refine Ok.ix hx (Ok.bind (Ok.iF (fun j (st:qg×Bool)=>st.1.iv=um a b - 1) (by omega) I (fun j st hj I=>?_)) (fun st I=>Ok.ret I))
  have hy:b[j]? =some b[j]:=aJ hj
  obtain⟨p,hp⟩:=zV (N:=N) a[k] b[j] (um a b)
  refine Ok.ix hy (Ok.eq hp ?_)
  refine Ok.bind (P:=fun _=>True) ?_ (fun c _=>?_)
  ·refine Ok.eq (G5 (ha _ (cJ hk)) (hb _ (cJ hj))) ?_
   cases (wC a[k] b[j]==um a b) with
   | false=>exact Ok.ret trivial
   | true=>
    rw [aR]
    cases st.2 with
    | false=>exact Ok.ret trivial
    | true=>
     obtain⟨c,hc⟩:=zW (N:=N) p st.1.bU
     exact Ok.eq hc (Ok.ret trivial)
  ·refine Ok.bind (P:=fun(st:qg×Bool)=>st.1.iv=um a b - 1) ?_ (fun st I=>Ok.ret I)
   cases c with
   | true=>exact Ok.ret I
   | false=>exact Ok.ret I
 refine Ok.bind (Ok.iF (fun k (st:qg×Bool)=>st.1.iv=um a b - 1) (by omega) I (fun k st' hk I=>?_)) (fun st I=>Ok.ret I)
 have hx:b[k]? =some b[k]:=aJ hk
 obtain⟨p,hp⟩:=zV (N:=N) b[k] (⟨st.1.bU.X,st.1.bU.Y,(IntKind.wrap .i64 (st.1.bU.X+1)),(IntKind.wrap .i64 (st.1.bU.Y+1))⟩:aI) (um a b)
 obtain⟨f,hf⟩:=G6 (N:=N) b[k] (⟨st.1.bU.X,st.1.bU.Y,(IntKind.wrap .i64 (st.1.bU.X+1)),(IntKind.wrap .i64 (st.1.bU.Y+1))⟩:aI)
 refine Ok.ix hx (Ok.eq hp ?_)
 refine Ok.bind (P:=fun _=>True) ?_ (fun c _=>?_)
 ·refine Ok.eq hf ?_
  cases (f==um a b) with
  | false=>exact Ok.ret trivial
  | true=>
   rw [aR]
   cases st'.2 with
   | false=>exact Ok.ret trivial
   | true=>
    obtain⟨c,hc⟩:=zW (N:=N) p st'.1.To
    exact Ok.eq hc (Ok.ret trivial)
 ·refine Ok.bind (P:=fun(st:qg×Bool)=>st.1.iv=um a b - 1) ?_ (fun st I=>Ok.ret I)
  cases c with
  | true=>exact Ok.ret I
  | false=>exact Ok.ret I
end
def Hq (gs:List cI) (g:Int):Bool:=decide (g>=0)&&(gs[g.toNat]?).elim false fun G=>decide (((G.gV.length:Nat):Int)>1)
def rf (gs:List cI) (B:Bool) (of:List Int) (n:Nat):List bQ:=((List.range n).filter (fun k=>(of[k]?).elim false (Hq gs))).map (fun k=>⟨true,⟨B,((k:Nat):Int)⟩,0,0⟩)
def oI (pcs:List aH) (ofP:List Int) (near:Int) (i k:Nat):Bool:=(pcs[i]?).elim false fun p=>(pcs[k]?).elim false fun q=>decide (i<k)&&(q.cZ==p.cZ&&(decide (ofP[i]? ≠ofP[k]?)&&decide (um p.iZ q.iZ - 1<near)))
def oJ (pcs:List aH) (ofP:List Int) (near:Int) (i m:Nat):List bQ:=((List.range m).filter (oI pcs ofP near i)).map (fun k=>⟨false,⟨false,0⟩,((i:Nat):Int),((k:Nat):Int)⟩)
def tm (pcs:List aH) (ofP:List Int) (near:Int) (m:Nat):List bQ:=(List.range m).flatMap (fun i=>oJ pcs ofP near i pcs.length)
def Fv (pcs:List aH) (gs:List cI) (ofP ofB:List Int) (near:Int):List bQ:=rf gs false ofP ofP.length++rf gs true ofB ofB.length++tm pcs ofP near pcs.length
theorem zX (gs:List cI) (B:Bool) (of:List Int) (k:Nat):rf gs B of (k+1)=if (of[k]?).elim false (Hq gs)=true then rf gs B of k++[⟨true,⟨B,((k:Nat):Int)⟩,0,0⟩] else rf gs B of k:=by
 unfold rf
 rw [List.range_succ,g8,eQ]
 by_cases h: (of[k]?).elim false (Hq gs)=true
 ·rw [aD h,List.filter_cons_of_pos (p:=fun k=>(of[k]?).elim false (Hq gs)) h];rfl
 ·rw [aC h,List.filter_cons_of_neg (p:=fun k=>(of[k]?).elim false (Hq gs)) h];simp
theorem sj (gs:List cI) (B:Bool) (of:List Int) (k:Nat): (rf gs B of k).length<=k:=by
 unfold rf
 rw [fD]
 have:=jz (fun k=>(of[k]?).elim false (Hq gs)) (List.range k)
 rw [List.length_range] at this;exact this
theorem uo (pcs:List aH) (ofP:List Int) (near:Int) (i m:Nat):oJ pcs ofP near i (m+1)=if oI pcs ofP near i m=true then oJ pcs ofP near i m++[⟨false,⟨false,0⟩,((i:Nat):Int),((m:Nat):Int)⟩] else oJ pcs ofP near i m:=by
 unfold oJ
 rw [List.range_succ,g8,eQ]
 by_cases h:oI pcs ofP near i m=true
 ·rw [aD h,List.filter_cons_of_pos h];rfl
 ·rw [aC h,List.filter_cons_of_neg h];simp
theorem zY (pcs:List aH) (ofP:List Int) (near:Int) (i m:Nat): (oJ pcs ofP near i m).length<=m:=by
 unfold oJ
 rw [fD]
 have:=jz (oI pcs ofP near i) (List.range m)
 rw [List.length_range] at this;exact this
theorem uq {pcs:List aH} {ofP:List Int} {near:Int} {i m:Nat}: ∀{d:Nat},(∀k,m<=k->k<m+d->oI pcs ofP near i k=false)->oJ pcs ofP near i (m+d)=oJ pcs ofP near i m
 | 0,_=>rfl
 | d+1,h=>by
  rw [show m+ (d+1)=m+d+1 by omega,uo,h (m+d) (by omega) (by omega),aC iC]
  exact uq (fun k h1 h2=>h k h1 (by omega))
theorem wD (pcs:List aH) (ofP:List Int) (near:Int) (m:Nat):tm pcs ofP near (m+1)=tm pcs ofP near m++oJ pcs ofP near m pcs.length:=by
 unfold tm
 rw [List.range_succ,List.flatMap_append];simp
theorem Cz (pcs:List aH) (ofP:List Int) (near:Int): ∀(m:Nat),(tm pcs ofP near m).length<=m*pcs.length
 | 0=>by simp [tm]
 | m+1=>by
  rw [wD,dW,Nat.add_mul,Nat.one_mul]
  have:=Cz pcs ofP near m
  have:=zY pcs ofP near m pcs.length
  omega
theorem G8: ∀(cQ:List (List (List aA))) (k:Nat),(bY k cQ).Pairwise (fun p q=>p.cZ<=q.cZ)/\∀p∈bY k cQ,((k:Nat):Int)<=p.cZ
 | [],k=>⟨jR,fun p h=>by cases h⟩
 | ps::r,k=>by
  obtain⟨h1,h2⟩:=G8 r (k+1)
  unfold bY
  refine⟨List.pairwise_append.2 ⟨?_,h1,fun p hp q hq=>?_⟩,fun p hp=>?_⟩
  ·rw [List.pairwise_map]
   exact List.Pairwise.imp (fun _=>Int.le_refl _) (List.pairwise_of_forall (R:=fun _ _=>True) (fun _ _=>trivial))
  ·obtain⟨p',_,rfl⟩:=cR.1 hp
   have:=h2 q hq
   show ((k:Nat):Int)<=q.cZ;omega
  ·rcases cU.1 hp with hp | hp
   ·obtain⟨p',_,rfl⟩:=cR.1 hp;exact Int.le_refl _
   ·have:=h2 p hp;omega
section
variable {N:Nat} {a:gS} {jQ:List (List aA)} {cQ:List (List (List aA))} {r:Nat->Nat} {gs:List cI} {ofP ofB fH:List Int} {fC:List dU}
theorem vN {h:dU} {g:Int} {s:List bQ} (hg:0<=g->g.toNat<gs.length) (hs:s.length<=100000000):gE N h g s gs=some (if Hq gs g=true then s++[⟨true,h,0,0⟩] else s):=by
 unfold gE Hq
 by_cases h0:0<=g
 ·have hlt:=hg h0
  have hx:gs[g.toNat]? =some gs[g.toNat]:=aJ hlt
  have hi:=dD hx
  rw [Int.toNat_of_nonneg h0] at hi
  rw [cD (show g>=0 from h0),aR,hi,aB,aB,hx,Option.elim_some,Bool.true_and]
  cases decide (((gs[g.toNat].gV.length:Nat):Int)>1) with
  | true=>rw [aR,gH (by simp;omega)];rfl
  | false=>rfl
 ·rw [bF (show ¬g>=0 from h0),aS,aB,aS,Bool.false_and,aC iC];rfl
theorem Dv (b:j8 a jQ cQ r gs ofP ofB fH fC) {k:Nat} (hk:k<ofP.length): ∃g:Nat,ofP[k]? =some ((g:Nat):Int)/\g<gs.length:=by
 have hl:=b.Bg.of.lp
 obtain⟨g,h1,h2,_⟩:=Lt b.Bg (k:=k) (by omega)
 exact⟨g,h1,h2⟩
theorem G9 (b:j8 a jQ cQ r gs ofP ofB fH fC) {j:Nat} (hj:j<ofB.length): (vD a.aW j=true/\∃g:Nat,ofB[j]? =some ((g:Nat):Int)/\g<gs.length)\/(vD a.aW j=false/\ofB[j]? =some (-1)):=by
 have hl:=b.Bg.of.lb
 have hm:r ((bY 0 cQ).length+j)∈bV ((bY 0 cQ).length+a.aW.length) r:=hZ.2 ⟨by have:=b.Bg.conn.le ((bY 0 cQ).length+j) (by omega);omega,b.Bg.conn.rr _ (by omega)⟩
 have:=b.Bg.of.bo j (by omega) hm
 cases hp:vD a.aW j with
 | true=>
  rw [hp,aD rfl] at this
  exact .inl ⟨rfl,_,this,by rw [(G0 b.Bg).1];exact(Co hm (GV hp (by omega))).1⟩
 | false=>
  rw [hp,aC iC] at this
  exact .inr ⟨rfl,this⟩
theorem Fk (b:j8 a jQ cQ r gs ofP ofB fH fC) {near:Int} {q1:List (List aI)} {q2:List aI} {q3:List bZ} {q4:List cY} {q5:List (List aA)} {q6:List (List Int)} {q7:List Int} {q8:List dU} (hN:4398046511104<=N):
  mu N q1 q2 q3 q4 q5 (bY 0 cQ) q6 gs ofP ofB q7 q8 near=some (if near<0\/100000<near then ([],1) else if 20000< (Fv (bY 0 cQ) gs ofP ofB near).length then ([],2) else (Fv (bY 0 cQ) gs ofP ofB near,0)):=by
 have hf:=b.A0.2
 have hbl:=b.Dp.gb.len
 have hlp:=b.Bg.of.lp
 have hlb:=b.Bg.of.lb
 have hup:=(G8 cQ 0).1
 generalize hpcs:bY 0 cQ=pcs at *
 unfold mu
 have w:k9 N near 0 100000=some (decide (near>=0)&&decide (near<=100000)):=rfl
 rw [w,aB]
 by_cases hn:near<0\/100000<near
 ·rw [aD hn,show (decide (near>=0)&&decide (near<=100000))=false by rw [Bool.and_eq_false_iff,decide_eq_false_iff_not,decide_eq_false_iff_not];omega];rfl
 rw [aC hn,show (decide (near>=0)&&decide (near<=100000))=true by rw [bT,bK,bK];omega,lS,aS]
 have s1:iF ofP.length (fun(k34:Nat) (s35: (List bQ))=>((idx ofP (k34:Int)).bind fun x51=>(gE N (⟨false,(k34:Int)⟩:dU) x51 s35 gs).bind fun x54=>some x54:Option ((List bQ)))) ([]: (List bQ))=some (rf gs false ofP ofP.length):=
  sH (fun k=>rf gs false ofP k) (by omega) rfl (fun k hk=>by
   obtain⟨g,h1,h2⟩:=Dv b hk
   have:=sj gs false ofP k
   rw [dD h1,aB,vN (fun _=>by rw [bS];exact h2) (by omega),aB,zX,h1];rfl)
 have s2:iF ofB.length (fun(k57:Nat) (s58: (List bQ))=>((idx ofB (k57:Int)).bind fun x74=>(gE N (⟨true,(k57:Int)⟩:dU) x74 s58 gs).bind fun x77=>some x77:Option ((List bQ)))) (rf gs false ofP ofP.length)=some (rf gs false ofP ofP.length++rf gs true ofB ofB.length):=
  sH (fun k=>rf gs false ofP ofP.length++rf gs true ofB k) (by omega) (by simp [rf]) (fun k hk=>by
   have:=sj gs false ofP ofP.length
   have:=sj gs true ofB k
   have e: ∃g,ofB[k]? =some g/\(0<=g->g.toNat<gs.length):=by
    rcases G9 b hk with ⟨_,g,h1,h2⟩ | ⟨_,h1⟩
    ·exact⟨_,h1,fun _=>by rw [bS];exact h2⟩
    ·exact⟨_,h1,fun h=>by omega⟩
   obtain⟨g,h1,h2⟩:=e
   rw [dD h1,aB,vN h2 (by rw [dW];omega),aB,zX,h1,Option.elim_some]
   cases Hq gs g with
   | true=>rw [aD rfl,aD rfl,jf]
   | false=>rw [aC iC,aC iC])
 rw [s1,aB,s2,aB]
 have hb1:=sj gs false ofP ofP.length
 have hb2:=sj gs true ofB ofB.length
 generalize hB:rf gs false ofP ofP.length++rf gs true ofB ofB.length=base
 have hbase:base.length<=2500:=by rw [<-hB,dW];omega
 have hs:Fv pcs gs ofP ofB near=base++tm pcs ofP near pcs.length:=by unfold Fv;rw [hB]
 refine Ok.get ?_
 refine Ok.bind (Ok.iF (fun i s=>s=base++tm pcs ofP near i) (by omega) (by simp [tm]) (fun i s hi e=>?_)) (fun s e=>?_)
 ·subst e
  have hx:pcs[i]? =some pcs[i]:=aJ hi
  have hpl:=Cz pcs ofP near i
  have hpl: (tm pcs ofP near i).length<=2000*2000:=oV hpl (Nat.mul_le_mul (by omega) hf)
  have hri:pcs[i].iZ.length<=2000/\∀q∈pcs[i].iZ,dA q=true:=by
   obtain⟨p1,p2,_⟩:=Cv b (p:=pcs[i]) (by rw [hpcs];exact cJ hi)
   exact⟨p1,fun q hq=>(p2 q hq).1⟩
  obtain⟨gi_,hgi,_⟩:=Dv b (k:=i) (by omega)
  refine Ok.ix hx ?_
  rw [fK (by omega)]
  have hskip:oJ pcs ofP near i (i+1)= []:=by
   have e0:oJ pcs ofP near i 0= []:=by simp [oJ]
   have:=uq (pcs:=pcs) (ofP:=ofP) (near:=near) (i:=i) (m:=0) (d:=i+1) (fun k _ hk=>by
    unfold oI
    rw [hx,Option.elim_some]
    cases pcs[k]? with
    | none=>rfl
    | some q=>rw [Option.elim_some,bF (show ¬i<k by omega),Bool.false_and])
   rw [gj] at this
   rw [this,e0]
  refine Ok.bind (Ok.AO (n:=pcs.length) (fun st=>st.2) (fun k st=>i+1<=k/\st.1=base++tm pcs ofP near i++oJ pcs ofP near i k) (Go:=fun st=>st.1=base++tm pcs ofP near (i+1)) (Rt:=fun _=>False) ?_ ?_ (k0:=i+1) (by omega) rfl ⟨bP _,by dsimp only;rw [hskip,kX]⟩ (by omega)) ?_
  ·rintro k ⟨s,j⟩ hk e ⟨hik,hI⟩
   dsimp only at e hI ⊢
   subst e;subst hI
   have hy:pcs[k]? =some pcs[k]:=aJ hk
   have h1l:=zY pcs ofP near i k
   have hrk:pcs[k].iZ.length<=2000/\∀q∈pcs[k].iZ,dA q=true:=by
    obtain⟨p1,p2,_⟩:=Cv b (p:=pcs[k]) (by rw [hpcs];exact cJ hk)
    exact⟨p1,fun q hq=>(p2 q hq).1⟩
   obtain⟨gk_,hgk,_⟩:=Dv b (k:=k) (by omega)
   have hmono: ∀u v:Nat,(hv:v<pcs.length)->(huv:u<v)->pcs[u].cZ<=pcs[v].cZ:=fun u v hv huv=>lR.1 hup u v (by omega) hv huv
   rw [Lq hk,aR]
   refine Ok.eq (x:=pcs[k].cZ==pcs[i].cZ) (by rw [dD hy,aB]) ?_
   cases hL: (pcs[k].cZ==pcs[i].cZ) with
   | false=>
    rw [aS]
    refine Ok.br ?_
    dsimp only
    have hne:pcs[k].cZ≠pcs[i].cZ:=fun e=>by rw [e,BEq.rfl] at hL;cases hL
    have h1:=hmono i k hk (by omega)
    have hsk:=uq (pcs:=pcs) (ofP:=ofP) (near:=near) (i:=i) (m:=k) (d:=pcs.length - k) (fun j h2 h3=>by
     have hj:j<pcs.length:=by omega
     have h4:pcs[k].cZ<=pcs[j].cZ:=by
      by_cases e:k=j
      ·subst e;exact Int.le_refl _
      ·exact hmono k j hj (by omega)
     unfold oI
     rw [hx,aJ hj,Option.elim_some,Option.elim_some,show (pcs[j].cZ==pcs[i].cZ)=false by rw [beq_eq_false_iff_ne];omega,Bool.false_and,Bool.and_false])
    rw [show k+ (pcs.length - k)=pcs.length by omega] at hsk
    rw [wD,hsk,jf]
   | true=>
    rw [aR]
    refine Ok.eq (x:=oI pcs ofP near i k) ?_ ?_
    ·rw [dD hgi,aB,dD hgk,aB]
     unfold oI
     rw [hx,hy,Option.elim_some,Option.elim_some,hL,cD (show i<k by omega),Bool.true_and,Bool.true_and,hgi,hgk]
     by_cases e:gi_=gk_
     ·subst e
      rw [bne_self_eq_false,aS,show decide (some ((gi_:Nat):Int)≠some ((gi_:Nat):Int))=false by simp,Bool.false_and]
     ·obtain⟨g,g1,g2⟩:=G7 (N:=N) (a:=pcs[i].iZ) (b:=pcs[k].iZ) (by omega) (by omega) hri.2 hrk.2
      rw [show (((gi_:Nat):Int) != ((gk_:Nat):Int))=true by rw [bne_iff_ne];omega,aR,dD hy,aB,g1,aB,g2,show decide (some ((gi_:Nat):Int)≠some ((gk_:Nat):Int))=true by rw [bK];intro h;injection h with h;omega,Bool.true_and]
    ·cases hsP:oI pcs ofP near i k with
     | true=>
      rw [aR]
      refine Ok.bind (P:=fun s=>s=base++tm pcs ofP near i++oJ pcs ofP near i (k+1)) (Ok.app (by simp only [dW,je,List.length_nil];omega) (Ok.ret ?_)) (fun s hs=>Ok.nx ⟨fK (by omega),by omega,hs⟩)
      rw [uo,hsP,aD rfl,jf]
     | false=>
      rw [aS,aB]
      refine Ok.nx ⟨fK (by omega),by omega,?_⟩
      dsimp only
      rw [uo,hsP,aC iC]
  ·rintro⟨s,j⟩ e ⟨_,hI⟩
   dsimp only at e hI ⊢
   subst e;subst hI
   rw [Lr,aS]
   refine Ok.eq (x:=false) rfl ?_
   rw [aS]
   exact Ok.br (by dsimp only;rw [wD,jf])
  ·intro o ho
   refine Ok.cs ho (fun st hst=>Ok.ret hst) (fun r hr=>hr.elim)
 ·subst e
  rw [hs]
  by_cases hl:20000< (base++tm pcs ofP near pcs.length).length
  ·rw [aD hl,cD (show (((base++tm pcs ofP near pcs.length).length:Nat):Int)>20000 by omega)]
   exact Ok.ret rfl
  ·rw [aC hl,bF (show ¬(((base++tm pcs ofP near pcs.length).length:Nat):Int)>20000 by omega)]
   exact Ok.ret rfl
end
end Go.Gk
namespace Go.Gk
open Go Classical
theorem uu {bs:List bZ} {n:Nat} {x:bQ} (h1:IU x=false) (h2:uk bs n x=true) (h3:x.Open=false->x.A<x.B):pE bs n [x]=0:=by
 unfold pE
 have e:yL bs n [x] 0=none:=by
  unfold yL
  rw [show ([x]:List bQ)[0]? =some x from rfl,Option.bind_some,h1,aC iC,h2,aC (by decide)]
  cases ho:x.Open with
  | true=>rfl
  | false=>
   have:=h3 ho
   rw [mj,Bool.true_and,bF (by omega),aC iC,aC (by simp)]
 rw [aC (by simp),gC.2 (fun k hk=>by
  have:k=0:=by simp at hk;omega
  subst this;exact e)];rfl
theorem yN {bs:List bZ} {n:Nat}:pE bs n []=0:=rfl
noncomputable def vO (N:Nat) (a:gS) (cQ:List (List (List aA))) (fH:List Int) (fC:List dU) (fl:List bQ):List Int:=(dE N a.aW a.bJ (bY 0 cQ) (eL a.aW (bY 0 cQ)) fH fC fl).getD []
def Lx (c d:List Int):Bool:=(List.range c.length).all (fun i=>mL c i==mL d i)
section
variable {N:Nat} {a:gS} {jQ:List (List aA)} {cQ:List (List (List aA))} {r:Nat->Nat} {gs:List cI} {ofP ofB fH:List Int} {fC:List dU}
theorem Dw (b:j8 a jQ cQ r gs ofP ofB fH fC) {fl:List bQ} (h0:pE a.aW (bY 0 cQ).length fl=0) (hN:4398046511104<=N):
  dE N a.aW a.bJ (bY 0 cQ) (eL a.aW (bY 0 cQ)) fH fC fl=some (vO N a cQ fH fC fl)/\(vO N a cQ fH fC fl).length=a.bJ.length/\G2 (vO N a cQ fH fC fl):=by
 obtain⟨r2,c,up,fm,c1,c2,c3⟩:=G3 b h0 hN
 have e:vO N a cQ fH fC fl=c:=by unfold vO;rw [c1];rfl
 rw [e]
 exact⟨c1,c3.len,c3.first⟩
theorem Ha {c d:List Int} (hc:c.length<=1000000000) (hl:d.length=c.length):m7 N c d=some (Lx c d):=by
 unfold m7
 rw [mz (fun k=>if mL c k=mL d k then none else some false) (by omega) (fun k hk _=>by
  have h1:c[k]? =some c[k]:=aJ hk
  have h2:d[k]? =some (d[k]'(by omega)):=aJ _
  have n1: (bif (decide (c[k]<0)) then (some ((k:Nat):Int)) else (some c[k]))=some (mL c k):=by
   unfold mL
   rw [List.getD_eq_getElem?_getD,h1,Option.getD_some]
   by_cases h:c[k]<0
   ·rw [cD h,aD h];rfl
   ·rw [bF h,aC h];rfl
  have n2: (bif (decide ((d[k]'(by omega))<0)) then (some ((k:Nat):Int)) else (some (d[k]'(by omega))))=some (mL d k):=by
   unfold mL
   rw [List.getD_eq_getElem?_getD,h2,Option.getD_some]
   by_cases h: (d[k]'(by omega))<0
   ·rw [cD h,aD h];rfl
   ·rw [bF h,aC h];rfl
  rw [dD h1,aB,dD h2,aB,n1,aB,n2,aB]
  by_cases h:mL c k=mL d k
  ·rw [h,bne_self_eq_false,aD rfl];rfl
  ·rw [show (mL c k != mL d k)=true by rw [bne_iff_ne];exact h,aC h];rfl),aB]
 unfold Lx
 cases hf:m9 c.length (fun k=>if mL c k=mL d k then none else some false) with
 | none=>
  have e: (List.range c.length).all (fun i=>mL c i==mL d i)=true:=jB.2 (fun i hi=>by
   have:=gC.1 hf i (gm.1 hi)
   split at this
   ·rename_i h;rw [h,BEq.rfl]
   ·cases this)
  rw [e];rfl
 | some e=>
  obtain⟨k,hk,he,_⟩:=iK.1 hf
  split at he
  ·cases he
  rename_i hne
  injection he with he
  subst he
  have e: (List.range c.length).all (fun i=>mL c i==mL d i)=false:=by
   rw [List.all_eq_false]
   exact⟨k,gm.2 hk,by simpa using hne⟩
  rw [e];rfl
theorem Fm (b:j8 a jQ cQ r gs ofP ofB fH fC) {near:Int} {x:bQ} (hx:x∈Fv (bY 0 cQ) gs ofP ofB near):pE a.aW (bY 0 cQ).length [x]=0:=by
 have hlp:=b.Bg.of.lp
 have hlb:=b.Bg.of.lb
 have inp: ∀{n k:Nat},k<n->IQ n ((k:Nat):Int)=true:=fun{n k} h=>by
  unfold IQ
  rw [bT,bK,bK];omega
 unfold Fv at hx
 rcases cU.1 hx with hx | hx
 ·rcases cU.1 hx with hx | hx
  ·obtain⟨k,hk,rfl⟩:=cR.1 hx
   have hk:=gm.1 (iB.1 hk).1
   exact uu rfl (inp (by omega)) (fun h=>by cases h)
  ·obtain⟨k,hk,rfl⟩:=cR.1 hx
   obtain⟨h1,h2⟩:=iB.1 hk
   have h1:=gm.1 h1
   refine uu rfl ?_ (fun h=>by cases h)
   rcases G9 b h1 with ⟨hp,_⟩ | ⟨_,e⟩
   ·unfold uk
    simp only [aR]
    rw [inp (by omega),bS,hp];rfl
   ·rw [e,Option.elim_some] at h2
    unfold Hq at h2
    simp at h2
 ·obtain⟨i,hi,hx⟩:=List.mem_flatMap.1 hx
  obtain⟨k,hk,rfl⟩:=cR.1 hx
  obtain⟨h1,h2⟩:=iB.1 hk
  have h1:=gm.1 h1
  have hi:=gm.1 hi
  unfold oI at h2
  rw [aJ hi,aJ h1,Option.elim_some,Option.elim_some,bT,bK] at h2
  refine uu rfl ?_ (fun _=>?_)
  ·unfold uk
   simp only [aS]
   rw [inp hi,inp h1];rfl
  ·show ((i:Nat):Int)< ((k:Nat):Int);omega
noncomputable def Hb (N:Nat) (a:gS) (cQ:List (List (List aA))) (fH:List Int) (fC:List dU) (x:bQ):Bool:=Lx (vO N a cQ fH fC [x]) (vO N a cQ fH fC [])
end
section
variable {N:Nat}
end
end Go.Gk
namespace Go.Gk
open Go Classical
def nn (t u:Test):Int:=if gx t.A u.A≠0 then gx t.A u.A else gx t.B u.B
def nF (a:gS) (l:List Test) (k:Nat):Option Int:=(l[k]?).bind fun t=>
 if kA a t.A<0\/kA a t.B<0 then some 9 else if gx t.B t.A<=0 then some 8 else if 0<k/\((l[k - 1]?).elim false fun u=>decide (nn t u<=0))=true then some 8 else none
def jE (a:gS) (l:List Test):Int:=if 2000<l.length then 2 else (m9 l.length (nF a l)).getD 0
structure CA (a:gS) (t:Test):Prop where
 la:0<=kA a t.A
 lb:0<=kA a t.B
 lt:vK t.A t.B
theorem CB {a:gS} {p:fV} (h:0<=kA a p): ∃(k:Nat) (x:cY),kA a p= ((k:Nat):Int)/\a.bJ[k]? =some x/\kV x=p/\k<a.bJ.length:=by
 rcases wS a p with ⟨e,_⟩ | ⟨k,x,e,hx,hp⟩
 ·rw [e] at h;omega
 ·exact⟨k,x,e,hx,hp,(bD.1 hx).1⟩
theorem nY {a:gS} {l:List Test} (h:jE a l=0):l.length<=2000/\(∀t∈l,CA a t)/\∀(k:Nat) t u,0<k->l[k]? =some t->l[k - 1]? =some u->0<nn t u:=by
 unfold jE at h
 split at h
 ·omega
 rename_i hl
 have hn: ∀k,k<l.length->nF a l k=none:=by
  cases hf:m9 l.length (nF a l) with
  | none=>exact gC.1 hf
  | some e=>
   rw [hf] at h
   obtain⟨k,hk,he,_⟩:=iK.1 hf
   have h:e=0:=h
   subst h
   unfold nF at he
   rw [aJ hk,Option.bind_some] at he
   repeat' split at he
   all_goals (first | (injection he with he;omega) | cases he)
 refine⟨by omega,fun t ht=>?_,fun k t u hk ht hu=>?_⟩
 ·obtain⟨k,hk,rfl⟩:=List.mem_iff_getElem.1 ht
  have:=hn k hk
  unfold nF at this
  rw [aJ hk,Option.bind_some] at this
  split at this
  ·cases this
  rename_i h1
  split at this
  ·cases this
  rename_i h2
  exact⟨by omega,by omega,l7.1 (by omega)⟩
 ·have hlt:=(bD.1 ht).1
  have:=hn k hlt
  unfold nF at this
  rw [ht,Option.bind_some] at this
  split at this
  ·cases this
  split at this
  ·cases this
  split at this
  ·cases this
  rename_i h3
  rw [hu] at h3
  simp only [Option.elim_some,bK] at h3
  omega
def nM (a:gS) (c:List Int) (l:List Test):List Bool:=l.map (fun t=>Cy c (kA a t.A).toNat (kA a t.B).toNat)
section
variable {N:Nat}
theorem JE (u v:Int):oh N [u,v]=some (if u≠0 then u else v):=by
 unfold oh
 rw [u4 (l:=[u,v]) (fun x=>if x≠0 then some x else none) (by simp) (fun k x hx=>by
  rw [dD hx,aB]
  by_cases h:x=0
  ·subst h;rfl
  ·rw [show (x != 0)=true by simpa using h,aR,aD h];rfl),aB]
 by_cases h:u=0
 ·subst h
  by_cases h':v=0
  ·subst h';rfl
  ·simp [h',AG,Fo.cs]
 ·simp [h,AG,Fo.cs]
theorem xg (t u:Test):fT N t u=some (nn t u):=by
 unfold fT nn
 rw [kd,aB,kd,aB,JE,aB]
theorem Hc {a:gS} {e:Int} (he:e≠0) (h:gD N a=some (none,e)) (l:List Test):iR N a l=some (none,e):=by
 unfold iR
 rw [h,aB]
 simp only [DL,show (e != 0)=true by simpa using he,aR]
end
section
variable {N:Nat} {a:gS} {jQ:List (List aA)} {cQ:List (List (List aA))} {r:Nat->Nat} {gs:List cI} {ofP ofB fH:List Int} {fC:List dU}
theorem Ek (b:j8 a jQ cQ r gs ofP ofB fH fC) (h1:gD N a=some (some (a.aL,a.dL,a.aW,a.bJ,jQ,bY 0 cQ,eL a.aW (bY 0 cQ),gs,ofP,ofB,fH,fC),0)) {l:List Test} (hl:l.length<=1048576) (hN:4398046511104<=N):
  (jE a l≠0/\iR N a l=some (none,jE a l))\/(jE a l=0/\iR N a l=some (some (a.aL,a.dL,a.aW,a.bJ,jQ,bY 0 cQ,eL a.aW (bY 0 cQ),gs,ofP,ofB,fH,fC),0)):=by
 unfold iR
 rw [h1,aB]
 simp only [DL,bne_self_eq_false,aS]
 by_cases h2:2000<l.length
 ·have e:jE a l=2:=by unfold jE;rw [aD h2]
  rw [cD (show ((l.length:Nat):Int)>2000 by omega),aR,e]
  exact .inl ⟨by decide,rfl⟩
 rw [bF (show ¬((l.length:Nat):Int)>2000 by omega),aS]
 rw [mz (fun k=>(nF a l k).map (fun c=>(none,c))) (by omega) (fun k hk _=>by
  have hx:l[k]? =some l[k]:=aJ hk
  have e1: ((dR N a l[k].A).bind fun x149=>bif (decide (x149<0)) then (some true) else ((dR N a l[k].B).bind fun x153=>some (decide (x153<0))))=some (decide (kA a l[k].A<0)||decide (kA a l[k].B<0)):=by
   rw [qe b.tA _ hN,qe b.tA _ hN,aB,aB]
   cases decide (kA a l[k].A<0) <;> rfl
  have e2: (bif (decide ((k:Int)>0)) then ((idx l (IntKind.wrap .i64 ((k:Int) - 1))).bind fun x208=>(fT N l[k] x208).bind fun x211=>some (decide (x211<=0))) else (some false))=some (decide (0<k/\((l[k - 1]?).elim false fun u=>decide (nn l[k] u<=0))=true)):=by
   by_cases h0:0<k
   ·have hp:k - 1<l.length:=by omega
    have hy:l[k - 1]? =some l[k - 1]:=aJ hp
    rw [cD (show ((k:Nat):Int)>0 by omega),aR,kh h0 (by omega),dD hy,aB,xg,aB,hy]
    simp only [Option.elim_some,h0,true_and,bK]
   ·rw [bF (show ¬((k:Nat):Int)>0 by omega),aS,bF (fun h=>h0 h.1)]
  rw [dD hx,aB,e1,aB]
  unfold nF
  rw [hx,Option.bind_some]
  by_cases hA:kA a l[k].A<0\/kA a l[k].B<0
  ·rw [aD hA,show (decide (kA a l[k].A<0)||decide (kA a l[k].B<0))=true by rw [dS,bK,bK];exact hA]
   rfl
  rw [aC hA,show (decide (kA a l[k].A<0)||decide (kA a l[k].B<0))=false by rw [Bool.or_eq_false_iff,decide_eq_false_iff_not,decide_eq_false_iff_not];omega,aS,kd,aB]
  by_cases hB:gx l[k].B l[k].A<=0
  ·rw [aD hB,cD hB];rfl
  rw [aC hB,bF hB,aS,e2,aB]
  by_cases hC:0<k/\((l[k - 1]?).elim false fun u=>decide (nn l[k] u<=0))=true
  ·rw [aD hC,cD hC];rfl
  ·rw [aC hC,bF hC];rfl),aB,<-Gf]
 have hz:jE a l= (m9 l.length (nF a l)).getD 0:=by unfold jE;rw [aC h2]
 cases hf:m9 l.length (nF a l) with
 | none=>
  rw [hf] at hz
  exact .inr ⟨hz,rfl⟩
 | some e=>
  rw [hf] at hz
  have hz:jE a l=e:=hz
  refine .inl ⟨?_,by rw [hz];rfl⟩
  obtain⟨k,hk,he,_⟩:=iK.1 hf
  rw [hz]
  unfold nF at he
  rw [aJ hk,Option.bind_some] at he
  repeat' split at he
  all_goals (first | (injection he with he;omega) | cases he)
theorem Hd (b:j8 a jQ cQ r gs ofP ofB fH fC) {fl:List bQ} {c:List Int} (hc:dE N a.aW a.bJ (bY 0 cQ) (eL a.aW (bY 0 cQ)) fH fC fl=some c) (hcl:c.length=a.bJ.length) {l:List Test} (hl:l.length<=1048576) (ht: ∀t∈l,CA a t) (hN:4398046511104<=N):
  jP N a.aL a.dL a.aW a.bJ (bY 0 cQ) (eL a.aW (bY 0 cQ)) fH fC l fl=some (nM a c l):=by
 have hA: ∀p,dR N (⟨a.aL,a.dL,a.aW,a.bJ⟩:gS) p=some (kA a p):=fun p=>qe b.tA p hN
 unfold jP
 rw [hc,aB]
 rw [sH (s:=([]:List Bool)) (fun k=>nM a c (l.take k)) (by omega) rfl (fun k hk=>by
  have hx:l[k]? =some l[k]:=aJ hk
  obtain⟨t1,t2,_⟩:=ht _ (cJ hk)
  obtain⟨i,_,e1,_,_,hi⟩:=CB t1
  obtain⟨j,_,e2,_,_,hj⟩:=CB t2
  have ei:c[i]? =some (c[i]'(by omega)):=aJ _
  have ej:c[j]? =some (c[j]'(by omega)):=aJ _
  have hlen: (nM a c (l.take k)).length=k:=by unfold nM;rw [fD,dF];omega
  have hap: ∀x:Bool,app 1 (nM a c (l.take k)) [x]=some (nM a c (l.take k)++[x]):=fun x=>gH (by rw [hlen];simp;omega)
  have hs:nM a c (l.take (k+1))=nM a c (l.take k)++[Cy c i j]:=by
   unfold nM
   rw [fu hk,eQ,eG,List.map_nil,e1,e2,bS,bS]
  rw [dD hx,aB,hA,aB,hA,aB,e1,e2,dD ei,dD ej,aB,hs]
  unfold Cy
  rw [List.getD_eq_getElem?_getD,List.getD_eq_getElem?_getD,ei,ej,Option.getD_some,Option.getD_some]
  cases decide (c[i]'(by omega)>=0) with
  | true=>rw [aR,aB,aB,hap,aB,aB,Bool.true_and]
  | false=>rw [aS,hap,aB,aB,Bool.false_and]),aB,eR]
end
inductive MU (N:Nat) (a:gS) (l:List Test) (fl:List bQ):Prop
 | err (e:Int) (he:e≠0) (h:wH N a l fl=some ([],e))
 | ok {jQ:List (List aA)} {cQ:List (List (List aA))} {r:Nat->Nat} {gs:List cI} {ofP ofB fH:List Int} {fC:List dU} (b:j8 a jQ cQ r gs ofP ofB fH fC)
  (h1:gD N a=some (some (a.aL,a.dL,a.aW,a.bJ,jQ,bY 0 cQ,eL a.aW (bY 0 cQ),gs,ofP,ofB,fH,fC),0))
  (ht:jE a l=0) (hf:pE a.aW (bY 0 cQ).length fl=0) {c:List Int} (hc:dE N a.aW a.bJ (bY 0 cQ) (eL a.aW (bY 0 cQ)) fH fC fl=some c) (hcl:c.length=a.bJ.length) (h:wH N a l fl=some (nM a c l,0))
section
variable {N:Nat}
end
end Go.Gk
namespace Go.Gk
open Go Classical
section
variable {N:Nat}
theorem Dx {l m:List Bool} (hl:l.length<=1000000000):jl N l m=some (decide (l=m)):=by
 unfold jl
 by_cases hn:l.length=m.length
 rotate_left
 ·rw [show (((l.length:Nat):Int) != ((m.length:Nat):Int))=true by rw [bne_iff_ne];omega,aR,bF (fun e=>hn (by rw [e]))]
 rw [show (((l.length:Nat):Int) != ((m.length:Nat):Int))=false by rw [hn,bne_self_eq_false],aS]
 rw [mz (fun k=>if l[k]? =m[k]? then none else some false) (by omega) (fun k hk _=>by
  have h1:l[k]? =some l[k]:=aJ hk
  have h2:m[k]? =some (m[k]'(by omega)):=aJ _
  rw [dD h1,aB,dD h2,aB,h1,h2]
  by_cases h:l[k]=m[k]'(by omega)
  ·rw [aD (by rw [h]),h,bne_self_eq_false];rfl
  ·rw [aC (fun e=>h (by injection e)),show (l[k] != m[k]'(by omega))=true by rw [bne_iff_ne];exact h];rfl),aB]
 cases hf:m9 l.length (fun k=>if l[k]? =m[k]? then none else some false) with
 | none=>
  have e:l=m:=List.ext_getElem? fun k=>by
   by_cases hk:k<l.length
   ·have:=gC.1 hf k hk
    split at this
    ·assumption
    ·cases this
   ·rw [List.getElem?_eq_none (by omega),List.getElem?_eq_none (by omega)]
  rw [cD e];rfl
 | some e=>
  obtain⟨k,hk,he,_⟩:=iK.1 hf
  split at he
  ·cases he
  rename_i hne
  injection he with he
  subst he
  rw [bF (fun e=>hne (by rw [e]))];rfl
end
noncomputable def jq (N:Nat) (a:gS) (cQ:List (List (List aA))) (fH:List Int) (fC:List dU) (l:List Test) (fl:List bQ):List Bool:=nM a (vO N a cQ fH fC fl) l
theorem Fp (a:gS) (c:List Int) (l:List Test): (nM a c l).length=l.length:=by unfold nM;rw [fD]
theorem kj {N:Nat} {a:gS} {cQ:List (List (List aA))} {fH:List Int} {fC:List dU} {l:List Test} {fl:List bQ}: (jq N a cQ fH fC l fl).length=l.length:=Fp _ _ _
section
variable {N:Nat} {a:gS} {jQ:List (List aA)} {cQ:List (List (List aA))} {r:Nat->Nat} {gs:List cI} {ofP ofB fH:List Int} {fC:List dU}
theorem zZ (b:j8 a jQ cQ r gs ofP ofB fH fC) {fl:List bQ} (h0:pE a.aW (bY 0 cQ).length fl=0) {l:List Test} (hl:l.length<=1048576) (ht: ∀t∈l,CA a t) (hN:4398046511104<=N):
  jP N a.aL a.dL a.aW a.bJ (bY 0 cQ) (eL a.aW (bY 0 cQ)) fH fC l fl=some (jq N a cQ fH fC l fl):=by
 obtain⟨c1,c2,_⟩:=Dw b h0 hN
 exact Hd b c1 c2 hl ht hN
end
section
variable {N:Nat}
end
end Go.Gk
namespace Go.Gk
open Go Classical
section
variable (T:Nat->Nat->Bool) (n:Nat)
def gz (i k:Nat) (K:List Nat):Nat:=(List.range k).countP (T i)+K.countP (T i)
def A9 (K:List Nat) (k:Nat):Bool:=(List.range n).any (fun i=>T i k&&decide (gz T i (k+1) K=1))
def wT:Nat->List Nat->List Nat
 | 0,K=>K
 | k+1,K=>wT k (if A9 T n K k=true then k::K else K)
variable {T n}
theorem oK (i k:Nat) (K:List Nat):gz T i (k+1) K=gz T i k K+if T i k=true then 1 else 0:=by
 unfold gz
 rw [List.range_succ,List.countP_append,List.countP_singleton];omega
theorem qH (i k:Nat) (K:List Nat):gz T i k (k::K)=gz T i (k+1) K:=by
 rw [oK]
 unfold gz
 rw [List.countP_cons];omega
structure vP (T:Nat->Nat->Bool) (n m k:Nat) (K:List Nat):Prop where
 up:K.Pairwise (· < ·)
 lo: ∀j∈K,k<=j/\j<m
 all: ∀i,i<n->(∃j,j<m/\T i j=true)->0<gz T i k K
 own: ∀j∈K,∃i,i<n/\T i j=true/\gz T i k K=1
theorem vP.start (T:Nat->Nat->Bool) (n m:Nat):vP T n m m [] where
 up:=jR
 lo:=fun j h=>by cases h
 all:=fun i _ ⟨j,h1,h2⟩=>by
  unfold gz
  have:0< (List.range m).countP (T i):=List.countP_pos_iff.2 ⟨j,gm.2 h1,h2⟩
  omega
 own:=fun j h=>by cases h
theorem vP.step {m k:Nat} {K:List Nat} (h:vP T n m (k+1) K) (hk:k<m):vP T n m k (if A9 T n K k=true then k::K else K):=by
 by_cases hn:A9 T n K k=true
 ·rw [aD hn]
  refine⟨List.pairwise_cons.2 ⟨fun j hj=>by have:=h.lo j hj;omega,h.up⟩,fun j hj=>?_,fun i hi hj=>?_,fun j hj=>?_⟩
  ·rcases fN.1 hj with rfl | hj
   ·exact⟨bP _,hk⟩
   ·have:=h.lo j hj;omega
  ·rw [qH];exact h.all i hi hj
  ·rcases fN.1 hj with rfl | hj
   ·unfold A9 at hn
    obtain⟨i,hi,h1⟩:=jA.1 hn
    rw [bT,bK] at h1
    exact⟨i,gm.1 hi,h1.1,by rw [qH];exact h1.2⟩
   ·obtain⟨i,h1,h2,h3⟩:=h.own j hj
    exact⟨i,h1,h2,by rw [qH];exact h3⟩
 ·rw [aC hn]
  have hno: ∀i,i<n->T i k=true->gz T i (k+1) K≠1:=fun i hi ht e=>hn (jA.2 ⟨i,gm.2 hi,by rw [ht,e];rfl⟩)
  refine⟨h.up,fun j hj=>by have:=h.lo j hj;omega,fun i hi hj=>?_,fun j hj=>?_⟩
  ·have h1:=h.all i hi hj
   have e:=oK (T:=T) i k K
   by_cases ht:T i k=true
   ·have:=hno i hi ht
    rw [aD ht] at e;omega
   ·rw [aC ht] at e;omega
  ·obtain⟨i,h1,h2,h3⟩:=h.own j hj
   refine⟨i,h1,h2,?_⟩
   have e:=oK (T:=T) i k K
   have hp:0<K.countP (T i):=List.countP_pos_iff.2 ⟨j,hj,h2⟩
   have:gz T i k K= (List.range k).countP (T i)+K.countP (T i):=rfl
   split at e <;> omega
theorem CC {m:Nat}: ∀(k:Nat) (K:List Nat),k<=m->vP T n m k K->vP T n m 0 (wT T n k K)
 | 0,K,_,h=>h
 | k+1,K,hk,h=>CC k _ (by omega) (h.step (by omega))
def i5 (T:Nat->Nat->Bool) (n m:Nat):List Nat:=wT T n m []
theorem yO (i:Nat) (K:List Nat):gz T i 0 K=K.countP (T i):=by unfold gz;simp
theorem mD (T:Nat->Nat->Bool) (n m:Nat):vP T n m 0 (i5 T n m):=CC m [] (bP _) (vP.start T n m)
theorem Dy {m i:Nat} (hi:i<n): (∃j,j<m/\T i j=true)↔∃j∈i5 T n m,T i j=true:=by
 have h:=mD T n m
 constructor
 ·intro hj
  have:=h.all i hi hj
  rw [yO] at this
  exact List.countP_pos_iff.1 this
 ·rintro⟨j,hj,ht⟩
  exact⟨j,(h.lo j hj).2,ht⟩
theorem He {m j:Nat} (hj:j∈i5 T n m): ∃i,i<n/\T i j=true/\(i5 T n m).countP (T i)=1:=by
 obtain⟨i,h1,h2,h3⟩:=(mD T n m).own j hj
 exact⟨i,h1,h2,by rw [<-yO];exact h3⟩
theorem Hf {m:Nat} (h: ∀k,k<m->∃i,i<n/\T i k=true/\(List.range m).countP (T i)=1):i5 T n m=List.range m:=by
 have key: ∀(k:Nat),k<=m->wT T n k ((List.range m).drop k)=List.range m:=by
  intro k
  induction k with
  | zero=>intro _;rw [List.drop_zero];rfl
  | succ k ih=>
   intro hk
   have hd: (List.range m).drop k=k::(List.range m).drop (k+1):=by
    rw [qh (by simpa using (show k<m by omega))];simp
   have hn:A9 T n ((List.range m).drop (k+1)) k=true:=by
    obtain⟨i,h1,h2,h3⟩:=h k (by omega)
    refine jA.2 ⟨i,gm.2 h1,?_⟩
    have e1:List.range (k+1)= (List.range m).take (k+1):=by rw [List.take_range,Nat.min_eq_left (by omega)]
    have e2:gz T i (k+1) ((List.range m).drop (k+1))= (List.range m).countP (T i):=by
     unfold gz
     rw [<-List.countP_append,e1,List.take_append_drop]
    rw [h2,Bool.true_and,bK,e2,h3]
   show wT T n k (if A9 T n ((List.range m).drop (k+1)) k=true then k::(List.range m).drop (k+1) else (List.range m).drop (k+1))=_
   rw [aD hn,<-hd]
   exact ih (by omega)
 have:=key m (bP _)
 rw [List.drop_eq_nil_of_le (by simp)] at this
 exact this
theorem Fq {m:Nat} {T':Nat->Nat->Bool} (hT: ∀i k,(hk:k< (i5 T n m).length)->T' i k=T i (i5 T n m)[k]):i5 T' n (i5 T n m).length=List.range (i5 T n m).length:=by
 refine Hf fun k hk=>?_
 obtain⟨i,h1,h2,h3⟩:=He (T:=T) (n:=n) (m:=m) (cJ hk)
 refine⟨i,h1,by rw [hT i k hk];exact h2,?_⟩
 rw [<-h3]
 have e: (i5 T n m)= (List.range (i5 T n m).length).map (fun k=>(i5 T n m).getD k 0):=by
  refine List.ext_getElem (by simp) fun j h1 h2=>?_
  simp [List.getD_eq_getElem?_getD,aJ h1]
 conv=>rhs;rw [e,List.countP_map]
 refine List.countP_congr fun j hj=>?_
 have hj:=gm.1 hj
 show T' i j=true↔T i ((i5 T n m).getD j 0)=true
 rw [hT i j hj,List.getD_eq_getElem?_getD,aJ hj,Option.getD_some]
end
end Go.Gk
namespace Go.Gk
open Go Classical
def CD (n:Nat) (f:Nat->Int):List Int:=(List.range n).map f
theorem xx (n:Nat) (f:Nat->Int): (CD n f).length=n:=by unfold CD;simp
theorem wE {n:Nat} {f:Nat->Int} {i:Nat} (h:i<n): (CD n f)[i]? =some (f i):=by unfold CD;rw [fG,List.getElem?_range h];rfl
theorem lu {n:Nat} {f g:Nat->Int} (h: ∀i,i<n->f i=g i):CD n f=CD n g:=List.map_congr_left fun i hi=>h i (gm.1 hi)
theorem El {n:Nat} {f g:Nat->Int} {i:Nat} {v:Int} (hv:i<n->v=g i) (hg: ∀j,j<n->j≠i->f j=g j): (CD n f).set i v=CD n g:=by
 refine List.ext_getElem? fun j=>?_
 by_cases hj:j<n
 ·rw [wE hj]
  by_cases e:i=j
  ·subst e;rw [List.getElem?_set_self (by rw [xx];exact hj),hv hj]
  ·rw [List.getElem?_set_ne e,wE hj,hg j hj (Ne.symm e)]
 ·rw [List.getElem?_eq_none (by rw [gh,xx];omega),List.getElem?_eq_none (by rw [xx];omega)]
theorem Hg (n:Nat):List.replicate n (0:Int)=CD n (fun _=>0):=by
 refine List.ext_getElem? fun j=>?_
 by_cases hj:j<n
 ·rw [wE hj,List.getElem?_replicate,aD hj]
 ·rw [List.getElem?_eq_none (by simp;omega),List.getElem?_eq_none (by rw [xx];omega)]
def tC (f:bQ->List Bool) (rg:List Bool) (F:List bQ) (i k:Nat):Bool:=(F[i]?).elim false fun x=>(f x).getD k false != rg.getD k false
theorem yP {f:bQ->List Bool} {rg:List Bool} {F:List bQ} {i k:Nat} {x:bQ} {u v:Bool} (hx:F[i]? =some x) (hu: (f x)[k]? =some u) (hv:rg[k]? =some v):tC f rg F i k= (u != v):=by
 unfold tC
 rw [hx,Option.elim_some,List.getD_eq_getElem?_getD,List.getD_eq_getElem?_getD,hu,hv];rfl
theorem CE (T:Nat->Nat->Bool) (i k:Nat) (K:List Nat):gz T i k K<=k+K.length:=by
 unfold gz
 have h1:=List.countP_le_length (p:=T i) (l:=List.range k)
 have h2:=List.countP_le_length (p:=T i) (l:=K)
 rw [List.length_range] at h1;omega
section
variable {N:Nat}
theorem Ba {l:List Test} (hl:l.length<=1048576) (hN:4398046511104<=N):iz N l=some l.reverse:=by
 refine Ok.get ?_
 unfold iz
 refine Ok.bind (Ok.AO (n:=l.length / 2) (fun st=>st.2.1) (fun i st=>st.2.2= ((l.length:Nat):Int) - 1 - ((i:Nat):Int)/\st.1.length=l.length/\∀x,x<l.length->st.1[x]? =if x<i\/l.length - 1 - i<x then l[l.length - 1 - x]? else l[x]?)
  (Go:=fun st=>st.1=l.reverse) (Rt:=fun _=>False) ?_ ?_ (mi _) rfl ⟨?_,rfl,fun x hx=>?_⟩ (by omega)) ?_
 ·rintro i ⟨s,a,c⟩ hi e ⟨h1,h2,h3⟩
  dsimp only at e h1 h2 h3 ⊢
  subst e
  obtain⟨j,rfl⟩: ∃j:Nat,c= ((j:Nat):Int):=⟨c.toNat,by omega⟩
  have hj:j=l.length - 1 - i:=by omega
  have hij:i<j:=by omega
  have hjl:j<s.length:=by omega
  have hil:i<s.length:=by omega
  have ei:s[i]? =some s[i]:=aJ hil
  have ej:s[j]? =some s[j]:=aJ hjl
  have ej2: (s.set i s[j])[j]? =some s[j]:=by rw [List.getElem?_set_ne (by omega)];exact ej
  rw [cD (show ((i:Nat):Int)< ((j:Nat):Int) by omega),aR,bS,bS]
  refine Ok.ix ej (Ok.ix ei (Ok.ix ei (Ok.ix ej2 ?_)))
  rw [fK (by omega),kh (by omega) (by omega)]
  refine Ok.nx ⟨rfl,by show ((j - 1:Nat):Int)=_;omega,by simp only [gh];exact h2,fun x hx=>?_⟩
  have hi3:=h3 i (by omega)
  have hj3:=h3 j (by omega)
  rw [aC (by omega)] at hi3 hj3
  by_cases e1:x=j
  ·subst e1
   rw [List.getElem?_set_self (by rw [gh];exact hjl),aD (by omega),<-ei,hi3]
   congr 1;omega
  ·rw [List.getElem?_set_ne (Ne.symm e1)]
   by_cases e2:x=i
   ·subst e2
    rw [List.getElem?_set_self hil,aD (by omega),<-ej,hj3]
    congr 1
   ·rw [List.getElem?_set_ne (Ne.symm e2),h3 x hx]
    by_cases e3:x<i\/l.length - 1 - i<x
    ·rw [aD e3,aD (by omega)]
    ·rw [aC e3,aC (by omega)]
 ·rintro⟨s,a,c⟩ e ⟨h1,h2,h3⟩
  dsimp only at e h1 h2 h3 ⊢
  subst e
  rw [bF (by omega),aS]
  refine Ok.br ?_
  dsimp only
  refine List.ext_getElem? fun x=>?_
  by_cases hx:x<l.length
  ·rw [h3 x hx,List.getElem?_reverse hx]
   split
   ·rfl
   ·congr 1;omega
  ·rw [List.getElem?_eq_none (by omega),List.getElem?_eq_none (by rw [List.length_reverse];omega)]
 ·dsimp only
  by_cases h0:l.length=0
  ·rw [h0];rfl
  ·rw [kh (by omega) (by omega)];omega
 ·dsimp only
  rw [aC (by omega)]
 ·intro o ho
  exact Ok.cs ho (fun s hs=>Ok.ret hs) (fun r hr=>hr.elim)
end
noncomputable def sm (N:Nat) (a:gS) (cQ:List (List (List aA))) (gs:List cI) (ofP ofB fH:List Int) (fC:List dU) (near:Int):List bQ:=(Fv (bY 0 cQ) gs ofP ofB near).filter (fun x=> !Hb N a cQ fH fC x)
noncomputable def nN (f:bQ->List Bool) (F:List bQ):List bO:=F.map (fun x=>⟨x,f x⟩)
section
variable {N:Nat} {a:gS} {jQ:List (List aA)} {cQ:List (List (List aA))} {r:Nat->Nat} {gs:List cI} {ofP ofB fH:List Int} {fC:List dU}
theorem wU {l:List Test} {near e:Int} (he:e≠0) (h:iR N a l=some (none,e)):eX N a l near=some ([],[],e):=by
 unfold eX
 rw [h,aB]
 simp only [DL,show (e != 0)=true by simpa using he,aR]
theorem yQ (b:j8 a jQ cQ r gs ofP ofB fH fC) {l:List Test} (h1:iR N a l=some (some (a.aL,a.dL,a.aW,a.bJ,jQ,bY 0 cQ,eL a.aW (bY 0 cQ),gs,ofP,ofB,fH,fC),0)) (hl:l.length<=1048576) (ht: ∀t∈l,CA a t) (near:Int) (hN:4398046511104<=N):
  eX N a l near=some (if near<0\/100000<near then ([],[],1) else if 20000< (Fv (bY 0 cQ) gs ofP ofB near).length then ([],[],2) else (nN (fun x=>jq N a cQ fH fC l [x]) (sm N a cQ gs ofP ofB fH fC near),jq N a cQ fH fC l [],0)):=by
 have hll:=b.tA.A0
 unfold eX
 rw [h1,aB]
 simp only [DL,bne_self_eq_false,aS]
 rw [Fk b hN,aB]
 by_cases hn:near<0\/100000<near
 ·rw [aD hn,aD hn];rfl
 rw [aC hn,aC hn]
 by_cases hs:20000< (Fv (bY 0 cQ) gs ofP ofB near).length
 ·rw [aD hs,aD hs];rfl
 rw [aC hs,aC hs]
 simp only [bne_self_eq_false,aS]
 obtain⟨c1,c2,c3⟩:=Dw b (fl:=[]) yN hN
 rw [c1,aB]
 unfold sm
 generalize hS:Fv (bY 0 cQ) gs ofP ofB near=S at *
 rw [sH (s:=(vO N a cQ fH fC [],([]:List bO))) (fun k=>(vO N a cQ fH fC [],nN (fun x=>jq N a cQ fH fC l [x]) ((S.take k).filter (fun x=> !Hb N a cQ fH fC x)))) (by omega) rfl (fun k hk=>by
  have hx:S[k]? =some S[k]:=aJ hk
  have hr:=Fm b (near:=near) (x:=S[k]) (by rw [hS];exact cJ hk)
  obtain⟨d1,d2,d3⟩:=Dw b (fl:=[S[k]]) hr hN
  have hlen: (nN (fun x=>jq N a cQ fH fC l [x]) ((S.take k).filter (fun x=> !Hb N a cQ fH fC x))).length<=k:=by
   unfold nN;rw [fD]
   exact oV (jz _ _) (List.length_take_le _ _)
  rw [dD hx,aB,d1,aB,Ha (by rw [d2];omega) (by rw [c2,d2]),aB,fu hk,g8]
  have eh:Hb N a cQ fH fC S[k]=Lx (vO N a cQ fH fC [S[k]]) (vO N a cQ fH fC []):=rfl
  cases hh:Lx (vO N a cQ fH fC [S[k]]) (vO N a cQ fH fC []) with
  | false=>
   rw [mj,aR,zZ b hr hl ht hN,aB,gH (by simp only [je,List.length_nil];omega),aB,aB,List.filter_cons_of_pos (by rw [eh,hh];rfl),List.filter_nil]
   unfold nN
   rw [eQ];rfl
  | true=>rw [lS,aS,aB,List.filter_cons_of_neg (by rw [eh,hh];exact iC),List.filter_nil,kX]),aB,eR,zZ b yN hl ht hN,aB]
end
section
variable {N:Nat}
theorem z5 {a:gS} {l:List Test} {near:Int} {f:bQ->List Bool} {F:List bQ} {rg:List Bool} (h:eX N a l near=some (nN f F,rg,0)) (hF:F.length<=1000000) (hf: ∀x,(f x).length<=1000000000):
  ld N a l near=some (F.filter (fun x=>decide (f x=rg)),0):=by
 have hlF: (nN f F).length=F.length:=by unfold nN;rw [fD]
 unfold ld
 rw [h,aB]
 simp only [bne_self_eq_false,aS]
 rw [sH (s:=(rg,([]:List bQ))) (fun k=>(rg,(F.take k).filter (fun x=>decide (f x=rg)))) (by omega) rfl (fun k hk=>by
  rw [hlF] at hk
  have hx: (nN f F)[k]? =some ⟨F[k],f F[k]⟩:=by unfold nN;rw [fG,aJ hk];rfl
  have hlen: ((F.take k).filter (fun x=>decide (f x=rg))).length<=k:=oV (jz _ _) (List.length_take_le _ _)
  rw [dD hx,aB,Dx (hf _),aB,fu hk,g8]
  by_cases hh:f F[k]=rg
  ·rw [cD hh,aR,gH (by simp only [je,List.length_nil];omega),aB,aB,List.filter_cons_of_pos (by rw [bK];exact hh),List.filter_nil]
  ·rw [bF hh,aS,aB,List.filter_cons_of_neg (by rw [bK];exact hh),List.filter_nil,kX]),aB,hlF,eR]
theorem Hh {a:gS} {l:List Test} {near e:Int} (he:e≠0) (h:eX N a l near=some ([],[],e)):kK N a l near=some ([],e):=by
 unfold kK
 rw [h,aB,show ((([],[],e):List bO×List Bool×Int).2.2 != 0)=true by simpa using he,aR]
def JF:Test:=⟨⟨⟨[]⟩,⟨[]⟩⟩,⟨⟨[]⟩,⟨[]⟩⟩,false⟩
def nO (T:Nat->Nat->Bool) (n:Nat) (l:List Test):List Test:=(i5 T n l.length).map (fun k=>l.getD k JF)
theorem Em {a:gS} {l:List Test} {near:Int} {f:bQ->List Bool} {F:List bQ} {rg:List Bool} (h:eX N a l near=some (nN f F,rg,0)) (hF:F.length<=1000000) (hl:l.length<=1048576) (hf: ∀x,(f x).length=l.length) (hrg:rg.length=l.length) (hN:4398046511104<=N):
  kK N a l near=some (nO (tC f rg F) F.length l,0):=by
 have hlF: (nN f F).length=F.length:=by unfold nN;rw [fD]
 have hsx: ∀{i:Nat} (hi:i<F.length),(nN f F)[i]? =some ⟨F[i],f F[i]⟩:=fun{i} hi=>by unfold nN;rw [fG,aJ hi];rfl
 have hbx: ∀{i k:Nat} (hi:i<F.length) (hk:k<l.length),∃u v,(f F[i])[k]? =some u/\rg[k]? =some v/\tC f rg F i k= (u != v):=fun{i k} hi hk=>by
  have e1: (f F[i])[k]? =some ((f F[i])[k]'(by rw [hf];exact hk)):=aJ _
  have e2:rg[k]? =some (rg[k]'(by rw [hrg];exact hk)):=aJ _
  exact⟨_,_,e1,e2,yP (aJ hi) e1 e2⟩
 refine Ok.get ?_
 unfold kK
 refine Ok.eq h ?_
 dsimp only
 rw [bne_self_eq_false,aS,hlF]
 generalize hT:tC f rg F=T at hbx ⊢
 refine Ok.eq (o4 0 (by omega)) ?_
 rw [Hg]
 refine Ok.bind (Ok.iF (fun i s=>s=CD F.length (fun j=>if j<i then ((gz T j l.length []:Nat):Int) else 0)) (by omega) (lu fun i _=>by rw [aC (by omega)]) (fun i s hi e=>?_)) (fun s e=>?_)
 ·subst e
  refine Ok.ix (hsx hi) (Ok.bind (Ok.iF (fun k s=>s=CD F.length (fun j=>if j<i then ((gz T j l.length []:Nat):Int) else if j=i then ((gz T i k []:Nat):Int) else 0)) (by omega) (lu fun j _=>by
   by_cases e1:j<i
   ·rw [aD e1,aD e1]
   ·rw [aC e1,aC e1]
    by_cases e2:j=i
    ·rw [aD e2];simp [gz]
    ·rw [aC e2]) (fun k s hk e=>?_)) (fun s e=>Ok.ret ?_))
  ·subst e
   obtain⟨u,v,h1,h2,h3⟩:=hbx hi hk
   refine Ok.ix h1 (Ok.ix h2 ?_)
   have es:=oK (T:=T) i k []
   rw [h3] at es
   cases hb: (u != v) with
   | true=>
    rw [hb,aD rfl] at es
    have hti:=wE (n:=F.length) (f:=fun j=>if j<i then ((gz T j l.length []:Nat):Int) else if j=i then ((gz T i k []:Nat):Int) else 0) hi
    rw [aC (Nat.lt_irrefl i),aD rfl] at hti
    have hle:=CE T i k []
    rw [List.length_nil] at hle
    rw [aR]
    refine Ok.bind (P:=fun s=>s=CD F.length (fun j=>if j<i then ((gz T j l.length []:Nat):Int) else if j=i then ((gz T i (k+1) []:Nat):Int) else 0)) (Ok.ix hti (Ok.ix hti (Ok.ret ?_))) (fun s hs=>Ok.ret hs)
    rw [fK (by omega),bS]
    refine El (fun _=>?_) (fun j _ hj=>?_)
    ·rw [aC (Nat.lt_irrefl i),aD rfl,es]
    ·by_cases e1:j<i
     ·rw [aD e1,aD e1]
     ·rw [aC e1,aC e1,aC hj,aC hj]
   | false=>
    rw [hb,aC iC,Nat.add_zero (gz T i k [])] at es
    rw [aS,aB]
    refine Ok.ret (lu fun j _=>?_)
    rw [es]
  ·rw [e]
   refine lu fun j _=>?_
   by_cases e1:j<i
   ·rw [aD e1,aD (by omega)]
   ·rw [aC e1]
    by_cases e2:j=i
    ·subst e2;rw [aD rfl,aD (by omega)]
    ·rw [aC e2,aC (by omega)]
 have e:s=CD F.length (fun j=>((gz T j l.length []:Nat):Int)):=by rw [e];exact lu fun j hj=>by rw [aD hj]
 subst e
 have hw0:IntKind.wrap .i64 (((l.length:Nat):Int) - 1)= ((l.length:Nat):Int) - 1:=kz (by omega)
 rw [hw0]
 refine Ok.bind (Ok.AO (n:=l.length) (fun st=>((l.length:Nat):Int) - 1 - st.2.2) (fun j st=>∃K:List Nat,K.length<=j/\wT T F.length (l.length - j) K=i5 T F.length l.length/\st.1=CD F.length (fun i=>((gz T i (l.length - j) K:Nat):Int))/\st.2.1= (K.map (fun k=>l.getD k JF)).reverse)
  (Go:=fun st=>st.2.1= (nO T F.length l).reverse) (Rt:=fun _=>False) ?_ ?_ (mi _) (by dsimp only;omega) ⟨[],bP _,rfl,rfl,rfl⟩ (by omega)) ?_
 ·rintro j ⟨s,o,c⟩ hj e ⟨K,k1,k2,k3,k4⟩
  dsimp only at e k3 k4 ⊢
  subst k3;subst k4
  obtain⟨k,hk⟩: ∃k,l.length - j=k+1:=⟨l.length - j - 1,by omega⟩
  have hc:c= ((k:Nat):Int):=by omega
  subst hc
  have hkl:k<l.length:=by omega
  have hlx:l[k]? =some (l.getD k JF):=by rw [List.getD_eq_getElem?_getD,aJ (by omega)];rfl
  have hmj:l.length - (j+1)=k:=by omega
  rw [hk] at k2 ⊢
  rw [cD (show ((k:Nat):Int)>=0 by omega),aR]
  have hneed:iF F.length (fun(k386:Nat) (s387:Bool)=>((idx (nN f F) (k386:Int)).bind fun x431=>(bif s387 then (some true) else ((idx x431.tp ((k:Nat):Int)).bind fun x449=>(idx rg ((k:Nat):Int)).bind fun x451=>bif (x449 != x451) then ((idx (CD F.length (fun i=>((gz T i (k+1) K:Nat):Int))) (k386:Int)).bind fun x453=>some (x453==1)) else (some false))).bind fun s446=>some s446:Option (Bool))) false=some (A9 T F.length K k):=
   sH (s:=false) (fun i=>(List.range i).any (fun i=>T i k&&decide (gz T i (k+1) K=1))) (by omega) rfl (fun i hi=>by
    obtain⟨u,v,h1,h2,h3⟩:=hbx hi hkl
    rw [dD (hsx hi),aB,List.range_succ,List.any_append,List.any_cons,List.any_nil,Bool.or_false,h3]
    cases (List.range i).any (fun i=>T i k&&decide (gz T i (k+1) K=1)) with
    | true=>rfl
    | false=>
     rw [aS,dD h1,aB,dD h2,aB,Bool.false_or]
     cases hb: (u != v) with
     | true=>
      rw [aR,dD (wE hi),aB,aB,Bool.true_and]
      congr 1
      rw [fO,beq_iff_eq,bK];omega
     | false=>rfl)
  refine Ok.eq hneed ?_
  have ek:wT T F.length (k+1) K=wT T F.length k (if A9 T F.length K k=true then k::K else K):=rfl
  cases hnd:A9 T F.length K k with
  | true=>
   rw [ek,hnd,aD rfl] at k2
   rw [aR]
   refine Ok.ix hlx (Ok.app (by simp only [List.length_reverse,fD,je,List.length_nil];omega) (Ok.nx ⟨?_,k::K,by simp only [je];omega,by rw [hmj];exact k2,?_,?_⟩))
   ·show ((l.length:Nat):Int) - 1 - IntKind.wrap .i64 (((k:Nat):Int) - 1)=_
    rw [kz (by omega)];omega
   ·dsimp only
    rw [hmj]
    exact lu fun i _=>by rw [qH]
   ·dsimp only
    rw [eG,List.reverse_cons]
  | false=>
   rw [ek,hnd,aC iC] at k2
   rw [aS]
   refine Ok.bind (Ok.iF (fun i s=>s=CD F.length (fun j=>if j<i then ((gz T j k K:Nat):Int) else ((gz T j (k+1) K:Nat):Int))) (by omega) (lu fun j _=>by rw [aC (by omega)]) (fun i s hi e=>?_)) (fun s e=>?_)
   ·subst e
    obtain⟨u,v,h1,h2,h3⟩:=hbx hi hkl
    refine Ok.ix (hsx hi) (Ok.ix h1 (Ok.ix h2 ?_))
    have es:=oK (T:=T) i k K
    rw [h3] at es
    have hti:=wE (n:=F.length) (f:=fun j=>if j<i then ((gz T j k K:Nat):Int) else ((gz T j (k+1) K:Nat):Int)) hi
    rw [aC (Nat.lt_irrefl i)] at hti
    have hle:=CE T i k K
    cases hb: (u != v) with
    | true=>
     rw [hb,aD rfl] at es
     rw [aR]
     refine Ok.bind (P:=fun s=>s=CD F.length (fun j=>if j<i+1 then ((gz T j k K:Nat):Int) else ((gz T j (k+1) K:Nat):Int))) (Ok.ix hti (Ok.ix hti (Ok.ret ?_))) (fun s hs=>Ok.ret hs)
     rw [kz (by omega),bS]
     refine El (fun _=>?_) (fun j _ hj=>?_)
     ·rw [aD (by omega)];omega
     ·by_cases e1:j<i
      ·rw [aD e1,aD (by omega)]
      ·rw [aC e1,aC (by omega)]
    | false=>
     rw [hb,aC iC,Nat.add_zero (gz T i k K)] at es
     rw [aS,aB]
     refine Ok.ret (lu fun j _=>?_)
     by_cases e1:j<i
     ·rw [aD e1,aD (by omega)]
     ·rw [aC e1]
      by_cases e2:j=i
      ·subst e2;rw [aD (by omega),es]
      ·rw [aC (by omega)]
   ·refine Ok.nx ⟨?_,K,by omega,by rw [hmj];exact k2,?_,rfl⟩
    ·show ((l.length:Nat):Int) - 1 - IntKind.wrap .i64 (((k:Nat):Int) - 1)=_
     rw [kz (by omega)];omega
    ·dsimp only
     rw [e,hmj]
     exact lu fun i hi=>by rw [aD hi]
 ·rintro⟨s,o,c⟩ e ⟨K,k1,k2,k3,k4⟩
  dsimp only at e k3 k4 ⊢
  rw [bF (by omega),aS]
  refine Ok.br ?_
  dsimp only
  have k2:K=i5 T F.length l.length:=by rw [Nat.sub_self] at k2;exact k2
  rw [k4,k2]
  rfl
 ·intro o ho
  refine Ok.cs ho (fun st hst=>?_) (fun r hr=>hr.elim)
  have hst:st.2.1= (nO T F.length l).reverse:=hst
  have hkl: (nO T F.length l).length<=1048576:=by
   unfold nO
   rw [fD]
   have h:=mD T F.length l.length
   have:=dN (List.Pairwise.imp (fun h=>by omega) h.up: (i5 T F.length l.length).Nodup) (m:=List.range l.length) (fun v hv=>gm.2 (h.lo v hv).2)
   rw [List.length_range] at this;omega
  rw [hst]
  refine Ok.eq (Ba (by rw [List.length_reverse];exact hkl) hN) (Ok.ret ?_)
  rw [List.reverse_reverse]
end
end Go.Gk
namespace Go.Gk
open Go Classical
theorem qf {α:Type} {R:α->α->Prop} (tr: ∀x y z,R x y->R y z->R x z): ∀{l:List α},(∀(k:Nat) x y,l[k]? =some x->l[k+1]? =some y->R x y)->l.Pairwise R
 | [],_=>jR
 | [x],_=>List.pairwise_singleton R x
 | x::y::l,h=>by
  have ih:=qf tr (l:=y::l) (fun k u v hu hv=>h (k+1) u v hu hv)
  have h0:=h 0 x y rfl rfl
  refine List.pairwise_cons.2 ⟨fun z hz=>?_,ih⟩
  rcases fN.1 hz with rfl | hz
  ·exact h0
  ·exact tr x y z h0 ((List.pairwise_cons.1 ih).1 z hz)
def Hr (u t:Test):Prop:=vK u.A t.A\/(u.A=t.A/\vK u.B t.B)
theorem wV {t u:Test}:0<nn t u↔Hr u t:=by
 unfold nn Hr
 by_cases h:gx t.A u.A=0
 ·have e:=lr.1 h
  rw [aC (by simpa using h),l7]
  constructor
  ·exact fun h=> .inr ⟨e.symm,h⟩
  ·rintro(h1 | ⟨_,h1⟩)
   ·rw [e] at h1;exact absurd h1 (vK.irrefl _)
   ·exact h1
 ·rw [aD h,l7]
  constructor
  ·exact .inl
  ·rintro(h1 | ⟨e,_⟩)
   ·exact h1
   ·exact absurd (lr.2 e.symm) h
theorem Hr.trans {s t u:Test} (h1:Hr s t) (h2:Hr t u):Hr s u:=by
 rcases h1 with h1 | ⟨e1,h1⟩
 ·rcases h2 with h2 | ⟨e2,_⟩
  ·exact .inl (h1.trans h2)
  ·exact .inl (e2▸h1)
 ·rcases h2 with h2 | ⟨e2,h2⟩
  ·exact .inl (e1▸h2)
  ·exact .inr ⟨e1.trans e2,h1.trans h2⟩
theorem Ij {a:gS} {l:List Test} (h:jE a l=0):l.Pairwise Hr:=
 qf (R:=Hr) (fun _ _ _=>Hr.trans) (fun k x y hx hy=>wV.1 ((nY h).2.2 (k+1) y x (by omega) hy hx))
theorem Dz {a:gS} {l:List Test} (hl:l.length<=2000) (h1: ∀t∈l,CA a t) (h2:l.Pairwise Hr):jE a l=0:=by
 unfold jE
 rw [aC (by omega),gC.2 (fun k hk=>by
  have hx:l[k]? =some l[k]:=aJ hk
  obtain⟨q1,q2,q3⟩:=h1 _ (cJ hk)
  unfold nF
  rw [hx,Option.bind_some,aC (by omega),aC (by have:=l7.2 q3;omega),aC]
  rintro⟨h0,h⟩
  have hp:k - 1<l.length:=by omega
  rw [aJ hp,Option.elim_some,bK] at h
  have:=wV.2 (lR.1 h2 (k - 1) k hp hk (by omega))
  omega)]
 rfl
section
variable {T:Nat->Nat->Bool} {n:Nat} {l:List Test}
theorem z6: (nO T n l).length= (i5 T n l.length).length:=by unfold nO;rw [fD]
theorem Hi {j:Nat} (hj:j< (i5 T n l.length).length): (nO T n l)[j]? =l[(i5 T n l.length)[j]]? :=by
 have h:=(mD T n l.length).lo _ (cJ hj)
 unfold nO
 rw [fG,aJ hj,Option.map_some,List.getD_eq_getElem?_getD,aJ h.2];rfl
theorem z7 {t:Test} (h:t∈nO T n l):t∈l:=by
 obtain⟨k,hk,rfl⟩:=cR.1 h
 have h:=(mD T n l.length).lo k hk
 rw [List.getD_eq_getElem?_getD,aJ h.2]
 exact cJ h.2
theorem CF: (i5 T n l.length).length<=l.length:=by
 have h:=mD T n l.length
 have:=dN (List.Pairwise.imp (fun h=>by omega) h.up: (i5 T n l.length).Nodup) (m:=List.range l.length) (fun v hv=>gm.2 (h.lo v hv).2)
 rwa [List.length_range] at this
theorem CG {a:gS} (h:jE a l=0):jE a (nO T n l)=0:=by
 obtain⟨t1,t2,_⟩:=nY h
 have hk:=CF (T:=T) (n:=n) (l:=l)
 refine Dz (by rw [z6];omega) (fun t ht=>t2 t (z7 ht)) ?_
 unfold nO
 rw [List.pairwise_map]
 have hI:=mD T n l.length
 refine List.Pairwise.imp_of_mem (fun{x y} hx hy hlt=>?_) hI.up
 have h1:=hI.lo x hx
 have h2:=hI.lo y hy
 rw [List.getD_eq_getElem?_getD,List.getD_eq_getElem?_getD,aJ h1.2,aJ h2.2]
 exact lR.1 (Ij h) x y h1.2 h2.2 hlt
theorem DA {a:gS} {c:List Int} {j:Nat} (hj:j< (i5 T n l.length).length): (nM a c (nO T n l))[j]? = (nM a c l)[(i5 T n l.length)[j]]? :=by
 unfold nM
 rw [fG,fG,Hi hj]
end
theorem CH {f:bQ->List Bool} {rg:List Bool} {F:List bQ} {i m:Nat} {x:bQ} (hx:F[i]? =some x) (h1: (f x).length=m) (h2:rg.length=m):f x=rg↔∀k,k<m->tC f rg F i k=false:=by
 constructor
 ·intro e k hk
  rw [yP hx (aJ (by omega)) (v:=rg[k]'(by omega)) (aJ _)]
  simp [e]
 ·intro h
  refine List.ext_getElem? fun k=>?_
  by_cases hk:k<m
  ·have e1: (f x)[k]? =some ((f x)[k]'(by omega)):=aJ _
   have e2:rg[k]? =some (rg[k]'(by omega)):=aJ _
   have:=h k hk
   rw [yP hx e1 e2] at this
   rw [e1,e2]
   congr 1
   simpa using this
  ·rw [List.getElem?_eq_none (by omega),List.getElem?_eq_none (by omega)]
section
variable {N:Nat}
theorem zk {l:List Test} {x:Test} (hl:l.length<=1048576):gY N l x=some (decide (x∈l)):=by
 have e:gY N l x=v8 l x:=rfl
 rw [e,AK (by omega)]
theorem DB {l m:List bQ} (hl:l.length<=4611686018427387904):ko N l m=some (decide (l=m)):=sJ hl
theorem DC {l m:List Test} (hl:l.length<=4611686018427387904):kp N l m=some (decide (l=m)):=sJ hl
theorem qI {a:gS} {l:List Test} {near:Int} (ha:bk a<=1048576) (hl:bk l<=1048576) (_hn:bk near<=1048576) (hN:4398046511104<=N):cW N a l near=some true:=by
 have hs:=Cq ha
 have hll:l.length<=1048576:=by have:=tU l;omega
 have aw:=Ih hN
 have bad: ∀{e:Int},e≠0->eX N a l near=some ([],[],e)->cW N a l near=some true:=fun{e} he h=>by
  unfold cW
  rw [Hh he h,aB,aw,show ((([],e):List Test×Int).2 != 0)=true by simpa using he];rfl
 rcases opened (N:=N) hs hN with ⟨e,he,h⟩ | ⟨b,h⟩
 ·exact bad he (wU he (Hc he h l))
 rename_i jQ cQ r gs ofP ofB fH fC
 rcases Ek b h hll hN with ⟨e1,e2⟩ | ⟨e1,e2⟩
 ·exact bad e1 (wU e1 e2)
 obtain⟨t1,t2,_⟩:=nY e1
 have hH:=yQ b e2 hll t2 near hN
 by_cases hn:near<0\/100000<near
 ·rw [aD hn] at hH;exact bad (by decide) hH
 rw [aC hn] at hH
 by_cases hsl:20000< (Fv (bY 0 cQ) gs ofP ofB near).length
 ·rw [aD hsl] at hH;exact bad (by decide) hH
 rw [aC hsl] at hH
 have hFl: (sm N a cQ gs ofP ofB fH fC near).length<=20000:=by
  unfold sm
  have:=jz (fun x=> !Hb N a cQ fH fC x) (Fv (bY 0 cQ) gs ofP ofB near)
  omega
 generalize hT:tC (fun x=>jq N a cQ fH fC l [x]) (jq N a cQ fH fC l []) (sm N a cQ gs ofP ofB fH fC near)=T
 generalize hM:nO T (sm N a cQ gs ofP ofB fH fC near).length l=M
 have eM:=CG (T:=T) (n:=(sm N a cQ gs ofP ofB fH fC near).length) e1
 have hMk:=z6 (T:=T) (n:=(sm N a cQ gs ofP ofB fH fC near).length) (l:=l)
 have hkl:=CF (T:=T) (n:=(sm N a cQ gs ofP ofB fH fC near).length) (l:=l)
 have hMm: ∀t∈M,t∈l:=fun t ht=>z7 (by rw [hM];exact ht)
 have hLM:=fun(c:List Int) (j:Nat) hj=>DA (T:=T) (n:=(sm N a cQ gs ofP ofB fH fC near).length) (l:=l) (a:=a) (c:=c) (j:=j) hj
 rw [hM] at eM hMk hLM
 obtain⟨u1,u2,_⟩:=nY eM
 have hMl:M.length<=1048576:=by omega
 have hL:=Em hH (by omega) hll (fun x=>kj) kj hN
 rw [hT,hM] at hL
 rcases Ek b h hMl hN with ⟨f1,f2⟩ | ⟨_,f2⟩
 ·exact absurd eM f1
 have hG:=yQ b f2 hMl u2 near hN
 rw [aC hn,aC hsl] at hG
 have hX:=z5 hH (by omega) (fun x=>by rw [kj];omega)
 have hY:=z5 hG (by omega) (fun x=>by rw [kj];omega)
 have hA:=Em hG (by omega) hMl (fun x=>kj) kj hN
 generalize hF:sm N a cQ gs ofP ofB fH fC near=F at *
 generalize hT':tC (fun x=>jq N a cQ fH fC M [x]) (jq N a cQ fH fC M []) F=T' at hA
 have hTT: ∀i k,(hk:k< (i5 T F.length l.length).length)->T' i k=T i (i5 T F.length l.length)[k]:=fun i k hk=>by
  have hlo:=(mD T F.length l.length).lo _ (cJ hk)
  have q1:T i (i5 T F.length l.length)[k]=tC (fun x=>jq N a cQ fH fC l [x]) (jq N a cQ fH fC l []) F i (i5 T F.length l.length)[k]:=by rw [hT]
  rw [<-congrFun (congrFun hT' i) k,q1]
  unfold tC
  cases F[i]? with
  | none=>rfl
  | some x=>
   rw [Option.elim_some,Option.elim_some]
   simp only [List.getD_eq_getElem?_getD]
   unfold jq
   rw [hLM _ k hk,hLM _ k hk]
 have hkk:i5 T' F.length M.length=List.range M.length:=by
  rw [hMk];exact Fq hTT
 have hAM:nO T' F.length M=M:=by
  unfold nO
  rw [hkk]
  refine List.ext_getElem? fun k=>?_
  by_cases hk:k<M.length
  ·rw [fG,List.getElem?_range hk,Option.map_some,List.getD_eq_getElem?_getD,aJ hk];rfl
  ·rw [List.getElem?_eq_none (by simp;omega),List.getElem?_eq_none (by omega)]
 rw [hAM] at hA
 have hXY:F.filter (fun x=>decide (jq N a cQ fH fC l [x]=jq N a cQ fH fC l []))=F.filter (fun x=>decide (jq N a cQ fH fC M [x]=jq N a cQ fH fC M [])):=by
  refine List.filter_congr fun x hx=>?_
  obtain⟨i,hi⟩:=gk hx
  have hin:=(bD.1 hi).1
  have a1:=CH (f:=fun x=>jq N a cQ fH fC l [x]) (rg:=jq N a cQ fH fC l []) hi kj kj
  have a2:=CH (f:=fun x=>jq N a cQ fH fC M [x]) (rg:=jq N a cQ fH fC M []) hi kj kj
  rw [hT] at a1
  rw [hT'] at a2
  have a3:=Dy (T:=T) (m:=l.length) hin
  have: (jq N a cQ fH fC l [x]=jq N a cQ fH fC l [])↔(jq N a cQ fH fC M [x]=jq N a cQ fH fC M []):=by
   refine a1.trans (Iff.trans ?_ a2.symm)
   constructor
   ·intro h k hk
    rw [hMk] at hk
    rw [hTT i k hk]
    exact h _ ((mD T F.length l.length).lo _ (cJ hk)).2
   ·intro h k hk
    cases ht:T i k with
    | false=>rfl
    | true=>
     obtain⟨j,hj,hjt⟩:=a3.1 ⟨k,hk,ht⟩
     obtain⟨q,hq,rfl⟩:=List.mem_iff_getElem.1 hj
     have:=h q (by rw [hMk];exact hq)
     rw [hTT i q hq,hjt] at this;cases this
  by_cases e:jq N a cQ fH fC l [x]=jq N a cQ fH fC l []
  ·rw [cD e,cD (this.1 e)]
  ·rw [bF e,bF (fun h=>e (this.2 h))]
 rw [<-hXY] at hY
 unfold cW
 rw [hL,aB]
 simp only [bne_self_eq_false,aS]
 rw [hX,aB,hY,aB,hA,aB]
 have hfl: (F.filter (fun x=>decide (jq N a cQ fH fC l [x]=jq N a cQ fH fC l []))).length<=20000:=oV (jz _ _) hFl
 refine Ok.get ?_
 refine Ok.bind (Ok.AO (n:=M.length) (fun st=>st) (fun _ _=>True) (Go:=fun _=>True) (Rt:=fun _=>False) ?_ ?_ (mi _) rfl trivial (by omega)) ?_
 ·rintro j i hj e _
  subst e
  have hy:M[j]? =some M[j]:=aJ hj
  rw [Lq hj,aR]
  refine Ok.ix hy (Ok.eq (zk hll) ?_)
  rw [cD (hMm _ (cJ hj)),lS,aS]
  exact Ok.nx ⟨fK (by omega),trivial⟩
 ·rintro i e _
  subst e
  rw [Lr,aS]
  exact Ok.br trivial
 intro o ho
 refine Ok.cs ho (fun _ _=>?_) (fun r hr=>hr.elim)
 refine Ok.eq (x:=true) ?_ (Ok.ret rfl)
 dsimp only
 rw [DB (by omega),aB,cD rfl,DC (by omega),aB,cD rfl,aw]
 rfl
end
end Go.Gk
