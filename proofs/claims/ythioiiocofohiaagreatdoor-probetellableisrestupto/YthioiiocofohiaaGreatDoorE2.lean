/-
  Helping texts: plain functions and plain laws. No statement of the seed is proved here.
-/
import Derived.Test.YthioiiocofohiaaGreatDoorE1
import Derived.Test.YthioiiocofohiaaGreatDoorA2
set_option linter.unusedVariables false
set_option linter.unusedSimpArgs false
set_option linter.unusedSectionVars false
namespace Go.Gk
open Go Classical
section
variable {N:Nat}
theorem v7 {p:aH}: ∀{cJ:List (List (List aA))} {k:Nat},p∈bJ k cJ->∃(i:Nat) (ps:List (List aA)) (q:List aA),cJ[i]? =some ps/\q∈ps/\p= ⟨((k+i:Nat):Int),q,aN q⟩
 | [],k,h=>by cases h
 | ps::cJ,k,h=>by
  rcases cS.1 h with h | h
  ·obtain⟨q,hq,rfl⟩:=cT.1 h
   exact⟨0,ps,q,rfl,hq,rfl⟩
  ·obtain⟨i,ps',q,h1,h2,h3⟩:=v7 h
   refine⟨i+1,ps',q,by simpa using h1,h2,?_⟩
   rw [h3,show k+1+i=k+ (i+1) by omega]
structure nM (a:gU):Prop where
 yY:0<a.aL.length/\a.aL.length<=16
 ME: ∀r∈a.aL,ja r=0
 out:ja a.dF=0
 many:a.dF.length+ (a.aL.map List.length).sum<=2000
 vl:lC a=0
 rW:kQ a=0
theorem nM.gb {a:gU} (h:nM a):mO a.aV:=⟨(po h.vl).1,fun b hb=>⟨((po h.vl).2 b hb).1,((po h.vl).2 b hb).2.1⟩⟩
theorem nM.cs {a:gU} (h:nM a): ∀r∈a.aL,r.length<=2000/\∀x∈r,Cs x:=fun r hr=>C2 (o0.1 (h.ME r hr)).1
structure vm (a:gU) (jB:List (List aA)) (cJ:List (List (List aA))) (p:aH) (i:Nat) (r:List aI) (s:List aA) (ps:List (List aA)) (u:Nat->Nat) (j k:Nat):Prop where
 MR:a.aL[i]? =some r
 jB:jB[i]? =some s
 cJ:cJ[i]? =some ps
 dr:sG r (m7 a.aV ((i:Nat):Int)) s
 pt:qy s u ps
 at_:ps[j]? =some p.Set
 head: (bX (aN s).length u)[j]? =some k
 set:oY (l6 (aN s) (aN s).length u k) p.Set
 lim:tW (pN r++pN (m7 a.aV ((i:Nat):Int))) (ly r++ly (m7 a.aV ((i:Nat):Int))) (p.Set.map bR)
 K0:p.cX= ((i:Nat):Int)
 K1:p.iZ=aN p.Set
theorem Gz {a:gU} {jB:List (List aA)} {cJ:List (List (List aA))} (hg:nM a) (hD:tJ a.aL a.aV a.aL.length jB cJ) {p:aH} (hp:p∈bJ 0 cJ): ∃i r s ps u j k,vm a jB cJ p i r s ps u j k:=by
 obtain⟨i,ps,q,h1,h2,rfl⟩:=v7 hp
 have hil:i<a.aL.length:=by have:=(bC.1 h1).1;rw [hD.AK] at this;exact this
 have hc:a.aL[i]? =some a.aL[i]:=aJ hil
 have hd:jB[i]? =some (jB[i]'(by rw [hD.len];exact hil)):=aJ _
 have hdr:=hD.dr i _ _ hil hc hd
 obtain⟨u,hu⟩:=hD.pt i _ ps hil hd h1
 obtain⟨sx,sy⟩:=hdr.small (hg.cs _ (cP hil)).2 (fun x hx=>(ve hg.gb _ x hx).1)
 obtain⟨j,k,g1,g2,g3,g4⟩:=yl hu hdr.can hdr.lim sx sy h2
 exact⟨i,_,_,ps,u,j,k,hc,hd,h1,hdr,hu,g1,g2,g3,g4,by rw [gj],rfl⟩
theorem vm.Gp {a:gU} {jB:List (List aA)} {cJ:List (List (List aA))} (hg:nM a) {p:aH} {i:Nat} {r:List aI} {s:List aA} {ps:List (List aA)} {u:Nat->Nat} {j k:Nat} (h:vm a jB cJ p i r s ps u j k):
  p.Set.length<=5000/\(∀b∈p.Set,b.Xs.length<=5000)/\p.iZ.length<=5000*5000:=by
 have h1:=(hg.cs r (gH h.MR)).1
 have h2:=zF hg.gb ((i:Nat):Int)
 rw [h.K1]
 exact vZ (A:=5000) h.set.can h.lim (by rw [dR,lz,lz];omega) (by rw [dR,jO,jO];omega)
def DV (a0 a1 b0 b1:Int):Bool:=decide (b0<a1)&&decide (a0<b1)
def GA (a b:aI):Bool:=DV a.X0 a.X1 b.X0 b.X1&&DV a.Y0 a.Y1 b.Y0 b.Y1
theorem yp {a0 a1 b0 b1:Int} (h1: -1000000<=a0/\a0<=1000000) (h2: -1000000<=a1/\a1<=1000000) (h3: -1000000<=b0/\b0<=1000000) (h4: -1000000<=b1/\b1<=1000000): ∃n,iF N a0 a1 b0 b1=some n/\0<=n/\(n=0↔DV a0 a1 b0 b1=true):=by
 unfold iF DV
 have e1:IntKind.wrap .i64 (b0 - a1)=b0 - a1:=fB (by omega) (by omega)
 have e2:IntKind.wrap .i64 (a0 - b1)=a0 - b1:=fB (by omega) (by omega)
 have e3:IntKind.wrap .i64 (b0 - a1+1)=b0 - a1+1:=fB (by omega) (by omega)
 have e4:IntKind.wrap .i64 (a0 - b1+1)=a0 - b1+1:=fB (by omega) (by omega)
 rw [e1,e2,e3,e4]
 refine⟨_,rfl,?_,?_⟩
 ·repeat' split
  all_goals omega
 ·rw [bT,bP,bP]
  repeat' split
  all_goals omega
theorem I5 {a b:aI} (h1:cZ a=true) (h2:cZ b=true): ∃n,jJ N a b=some n/\(n=0↔GA a b=true):=by
 have b1:=gZ h1
 have b2:=gZ h2
 obtain⟨n,n1,n2,n3⟩:=yp (N:=N) (a0:=a.X0) (a1:=a.X1) (b0:=b.X0) (b1:=b.X1) (by omega) (by omega) (by omega) (by omega)
 obtain⟨m,m1,m2,m3⟩:=yp (N:=N) (a0:=a.Y0) (a1:=a.Y1) (b0:=b.Y0) (b1:=b.Y1) (by omega) (by omega) (by omega) (by omega)
 unfold jJ GA
 rw [n1,aB,m1,aB]
 refine⟨_,rfl,?_⟩
 rw [bT,<-n3,<-m3]
 split <;> omega
def v8 (x y:bW):Bool:=(decide (x.bU<=y.To)&&decide (y.bU<=x.To))&&GA (xd x) (xd y)
def wy (a:gU):Prop:=∃(i k:Nat) (x y:bW),k<i/\a.aV[i]? =some x/\a.aV[k]? =some y/\v8 x y=true
noncomputable def y5 (r:List aI):Option Int:=if ja r≠0 then some (ja r) else none
noncomputable def AN (a:gU):Int:=if 2000<a.dF.length+ (a.aL.map List.length).sum then 2 else if lC a≠0 then lC a else if kQ a≠0 then kQ a else if wy a then 12 else 0
noncomputable def GB (a:gU):Int:=match a.aL.findSome? y5 with | some e=>e | none=>if ja a.dF≠0 then ja a.dF else AN a
noncomputable def ju (a:gU):Int:=if a.aL.length=0 then 9 else if 16<a.aL.length then 2 else GB a
def Lc (jB:List (List aA)) (cJ:List (List (List aA))):Prop:=(∀s∈jB,(aN s).length<=2000)/\(bJ 0 cJ).length<=2000
abbrev yq:=(List (List aI))×(List aI)×(List bW)×(List cU)×(List (List aA))×(List aH)×(List (List Int))×(List cI)×(List Int)×(List Int)×(List Int)×(List dQ)
def Ii (a:gU) (x:Option yq×Int):Prop:=
 (ju a≠0/\x= (none,ju a))\/(ju a=0/\nM a/\¬wy a/\∃jB cJ,tJ a.aL a.aV a.aL.length jB cJ/\
  ((¬Lc jB cJ/\x= (none,2))\/(Lc jB cJ/\∃r gs ofP ofB fG fE,yn a.aV a.bH (bJ 0 cJ) r gs ofP ofB fG fE/\
   x= (some (a.aL,a.dF,a.aV,a.bH,jB,bJ 0 cJ,eP a.aV (bJ 0 cJ),gs,ofP,ofB,fG,fE),0))))
structure vn (a:gU):Prop where
 cs:a.aL.length<=1048576
 each: ∀r∈a.aL,r.length<=1048576
 out:a.dF.length<=1048576
 bs:a.aV.length<=1048576
 ls:a.bH.length<=1048576
 nm:yj a
theorem B9 {a:gU} (h:bk a<=1048576):vn a:=by
 rw [F6] at h
 have h1:=tv a.aL
 have h2:=tv a.dF
 have h3:=tv a.aV
 have h4:=tv a.bH
 refine⟨by omega,fun r hr=>?_,by omega,by omega,by omega,fun x hx=>?_⟩
 ·have:=CQ hr
  have:=tv r;omega
 ·have:=CQ hx
  rw [DH,F0,F0] at this;omega
theorem zJ {a:gU} (hs:vn a) (hN:4398046511104<=N):Ok (eF N a) (Ii a):=by
 unfold eF
 have pe: ∀e:Int,e≠0->ju a=e->Ok (some ((none:Option yq),e)) (Ii a):=fun e he h=>Ok.ret (.inl ⟨by rw [h];exact he,by rw [h]⟩)
 have c1:=hs.cs
 refine Ok.bif (fun h=>?_) (fun h=>?_)
 ·have:a.aL.length=0:=by have:=beq_iff_eq.1 h;omega
  exact pe 9 (by omega) (by unfold ju;rw [aC this])
 have h0: ¬a.aL.length=0:=by rw [beq_eq_false_iff_ne] at h;omega
 refine Ok.bif (fun h=>?_) (fun h=>?_)
 ·have h1:16<a.aL.length:=by have:=of_decide_eq_true h;omega
  exact pe 2 (by omega) (by unfold ju;rw [aD h0,aC h1])
 have h1: ¬16<a.aL.length:=by have:=of_decide_eq_false h;omega
 have pe1:ju a=GB a:=by unfold ju;rw [aD h0,aD h1]
 have hso:=hs.out
 have sumle: ∀k,k<=a.aL.length->((a.aL.take k).map List.length).sum<=k*1048576:=by
  intro k
  induction k with
  | zero=>intro _;simp
  | succ k ih=>
   intro hk
   have:=ih (by omega)
   have h2:=hs.each _ (cP (show k<a.aL.length by omega))
   rw [eM (by omega),eB,List.sum_append]
   simp only [dV,List.map_nil,List.sum_cons,List.sum_nil]
   rw [Nat.add_mul];omega
 refine Ok.bind (Ok.pX (Go:=fun s:Int=>s= ((a.dF.length+ (a.aL.map List.length).sum:Nat):Int)/\∀r∈a.aL,ja r=0) (Rt:=fun x:Option yq×Int=>∃e,e≠0/\x= (none,e)/\a.aL.findSome? y5=some e)
  (fun(k:Nat) (s:Int)=>s= ((a.dF.length+ ((a.aL.take k).map List.length).sum:Nat):Int)/\∀r∈a.aL.take k,ja r=0) (by omega) ⟨by simp,fun r hr=>by simp at hr⟩ (fun k s hk hI=>?_) (fun s hI=>by rw [eD] at hI;exact hI)) ?_
 ·obtain⟨e,hI⟩:=hI
  subst e
  have hkx:a.aL[k]? =some a.aL[k]:=aJ hk
  have hts:a.aL.take (k+1)=a.aL.take k++[a.aL[k]]:=eM hk
  have he:=hs.each _ (cP hk)
  refine Ok.ix hkx (Ok.eq (rS (by omega) hN) ?_)
  refine Ok.bif (fun h=>Ok.rt ?_) (fun h=>Ok.nx ?_)
  ·have h:ja a.aL[k]≠0:=by simpa using h
   refine⟨_,h,rfl,?_⟩
   rw [List.findSome?_eq_some_iff]
   refine⟨a.aL.take k,a.aL[k],a.aL.drop (k+1),?_,by unfold y5;rw [aC h],fun r hr=>by unfold y5;rw [aD (by simpa using hI r hr)]⟩
   rw [<-r6 hk,List.take_append_drop]
  ·have h:ja a.aL[k]=0:=by simpa using h
   have:=sumle k (by omega)
   have hk16:k*1048576<=16*1048576:=Nat.mul_le_mul_right _ (by omega)
   refine⟨?_,fun r hr=>?_⟩
   ·rw [wrap_add (by omega),hts,eB,List.sum_append]
    simp only [dV,List.map_nil,List.sum_cons,List.sum_nil]
    congr 1
    omega
   ·rw [hts] at hr
    rcases cS.1 hr with hr | hr
    ·exact hI r hr
    ·simp at hr;subst hr;exact h
 intro o ho
 refine Ok.cs ho ?_ ?_
 rotate_left
 ·rintro x ⟨e,he,rfl,hf⟩
  exact pe e he (by rw [pe1];unfold GB;rw [hf])
 rintro s ⟨rfl,hreg⟩
 have K9:a.aL.findSome? y5=none:=List.findSome?_eq_none_iff.2 fun r hr=>by unfold y5;rw [aD (by simpa using hreg r hr)]
 have pe2:ju a=if ja a.dF≠0 then ja a.dF else AN a:=by rw [pe1];unfold GB;rw [K9]
 refine Ok.eq (rS (by omega) hN) ?_
 refine Ok.bif (fun h=>?_) (fun h=>?_)
 ·have h:ja a.dF≠0:=by simpa using h
  exact pe _ h (by rw [pe2,aC h])
 have hout:ja a.dF=0:=by simpa using h
 have pe3:ju a=AN a:=by rw [pe2,aD (by simpa using hout)]
 refine Ok.bif (fun h=>?_) (fun h=>?_)
 ·have h:2000<a.dF.length+ (a.aL.map List.length).sum:=by have:=of_decide_eq_true h;omega
  exact pe 2 (by omega) (by rw [pe3];unfold AN;rw [aC h])
 have hmany: ¬2000<a.dF.length+ (a.aL.map List.length).sum:=by have:=of_decide_eq_false h;omega
 have hbs:=hs.bs
 have hls:=hs.ls
 refine Ok.eq (yV (by omega) (by omega) (by omega)) ?_
 refine Ok.bif (fun h=>?_) (fun h=>?_)
 ·have h:lC a≠0:=by simpa using h
  exact pe _ h (by rw [pe3];unfold AN;rw [aD hmany,aC h])
 have hbo:lC a=0:=by simpa using h
 refine Ok.eq (yW (by omega) (by omega) hs.nm (by omega)) ?_
 refine Ok.bif (fun h=>?_) (fun h=>?_)
 ·have h:kQ a≠0:=by simpa using h
  exact pe _ h (by rw [pe3];unfold AN;rw [aD hmany,aD (by simpa using hbo),aC h])
 have hla:kQ a=0:=by simpa using h
 have hg:nM a:=⟨by omega,hreg,hout,by omega,hbo,hla⟩
 have pe4:ju a=if wy a then 12 else 0:=by rw [pe3];unfold AN;rw [aD hmany,aD (by simpa using hbo),aD (by simpa using hla)]
 refine Ok.bind (Ok.pX (Go:=fun _:Unit=>¬wy a) (Rt:=fun x:Option yq×Int=>x= (none,12)/\wy a)
  (fun(k:Nat) (_:Unit)=>∀(i j:Nat) (x y:bW),i<k->j<i->a.aV[i]? =some x->a.aV[j]? =some y->¬v8 x y=true) (by omega) (fun i j x y h=>by omega) (fun k s hk hI=>?_) (fun s hI=>?_)) ?_
 ·have hkx:a.aV[k]? =some a.aV[k]:=aJ hk
  refine Ok.ix hkx (Ok.eq (uG _ k (by omega)) ?_)
  have hgk:=hg.gb.ok _ (cP hk)
  refine Ok.bind (Ok.pX (Go:=fun _:Unit=>∀(j:Nat) (y:bW),j<k->a.aV[j]? =some y->¬v8 a.aV[k] y=true) (Rt:=fun x:Option yq×Int=>x= (none,12)/\wy a)
   (fun(t:Nat) (_:Unit)=>∀(j:Nat) (y:bW),j<t->a.aV[j]? =some y->¬v8 a.aV[k] y=true) (by rw [dE];omega) (fun j y h=>by omega) (fun t s ht hI2=>?_) (fun s hI2 j y hj hy=>hI2 j y (by rw [dE];omega) hy)) ?_
  ·have htk:t<k:=by rw [dE] at ht;omega
   have htx: (a.aV.take k)[t]? =some a.aV[t]:=by rw [List.getElem?_take_of_lt htk];exact aJ (by omega)
   have hgt:=hg.gb.ok _ (cP (show t<a.aV.length by omega))
   refine Ok.ix htx ?_
   refine Ok.eq (x:=v8 a.aV[k] a.aV[t]) ?_ ?_
   ·unfold v8
    cases hc: (decide (a.aV[k].bU<=a.aV[t].To)&&decide (a.aV[t].bU<=a.aV[k].To)) with
    | false=>rfl
    | true=>
     obtain⟨n,n1,n2⟩:=I5 (N:=N) hgk.2 hgt.2
     rw [aR,l4 hgk.1,aB,l4 hgt.1,aB,n1,aB,Bool.true_and]
     congr 1
     rw [gC,beq_iff_eq];exact n2
   ·refine Ok.bif (fun h=>Ok.rt ⟨rfl,k,t,_,_,htk,hkx,aJ (by omega),h⟩) (fun h=>Ok.nx fun j y hj hy=>?_)
    by_cases e:j<t
    ·exact hI2 j y e hy
    ·have:j=t:=by omega
     subst this
     rw [aJ (by omega)] at hy;injection hy with hy
     rw [<-hy,h];simp
  ·intro o ho
   refine Ok.cs ho (fun s hI2=>Ok.nx fun i j x y hi hj hx hy=>?_) (fun x hx=>Ok.rt hx)
   by_cases e:i<k
   ·exact hI i j x y e hj hx hy
   ·have:i=k:=by omega
    subst this
    rw [hkx] at hx;injection hx with hx
    rw [<-hx];exact hI2 j y hj hy
 ·rintro⟨i,j,x,y,hj,hx,hy,hc⟩
  exact hI i j x y (bC.1 hx).1 hj hx hy hc
 intro o ho
 refine Ok.cs ho ?_ ?_
 rotate_left
 ·rintro x ⟨rfl,hc⟩
  exact pe 12 (by omega) (by rw [pe4,aC hc])
 intro _ hncl
 have pe5:ju a=0:=by rw [pe4,aD hncl]
 refine Ok.bind (C4 (N:=N) (by omega) hg.cs hg.gb hN) ?_
 rintro⟨okk,jB,pcs⟩ ⟨cJ,D,e1,e2⟩
 dsimp only at D e1 e2 ⊢
 subst e1
 refine Ok.bif (fun h=>Ok.ret (.inr ⟨pe5,hg,hncl,jB,cJ,D, .inl ⟨fun hf=>?_,rfl⟩⟩)) (fun h=>?_)
 ·have:=e2.2 hf
  rw [this] at h;cases h
 ·have hf:Lc jB cJ:=e2.1 (by cases okk <;> simp_all)
  have hpr: ∀p∈bJ 0 cJ,p.iZ.length<=1073741824:=fun p hp=>by
   obtain⟨i,r,s,ps,u,j,k,hP⟩:=Gz hg D hp
   have:=(hP.Gp hg).2.2;omega
  have hf2:=hf.2
  refine Ok.eq (Gr hg.gb (by omega) hpr) ?_
  refine Ok.bind (AM (N:=N) hg.gb (by omega) hpr (by omega) hN) ?_
  rintro⟨gs,ofP,ofB,fG,fE⟩ ⟨r,hC⟩
  exact Ok.ret (.inr ⟨pe5,hg,hncl,jB,cJ,D, .inr ⟨hf,r,gs,ofP,ofB,fG,fE,hC,rfl⟩⟩)
end
end Go.Gk
namespace Go.Gk
open Go Classical
section
variable {N:Nat}
theorem DW {w:Nat} {g:Nat->Nat} {a:Nat}: ∀{ks:List Nat},ks.Nodup->a∈ks->(ks.map (fun k=>(if a=k then w else 0)+g k)).sum=w+ (ks.map g).sum
 | [],_,h=>by cases h
 | k::ks,hn,h=>by
  have hn':=List.nodup_cons.1 hn
  simp only [dV,List.sum_cons]
  by_cases e:a=k
  ·subst e
   rw [aC rfl]
   have:ks.map (fun k=>(if a=k then w else 0)+g k)=ks.map g:=List.map_congr_left fun x hx=>by
    rw [aD (fun e=>hn'.1 (by rw [e];exact hx)),gj]
   rw [this];omega
  ·rw [aD e,DW hn'.2 (by rcases fQ.1 h with h | h;exact absurd h e;exact h)];omega
theorem Ca {α:Type} {ks:List Nat} (hn:ks.Nodup) (f w:α->Nat): ∀{l:List α},(∀x∈l,f x∈ks)->(ks.map (fun k=>((l.filter (fun x=>decide (f x=k))).map w).sum)).sum= (l.map w).sum
 | [],_=>by
  have: ∀ks:List Nat,(ks.map (fun _=>0)).sum=0:=fun ks=>by
   induction ks with
   | nil=>rfl
   | cons k ks ih=>simp only [dV,List.sum_cons,ih]
  simpa using this ks
 | x::l,h=>by
  have ih:=Ca hn f w (l:=l) fun y hy=>h y (jh _ hy)
  have: (ks.map (fun k=>(((x::l).filter (fun x=>decide (f x=k))).map w).sum))=ks.map (fun k=>(if f x=k then w x else 0)+ ((l.filter (fun x=>decide (f x=k))).map w).sum):=List.map_congr_left fun k _=>by
   rw [List.filter_cons]
   by_cases e:f x=k
   ·rw [aC (by simpa using e),aC e,dV,List.sum_cons]
   ·rw [aD (by simpa using e),aD e,gj]
  rw [this,DW hn (h x (by simp)),ih,dV,List.sum_cons]
theorem vm.ne {a:gU} {jB:List (List aA)} {cJ:List (List (List aA))} {p:aH} {i:Nat} {r:List aI} {s:List aA} {ps:List (List aA)} {u:Nat->Nat} {j k:Nat} (h:vm a jB cJ p i r s ps u j k):p.Set≠[]:=by
 intro e
 have hh:=ig.1 (gH h.head)
 have hx: (aN s)[k]? =some (aN s)[k]:=aJ hh.1
 have hm: (aN s)[k]∈l6 (aN s) (aN s).length u k:=m6.2 ⟨k,hh.1,hh.2,hx⟩
 obtain⟨b,hb,q,hq,hr⟩:=nR (gH hx)
 have hbm:bR b∈s.map bR:=cT.2 ⟨b,hb,rfl⟩
 have hq1:=CW (h.dr.can.each _ hbm).2.2.1 q hq
 have hb1:=(h.dr.can.each _ hbm).1
 have hc:=h.set.cover q.1 b.Y0
 rw [e] at hc
 have:wv (l6 (aN s) (aN s).length u k) q.1 b.Y0=true:=j5.2 ⟨_,hm,by rw [hr];exact⟨⟨Int.le_refl _,hq1⟩,Int.le_refl _,hb1⟩⟩
 rw [this] at hc
 cases hc
structure jc (a:gU) (jB:List (List aA)) (cJ:List (List (List aA))) (r:Nat->Nat) (gs:List cI) (ofP ofB fG:List Int) (fE:List dQ):Prop where
 Cb:nM a
 MT: ¬wy a
 dr:tJ a.aL a.aV a.aL.length jB cJ
 yY:Lc jB cJ
 zK:yn a.aV a.bH (bJ 0 cJ) r gs ofP ofB fG fE
inductive I6 (N:Nat) (a:gU):Prop
 | err (e:Int) (he:e≠0) (h:eF N a=some (none,e))
 | ok {jB:List (List aA)} {cJ:List (List (List aA))} {r:Nat->Nat} {gs:List cI} {ofP ofB fG:List Int} {fE:List dQ} (b:jc a jB cJ r gs ofP ofB fG fE)
  (h:eF N a=some (some (a.aL,a.dF,a.aV,a.bH,jB,bJ 0 cJ,eP a.aV (bJ 0 cJ),gs,ofP,ofB,fG,fE),0))
theorem opened {a:gU} (hs:vn a) (hN:4398046511104<=N):I6 N a:=by
 obtain⟨x,hx,hI⟩:=zJ (N:=N) hs hN
 rcases hI with ⟨he,rfl⟩ | ⟨_,hg,hcl,jB,cJ,D,⟨_,rfl⟩ | ⟨hf,r,gs,ofP,ofB,fG,fE,hC,rfl⟩⟩
 ·exact .err _ he hx
 ·exact .err 2 (by omega) hx
 ·exact .ok ⟨hg,hcl,D,hf,hC⟩ hx
end
end Go.Gk
namespace Go.Gk
open Go Classical
section
variable {S R:Type}
theorem Ok.BT {body:S->Option (Fl S R)} {N n:Nat} {s:S} (ι:S->Int) (Inv:Nat->S->Prop) {Go:S->Prop} {Rt:R->Prop}
  (h1: ∀k s,k<n->ι s= ((k:Nat):Int)->Inv k s->Ok (body s) (Ie (fun s'=>ι s'= ((k+1:Nat):Int)/\Inv (k+1) s') Go Rt))
  (h2: ∀s,ι s= ((n:Nat):Int)->Inv n s->Ok (body s) (Ie (fun _=>False) Go Rt))
  {k0:Nat} (hk:k0<=n) (hi:ι s= ((k0:Nat):Int)) (h0:Inv k0 s) (hn:n<N):Ok (Gk.nD body N s) (KR Go Rt):=by
 refine Ok.nD (fun s=>∃k:Nat,k<=n/\ι s= ((k:Nat):Int)/\Inv k s) (fun s=>n - (ι s).toNat) ?_ ⟨k0,hk,hi,h0⟩ (by omega)
 rintro s ⟨k,hk,e,hI⟩
 by_cases hlt:k<n
 ·refine(h1 k s hlt e hI).mono ?_
  rintro(s' | s' | r) hp
  ·have hp1:ι s'= ((k+1:Nat):Int):=hp.1
   exact⟨⟨k+1,hlt,hp.1,hp.2⟩,by rw [e,hp1];simp only [bY];omega⟩
  ·exact hp
  ·exact hp
 ·have:k=n:=by omega
  subst this
  refine(h2 s e hI).mono ?_
  rintro(s' | s' | r) hp
  ·exact hp.elim
  ·exact hp
  ·exact hp
theorem K2 {k n:Nat} (h:k<n):decide (((k:Nat):Int)< ((n:Nat):Int))=true:=cE (by omega)
theorem K3 (n:Nat):decide (((n:Nat):Int)< ((n:Nat):Int))=false:=bG (by omega)
end
section
variable {N:Nat}
theorem AO (a b:Int): (if a<b then b else a)=max a b:=by split <;> omega
end
end Go.Gk
namespace Go.Gk
open Go Classical
section
variable {α:Type} [DecidableEq α] {N:Nat}
end
section
variable {N:Nat}
end
end Go.Gk
namespace Go.Gk
open Go Classical
theorem yr (n:Nat) (g:Nat->Nat): ((List.range (n+1)).map g).sum= ((List.range n).map g).sum+g n:=by
 rw [List.range_succ,eB,List.sum_append];simp
def Ld (r:aI) (x y:Int):Bool:=(decide (r.X0<=x)&&decide (x<r.X1))&&(decide (r.Y0<=y)&&decide (y<r.Y1))
def K4 (a b:aI):Prop:=∀x y,¬(Ld a x y=true/\Ld b x y=true)
theorem HE {r:aI} {x y:Int}:Ld r x y=true↔(r.X0<=x/\x<r.X1)/\r.Y0<=y/\y<r.Y1:=by unfold Ld;simp
theorem vo: ∀{xs:List Int},lP xs->(zB xs).Pairwise (fun p q=>p.2<q.1)
 | [],_=>kR
 | [a],_=>kR
 | a::b::l,h=>by
  unfold zB
  rw [List.pairwise_cons]
  exact⟨fun q hq=>h.tail.head q.1 (AE q hq).1,vo h.tail.tail⟩
def C7 (a b:aI):Prop:=a.Y1<=b.Y0\/(a.Y0=b.Y0/\a.Y1=b.Y1/\a.X1<b.X0)
theorem C7.apart {a b:aI} (h:C7 a b):K4 a b:=fun x y ⟨h1,h2⟩=>by
 rw [HE] at h1 h2
 rcases h with h | h <;> omega
theorem vq: ∀{s:List aA},eK (s.map bR)->(aN s).Pairwise C7
 | [],_=>kR
 | b::s,h=>by
  rw [lZ,List.pairwise_append]
  refine⟨?_,vq h.tail,fun x hx y hy=>?_⟩
  ·unfold lY
   rw [List.pairwise_map]
   exact List.Pairwise.imp (fun hpq=> .inr ⟨rfl,rfl,hpq⟩) (vo (h.each (bR b) (by simp)).2.2.1)
  ·unfold lY at hx
   obtain⟨p,_,rfl⟩:=cT.1 hx
   obtain⟨c,hc,q,_,rfl⟩:=nR hy
   exact .inl (h.xY (bR c) (cT.2 ⟨c,hc,rfl⟩))
theorem zL {s:List aA} (h:eK (s.map bR)): ∀r∈aN s,r.X0<r.X1/\r.Y0<r.Y1:=fun r hr=>by
 obtain⟨b,hb,p,hp,rfl⟩:=nR hr
 have hc:=h.each (bR b) (cT.2 ⟨b,hb,rfl⟩)
 exact⟨CW hc.2.2.1 p hp,hc.1⟩
theorem Cc {s:List aA} (h:eK (s.map bR)): (aN s).Nodup:=by
 have h1:=vq h
 have h2:=zL h
 refine List.Pairwise.imp_of_mem (fun{a b} ha hb hab e=>?_) h1
 subst e
 have:=h2 a ha
 rcases hab with h | h <;> omega
def nr (s:List Bd):Nat:=(s.map (fun b=>b.xs.length / 2)).sum
theorem rX (s t:List Bd):nr (s++t)=nr s+nr t:=by unfold nr;rw [eB,List.sum_append]
theorem ER (s:List Bd) (b:Bd):nr (lX s b)<=nr s+b.xs.length / 2:=by
 unfold lX
 split
 ·omega
 ·split
  ·rename_i c hc
   have hsp:=qw hc
   have e:nr s=nr s.dropLast+c.xs.length / 2:=by
    conv=>lhs;rw [hsp,rX]
    simp [nr]
   split
   ·rw [rX,e];simp [nr]
   ·rw [rX];simp [nr]
  ·simp [nr]
structure MF (t:List Bd):Prop where
 each: ∀b∈t,b.y0<b.y1/\lP b.xs/\b.xs.length % 2=0
 ord:t.Pairwise (fun b c=>b.y1<=c.y0)
theorem fold_push: ∀(t out:List Bd),MF t->eK out->(∀c∈out,∀b∈t,c.y1<=b.y0)->eK (t.foldl lX out)/\nr (t.foldl lX out)<=nr out+nr t/\
  ∀y,rowAt (t.foldl lX out) y=if (∃b∈t,b.y0<=y/\y<b.y1) then rowAt t y else rowAt out y
 | [],out,_,hc,_=>⟨hc,by simp [nr],fun y=>by simp⟩
 | b::t,out,hl,hc,ho=>by
  have hb:=hl.each b (by simp)
  have hord:=List.pairwise_cons.1 hl.ord
  have ho1: ∀c∈out,c.y1<=b.y0:=fun c h=>ho c h b (by simp)
  have h1:=vP hc ho1 hb.2.1 hb.2.2
  have htop:=vQ ho1 (show b.y0<=b.y1 by omega)
  obtain⟨f1,f2,f3⟩:=fold_push t (lX out b) ⟨fun c hcm=>hl.each c (jh _ hcm),hord.2⟩ h1 (fun c hcm d hd=>by have:=htop c hcm;have:=hord.1 d hd;omega)
  refine⟨f1,?_,fun y=>?_⟩
  ·have:=ER out b
   have e:nr (b::t)=b.xs.length / 2+nr t:=by simp [nr]
   rw [List.foldl_cons,e];omega
  ·rw [List.foldl_cons,f3 y,vO ho1 (fun c hcm=>(hc.each c hcm).1) (fun h=>absurd h (by omega)),kM]
   by_cases hy:b.y0<=y/\y<b.y1
   ·have hn: ¬∃c∈t,c.y0<=y/\y<c.y1:=fun⟨c,hcm,h⟩=>by have:=hord.1 c hcm;omega
    rw [aD hn,aC hy,aC ⟨b,by simp,hy⟩,aC hy]
   ·rw [aD hy]
    by_cases h: ∃c∈t,c.y0<=y/\y<c.y1
    ·obtain⟨c,hcm,h⟩:=h
     rw [aC ⟨c,hcm,h⟩,aC ⟨c,jh _ hcm,h⟩,aD hy]
    ·rw [aD h,aD hy,aD (show ¬∃c∈b::t,c.y0<=y/\y<c.y1 from fun⟨c,hcm,h2⟩=>by
      rcases fQ.1 hcm with rfl | hcm
      ·exact hy h2
      ·exact h ⟨c,hcm,h2⟩)]
noncomputable def nB (C:List aI) (b:aA):Bd:=⟨b.Y0,b.Y1,oX ((zB b.Xs).filter (fun p=>decide ((⟨p.1,b.Y0,p.2,b.Y1⟩:aI)∈C)))⟩
theorem ES {l m:List (Int×Int)} (h:l.Sublist m): (oX l).Sublist (oX m):=by
 induction h with
 | slnil=>exact List.Sublist.refl _
 | cons a _ ih=>rw [mL];exact(ih.cons _).cons _
 | cons_cons a _ ih=>rw [mL,mL];exact(ih.cons_cons _).cons_cons _
theorem yt (l:List (Int×Int)): (oX l).length % 2=0/\(oX l).length / 2=l.length:=by rw [EA];omega
theorem zM {s p:List aA} {C:List aI} (hs:eK (s.map bR)) (hp:eK (p.map bR)) (hC: ∀r∈C,r∈aN s) (hcov: ∀x y,u4 (p.map bR) x y=wv C x y): (aN p).length<=C.length:=by
 have hinc: ∀b∈s,lP (nB C b).xs:=fun b hb=>by
  have h1:=DR hs b hb
  have h2:=ES (List.filter_sublist (l:=zB b.Xs) (p:=fun p=>decide ((⟨p.1,b.Y0,p.2,b.Y1⟩:aI)∈C)))
  rw [u7 (pQ hs b hb)] at h2
  exact List.Pairwise.sublist h2 h1
 have hlow:MF (s.map (nB C)):=by
  refine⟨fun b hb=>?_,?_⟩
  ·obtain⟨c,hc,rfl⟩:=cT.1 hb
   exact⟨(hs.each (bR c) (cT.2 ⟨c,hc,rfl⟩)).1,hinc c hc,(yt _).1⟩
  ·have:=hs.ord
   rw [List.pairwise_map] at this ⊢
   exact List.Pairwise.imp (fun h=>h.1) this
 obtain⟨f1,f2,f3⟩:=fold_push (s.map (nB C)) [] hlow eK.nil (fun c hc=>by cases hc)
 have hrow: ∀{t:List aA},(∀b∈t,b∈s)->∀x y,mo (rowAt (t.map (nB C)) y) x=true->wv C x y=true:=by
  intro t ht x y h
  induction t with
  | nil=>cases h
  | cons b t ih=>
   rw [dV,kM] at h
   split at h
   ·rename_i hy
    have hbm:=ht b (by simp)
    have h1:=hinc b hbm
    have h:mo (oX ((zB b.Xs).filter (fun p=>decide ((⟨p.1,b.Y0,p.2,b.Y1⟩:aI)∈C)))) x=true:=h
    rw [u5 h1,x4] at h
    obtain⟨q,hq,h2⟩:=h
    have hq:=iA.1 hq
    exact j5.2 ⟨_,of_decide_eq_true hq.2,h2,hy⟩
   ·exact ih (fun c hc=>ht c (jh _ hc)) h
 have hrow2: ∀x y,wv C x y=true->mo (rowAt (s.map (nB C)) y) x=true:=by
  intro x y h
  obtain⟨r,hr,h1,h2⟩:=j5.1 h
  obtain⟨b,hb,q,hq,rfl⟩:=nR (hC r hr)
  dsimp only at h1 h2
  have key: ∀{t:List aA},(∀c∈t,c∈s)->eK (t.map bR)->b∈t->rowAt (t.map (nB C)) y= (nB C b).xs:=by
   intro t ht hc hbt
   induction t with
   | nil=>cases hbt
   | cons c t ih=>
    rw [dV,kM]
    by_cases hy:c.Y0<=y/\y<c.Y1
    ·rw [aC (show (nB C c).y0<=y/\y< (nB C c).y1 from hy)]
     rcases fQ.1 hbt with rfl | hbt
     ·rfl
     ·have:=hc.xY (bR b) (cT.2 ⟨b,hbt,rfl⟩)
      have e1: (bR c).y1=c.Y1:=rfl
      have e2: (bR b).y0=b.Y0:=rfl
      omega
    ·rw [aD (show ¬((nB C c).y0<=y/\y< (nB C c).y1) from hy)]
     rcases fQ.1 hbt with rfl | hbt
     ·exact absurd h2 hy
     ·exact ih (fun d hd=>ht d (jh _ hd)) hc.tail hbt
  rw [key (fun c hc=>hc) hs hb]
  have h1':=hinc b hb
  show mo (oX ((zB b.Xs).filter (fun p=>decide ((⟨p.1,b.Y0,p.2,b.Y1⟩:aI)∈C)))) x=true
  rw [u5 h1',x4]
  exact⟨q,iA.2 ⟨hq,cE hr⟩,h1⟩
 have hsame:p.map bR= (s.map (nB C)).foldl lX []:=x0 hp f1 fun x y=>by
  rw [hcov,gC]
  have e:rowAt ((s.map (nB C)).foldl lX []) y=rowAt (s.map (nB C)) y:=by
   rw [f3]
   by_cases h: ∃b∈s.map (nB C),b.y0<=y/\y<b.y1
   ·rw [aC h]
   ·rw [aD h]
    exact(j4 fun b hb=>by
     have: ¬(b.y0<=y/\y<b.y1):=fun h2=>h ⟨b,hb,h2⟩
     omega).symm
  unfold u4
  rw [e]
  exact⟨hrow2 x y,hrow (fun b hb=>hb) x y⟩
 have hc1: (aN p).length=nr (p.map bR):=by
  have: ∀p:List aA,(aN p).length=nr (p.map bR):=fun p=>by
   induction p with
   | nil=>rfl
   | cons b p ih=>rw [lZ,dR,k8,ih];unfold nr;rw [dV,dV,List.sum_cons];rfl
  exact this p
 have hc2: ∀s:List aA,nr (s.map (nB C))= ((aN s).filter (fun r=>decide (r∈C))).length:=fun s=>by
  induction s with
  | nil=>rfl
  | cons b s ih=>
   rw [lZ,gS,dR,<-ih]
   unfold nr
   rw [dV,dV,List.sum_cons]
   congr 1
   show (oX _).length / 2=_
   rw [(yt _).2]
   unfold lY
   rw [List.filter_map,eY];rfl
 have hc3: ((aN s).filter (fun r=>decide (r∈C))).length<=C.length:=eO (List.Nodup.sublist List.filter_sublist (Cc hs)) fun r hr=>of_decide_eq_true (iA.1 hr).2
 rw [hc1,hsame]
 have e0:nr ([]:List Bd)=0:=rfl
 have:=hc2 s
 omega
end Go.Gk
namespace Go.Gk
open Go Classical
section
variable {N:Nat}
theorem th {all:List aI} (w:aI->Nat): ∀(c:List Nat),((c.filterMap (fun i=>all[i]?)).map w).sum= (c.map (fun i=>(all[i]?).elim 0 w)).sum
 | []=>rfl
 | i::c=>by
  rw [dV,List.sum_cons,<-th w c]
  cases h:all[i]? with
  | none=>rw [List.filterMap_cons_none (f:=fun i=>all[i]?) h];simp
  | some x=>rw [List.filterMap_cons_some (f:=fun i=>all[i]?) h,dV,List.sum_cons];rfl
theorem HF {all:List aI} {u:Nat->Nat} (h: ∀i,i<all.length->u i∈bX all.length u) (w:aI->Nat): ((bX all.length u).map (fun k=>((l6 all all.length u k).map w).sum)).sum= (all.map w).sum:=by
 have e: (fun k=>((l6 all all.length u k).map w).sum)=fun k=>(((List.range all.length).filter (fun x=>decide (u x=k))).map (fun i=>(all[i]?).elim 0 w)).sum:=by
  funext k;unfold l6;rw [th];rfl
 rw [e,Ca (l3 _ _) u _ (fun x hx=>h x (jf.1 hx))]
 have: ∀m,m<=all.length->((List.range m).map (fun i=>(all[i]?).elim 0 w)).sum= ((all.take m).map w).sum:=by
  intro m
  induction m with
  | zero=>intro _;rfl
  | succ m ih=>
   intro hm
   rw [yr,ih (by omega),eM (by omega),eB,List.sum_append,aJ (by omega)]
   simp
 rw [this _ (bM _),eD]
theorem yu: ∀{l m:List Nat},l.length=m.length->(∀(j x y:Nat),l[j]? =some x->m[j]? =some y->x<=y)->l.sum<=m.sum
 | [],[],_,_=>bM _
 | [],_::_,h,_=>by simp at h
 | _::_,[],h,_=>by simp at h
 | a::l,b::m,h,hle=>by
  have h1:=hle 0 a b rfl rfl
  have h2:=yu (l:=l) (m:=m) (by simpa using h) fun j x y hx hy=>hle (j+1) x y (by simpa using hx) (by simpa using hy)
  rw [List.sum_cons,List.sum_cons];omega
theorem HG {r hs:List aI} {s:List aA} (h1: ∀x∈r,cZ x=true) (h2: ∀x∈hs,cZ x=true) (hc:eK (s.map bR)) (hl:tW (pN r++pN hs) (ly r++ly hs) (s.map bR)): ∀q∈aN s,cZ q=true/\q.X0<q.X1/\q.Y0<q.Y1:=by
 intro q hq
 have hp:=zL hc q hq
 obtain⟨b,hb,p,hpm,rfl⟩:=nR hq
 have hll:=hl (bR b) (cT.2 ⟨b,hb,rfl⟩)
 have hm:=AE p hpm
 have bx: ∀c∈pN r++pN hs,-1000000<=c/\c<=1000000:=fun c hcm=>by
  rcases cS.1 hcm with h | h
  ·obtain⟨x,hx,h⟩:=pO.1 h
   have:=gZ (h1 x hx)
   rcases h with rfl | rfl <;> omega
  ·obtain⟨x,hx,h⟩:=pO.1 h
   have:=gZ (h2 x hx)
   rcases h with rfl | rfl <;> omega
 have by': ∀c∈ly r++ly hs,-1000000<=c/\c<=1000000:=fun c hcm=>by
  rcases cS.1 hcm with h | h
  ·obtain⟨x,hx,h⟩:=kO.1 h
   have:=gZ (h1 x hx)
   rcases h with rfl | rfl <;> omega
  ·obtain⟨x,hx,h⟩:=kO.1 h
   have:=gZ (h2 x hx)
   rcases h with rfl | rfl <;> omega
 have g1:=bx _ (hll.2.2 p.1 hm.1)
 have g2:=bx _ (hll.2.2 p.2 hm.2)
 have g3:=by' _ hll.1
 have g4:=by' _ hll.2.1
 exact⟨yi ⟨g1,g3,g2,g4⟩,hp⟩
structure qC (r hs:List aI) (s:List aA) (u:Nat->Nat) (ps:List (List aA)):Prop where
 r1: ∀x∈r,cZ x=true
 r2: ∀x∈hs,cZ x=true
 k1: ∀x∈r,Cs x
 k2: ∀x∈hs,Cs x
 dr:sG r hs s
 pt:qy s u ps
 yY: (aN s).length<=2000
theorem qC.part {r hs:List aI} {s:List aA} {u:Nat->Nat} {ps:List (List aA)} (h:qC r hs s u ps) {p:List aA} (hp:p∈ps):eK (p.map bR)/\(aN p).length<=2000/\∀q∈aN p,cZ q=true/\q.X0<q.X1/\q.Y0<q.Y1:=by
 obtain⟨sx,sy⟩:=h.dr.small h.k1 h.k2
 obtain⟨j,k,g1,g2,g3,g4⟩:=yl h.pt h.dr.can h.dr.lim sx sy hp
 have:=zM h.dr.can g3.can (fun x hx=>by
  obtain⟨i,_,_,hi⟩:=m6.1 hx
  exact gH hi) g3.cover
 have h2:=ye (aN s) (aN s).length u k
 have:=h.yY
 exact⟨g3.can,by omega,HG h.r1 h.r2 g3.can g4⟩
theorem qC.bX {r hs:List aI} {s:List aA} {u:Nat->Nat} {ps:List (List aA)} (h:qC r hs s u ps): ∀i,i< (aN s).length->u i∈Gk.bX (aN s).length u:=fun i hi=>ig.2 ⟨by have:=h.pt.join.le i hi;omega,h.pt.join.rr i hi⟩
theorem qC.total {r hs:List aI} {s:List aA} {u:Nat->Nat} {ps:List (List aA)} (h:qC r hs s u ps): (ps.map (fun p=>(aN p).length)).sum<=(aN s).length:=by
 have h1:=HF h.bX (fun _=>1)
 have one: ∀l:List aI,(l.map (fun _=>1)).sum=l.length:=fun l=>by
  induction l with
  | nil=>rfl
  | cons x l ih=>simp only [dV,List.sum_cons,ih,fI];omega
 simp only [one] at h1
 rw [<-h1]
 refine yu (by simp [h.pt.len]) fun j x y hx hy=>?_
 rw [fP,Option.map_eq_some_iff] at hx hy
 obtain⟨p,hp,rfl⟩:=hx
 obtain⟨k,hk,rfl⟩:=hy
 have hs:=h.pt.each j k p hk hp
 exact zM h.dr.can hs.can (fun x hx=>by
  obtain⟨i,_,_,hi⟩:=m6.1 hx
  exact gH hi) hs.cover
theorem wz {ps:List (List aA)} {x y:Int}:wv (ps.flatMap aN) x y=true↔∃p∈ps,wv (aN p) x y=true:=by
 rw [j5]
 constructor
 ·rintro⟨r,hr,h⟩
  obtain⟨p,hp,hrp⟩:=List.mem_flatMap.1 hr
  exact⟨p,hp,j5.2 ⟨r,hrp,h⟩⟩
 ·rintro⟨p,hp,h⟩
  obtain⟨r,hr,h⟩:=j5.1 h
  exact⟨r,List.mem_flatMap.2 ⟨p,hp,hr⟩,h⟩
theorem qC.cover {r hs:List aI} {s:List aA} {u:Nat->Nat} {ps:List (List aA)} (h:qC r hs s u ps) (x y:Int):wv (ps.flatMap aN) x y=u4 (s.map bR) x y:=by
 rw [<-sA h.dr.can,gC,wz]
 constructor
 ·rintro⟨p,hp,hc⟩
  obtain⟨j,hj⟩:=gk hp
  have hjl:=(bC.1 hj).1
  have hk: (Gk.bX (aN s).length u)[j]? =some ((Gk.bX (aN s).length u)[j]'(by rw [<-h.pt.len];exact hjl)):=aJ _
  have hs:=h.pt.each j _ _ hk hj
  rw [sA hs.can,hs.cover] at hc
  obtain⟨q,hq,h2⟩:=j5.1 hc
  obtain⟨i,_,_,hi⟩:=m6.1 hq
  exact j5.2 ⟨q,gH hi,h2⟩
 ·intro hc
  obtain⟨q,hq,h2⟩:=j5.1 hc
  obtain⟨i,hi⟩:=gk hq
  have hil:=(bC.1 hi).1
  obtain⟨j,hj⟩:=gk (h.bX i hil)
  have hjl:j<ps.length:=by rw [h.pt.len];exact(bC.1 hj).1
  have hs:=h.pt.each j _ _ hj (aJ hjl)
  refine⟨_,cP hjl,?_⟩
  rw [sA hs.can,hs.cover]
  exact j5.2 ⟨q,m6.2 ⟨i,hil,rfl,hi⟩,h2⟩
section
variable {a:gU} {jB:List (List aA)} {cJ:List (List (List aA))} {r:Nat->Nat} {gs:List cI} {ofP ofB fG:List Int} {fE:List dQ}
theorem Cd (b:jc a jB cJ r gs ofP ofB fG fE) {i:Nat} (hi:i<a.aL.length): ∃s ps u,jB[i]? =some s/\cJ[i]? =some ps/\qC a.aL[i] (m7 a.aV ((i:Nat):Int)) s u ps:=by
 have hd:jB[i]? =some (jB[i]'(by rw [b.dr.len];exact hi)):=aJ _
 have hp:cJ[i]? =some (cJ[i]'(by rw [b.dr.AK];exact hi)):=aJ _
 have hdr:=b.dr.dr i _ _ hi (aJ hi) hd
 obtain⟨u,hu⟩:=b.dr.pt i _ _ hi hd hp
 have hreg:=o0.1 (b.Cb.ME _ (cP hi))
 exact⟨_,_,u,hd,hp,fun x hx=>((pj.1 hreg.1).2 x hx).1,fun x hx=>(ve b.Cb.gb _ x hx).2,(C2 hreg.1).2,fun x hx=>(ve b.Cb.gb _ x hx).1,hdr,hu,b.yY.1 _ (gH hd)⟩
end
end
end Go.Gk
namespace Go.Gk
open Go Classical
def AP (f:Int->Int->Bool) (x y:Int):Prop:=f x y=true/\∀x' y',f x' y'=true->y<y'\/(y=y'/\x<=x')
theorem AP.unique {f:Int->Int->Bool} {x y x' y':Int} (h:AP f x y) (h':AP f x' y'):x=x'/\y=y':=by
 have h1:=h.2 _ _ h'.1
 have h2:=h'.2 _ _ h.1
 omega
section
variable {N:Nat}
structure BI (all:List aI) (u:Nat->Nat) (i:Nat) (q:List Nat) (done:List Bool) (own:List aI):Prop where
 len:done.length=all.length
 nd:q.Nodup
 lt: ∀k∈q,k<all.length/\u k=i
 hd:i∈q
 dn: ∀k,k<all.length->done[k]? =some (decide (u k<i\/k∈q))
 ow:own.map some=q.map (fun k=>all[k]?)
theorem BI.yY {all:List aI} {u:Nat->Nat} {i:Nat} {q:List Nat} {done:List Bool} {own:List aI} (h:BI all u i q done own):q.length<=all.length:=by
 have:=eO h.nd (m:=List.range all.length) (fun k hk=>by rw [jf];exact(h.lt k hk).1)
 rwa [List.length_range] at this
theorem BI.at_ {all:List aI} {u:Nat->Nat} {i:Nat} {q:List Nat} {done:List Bool} {own:List aI} (h:BI all u i q done own) {p k:Nat} (hk:q[p]? =some k):own[p]? =all[k]? :=by
 have e:=congrArg (fun l=>l[p]?) h.ow
 simp only [fP,hk,Option.map_some] at e
 cases ho:own[p]? with
 | none=>rw [ho] at e;cases e
 | some x=>rw [ho] at e;injection e
theorem BI.mem {all:List aI} {u:Nat->Nat} {i:Nat} {q:List Nat} {done:List Bool} {own:List aI} (h:BI all u i q done own) {r:aI}:r∈own↔∃k∈q,all[k]? =some r:=by
 have:r∈own↔some r∈own.map some:=by simp
 rw [this,h.ow,cT]
end
end Go.Gk
namespace Go.Gk
open Go Classical
section
variable {α β:Type}
theorem GC {N:Nat} {l:List α} {s:β} {φ:α->β->Option Int} (c:α->Int) (hφ: ∀x,φ x s=some (c x)) (hs: ∀(i j:Nat) (x y:α),i<j->l[i]? =some x->l[j]? =some y->0<=c x->0<c y)
  (hl:l.length<=1048576) (hN:4194304<=N): ∃r,F4 N l s φ=some r/\r.2=l.any (fun x=>c x==0)/\(r.2=true->r.1=Et l (fun x=>c x==0)):=by
 show Ok (F4 N l s φ) (fun r=>r.2=l.any (fun x=>c x==0)/\(r.2=true->r.1=Et l (fun x=>c x==0)))
 unfold F4
 refine Ok.bind (Ok.nD (Go:=fun st:Int×Int=>∃a:Nat,st.1= ((a:Nat):Int)/\a<=l.length/\(∀j x,j<a->l[j]? =some x->c x<0)/\(∀j x,a<=j->l[j]? =some x->0<=c x)) (Rt:=fun _=>True)
  (fun st=>∃a b:Nat,st= (((a:Nat):Int),((b:Nat):Int))/\a<=b/\b<=l.length/\(∀j x,j<a->l[j]? =some x->c x<0)/\(∀j x,b<=j->l[j]? =some x->0<=c x))
  (fun st=>(st.2 - st.1).toNat) ?_ ⟨0,l.length,rfl,by omega,bM _,fun j x hj=>by omega,fun j x hj hx=>by have:=(bC.1 hx).1;omega⟩ (by simp only;omega)) ?_
 ·rintro st ⟨a,b,rfl,hab,hb,h1,h2⟩
  dsimp only
  by_cases hlt:a<b
  ·have hm: (a+b) / 2<l.length:=by omega
   have hx:l[(a+b) / 2]? =some l[(a+b) / 2]:=aJ hm
   rw [show decide (((a:Nat):Int)< ((b:Nat):Int))=true by rw [bP];omega,aR,Eu hlt (by omega:b<=4611686018427387904)]
   refine Ok.ix hx (Ok.eq (hφ _) ?_)
   by_cases hc:c l[(a+b) / 2]<0
   ·rw [cE hc,aR,aB]
    refine Ok.nx ⟨⟨(a+b) / 2+1,b,?_,by omega,hb,fun j x hj hx'=>?_,h2⟩,?_⟩
    ·rw [gx (by omega)]
    ·by_cases e:j= (a+b) / 2
     ·subst e;rw [hx] at hx';injection hx' with hx';rw [<-hx'];exact hc
     ·by_cases h0:c x<0
      ·exact h0
      ·have:=hs j _ x _ (by omega) hx' hx (by omega)
       omega
    ·rw [gx (by omega)];simp only;omega
   ·rw [bG hc,aS,aB]
    refine Ok.nx ⟨⟨a,(a+b) / 2,rfl,by omega,by omega,h1,fun j x hj hx'=>?_⟩,by simp only;omega⟩
    by_cases e:j= (a+b) / 2
    ·subst e;rw [hx] at hx';injection hx' with hx';rw [<-hx'];omega
    ·have:=hs _ j _ x (by omega) hx hx' (by omega)
     omega
  ·rw [show decide (((a:Nat):Int)< ((b:Nat):Int))=false by rw [decide_eq_false_iff_not];omega,aS]
   exact Ok.br ⟨a,rfl,by omega,h1,fun j x hj hx=>h2 j x (by omega) hx⟩
 intro o ho
 refine Ok.cs ho ?_ (fun r hr=>r.elim)
 rintro⟨st1,st2⟩ ⟨a,ha,hle,h1,h2⟩
 dsimp only at ha ⊢
 subst ha
 by_cases hlt:a<l.length
 ·have hx:l[a]? =some l[a]:=aJ hlt
  rw [show decide (((a:Nat):Int)< ((l.length:Nat):Int))=true by rw [bP];omega,aR,dD hx,aB,hφ,aB,aB]
  refine Ok.ret ?_
  by_cases he:c l[a]=0
  ·have hb: (c l[a]==0)=true:=by rw [beq_iff_eq];exact he
   rw [hb]
   refine⟨(jQ.2 ⟨_,cP hlt,hb⟩).symm,fun _=>?_⟩
   rw [F2 hx hb (fun j y hj hy=>by have:=h1 j y hj hy;rw [beq_eq_false_iff_ne];omega)]
  ·have hb: (c l[a]==0)=false:=by rw [beq_eq_false_iff_ne];exact he
   rw [hb]
   refine⟨?_,fun h=>by cases h⟩
   symm
   rw [List.any_eq_false]
   intro x hx'
   obtain⟨j,hj⟩:=gk hx'
   rw [oL,beq_eq_false_iff_ne]
   by_cases hja:j<a
   ·have:=h1 j x hja hj;omega
   ·by_cases e:j=a
    ·subst e;rw [hx] at hj;injection hj with hj;rw [<-hj];exact he
    ·have h3:=h2 a _ (bM _) hx
     have:=hs a j _ x (by omega) hx hj h3
     omega
 ·rw [show decide (((a:Nat):Int)< ((l.length:Nat):Int))=false by rw [decide_eq_false_iff_not];omega,aS,aB]
  refine Ok.ret ⟨?_,fun h=>by cases h⟩
  symm
  rw [List.any_eq_false]
  intro x hx'
  obtain⟨j,hj⟩:=gk hx'
  have:=(bC.1 hj).1
  have:=h1 j x (by omega) hj
  rw [oL,beq_eq_false_iff_ne];omega
end
def wA (p q:fW):Prop:=dA.lt p.Part q.Part\/(p.Part=q.Part/\dA.lt p.fW q.fW)
theorem DX {p q:fW} (h1:p.Part=q.Part) (h2:p.fW=q.fW):p=q:=by cases p;cases q;simp at h1 h2;subst h1;subst h2;rfl
theorem wA.irrefl (p:fW): ¬wA p p:=fun h=>by
 rcases h with h | ⟨_,h⟩
 ·exact dA.lt_irrefl _ h
 ·exact dA.lt_irrefl _ h
theorem wA.trans {p q r:fW} (h1:wA p q) (h2:wA q r):wA p r:=by
 rcases h1 with h1 | ⟨e1,h1⟩ <;> rcases h2 with h2 | ⟨e2,h2⟩
 ·exact .inl (dA.lt_trans h1 h2)
 ·exact .inl (by rw [<-e2];exact h1)
 ·exact .inl (by rw [e1];exact h2)
 ·exact .inr ⟨e1.trans e2,dA.lt_trans h1 h2⟩
theorem wA.total (p q:fW):wA p q\/p=q\/wA q p:=by
 rcases dA.BQ p.Part q.Part with h | h | h
 ·exact .inl (.inl h)
 ·rcases dA.BQ p.fW q.fW with h' | h' | h'
  ·exact .inl (.inr ⟨h,h'⟩)
  ·exact .inr (.inl (DX h h'))
  ·exact .inr (.inr (.inr ⟨h.symm,h'⟩))
 ·exact .inr (.inr (.inl h))
theorem wA.asymm {p q:fW} (h:wA p q): ¬wA q p:=fun h'=>wA.irrefl p (h.trans h')
theorem wA.ne {p q:fW} (h:wA p q):p≠q:=fun e=>by subst e;exact wA.irrefl _ h
theorem pR {a b:dA}:Lib.compareBytes a.cR b.cR=0↔a=b:=⟨fun h=>dA.ext' ((tu _ _).1 h),fun h=>(tu _ _).2 (by rw [h])⟩
theorem nN {p q:fW}:gD p q=0↔p=q:=by
 unfold gD
 by_cases h:Lib.compareBytes p.Part.cR q.Part.cR=0
 ·rw [aD (by simpa using h),pR]
  exact⟨fun h'=>DX (pR.1 h) h',fun h'=>by rw [h']⟩
 ·rw [aC h]
  exact⟨fun h'=>absurd h' h,fun h'=>absurd (pR.2 (by rw [h'])) h⟩
theorem yv {p q:fW}:gD p q<0↔wA p q:=by
 unfold gD wA
 by_cases h:Lib.compareBytes p.Part.cR q.Part.cR=0
 ·rw [aD (by simpa using h),tt]
  have e:=pR.1 h
  constructor
  ·exact fun h'=> .inr ⟨e,h'⟩
  ·rintro(h' | ⟨_,h'⟩)
   ·rw [e] at h';exact absurd h' (dA.lt_irrefl _)
   ·exact h'
 ·rw [aC h,tt]
  constructor
  ·exact fun h'=> .inl h'
  ·rintro(h' | ⟨e,_⟩)
   ·exact h'
   ·exact absurd (pR.2 e) h
theorem qD {p q:fW}:0<gD p q↔wA q p:=by
 constructor
 ·intro h
  rcases wA.total p q with h' | h' | h'
  ·have:=yv.2 h';omega
  ·have:=nN.2 h';omega
  ·exact h'
 ·intro h
  by_cases h1:gD p q<0
  ·exact absurd (yv.1 h1) h.asymm
  ·by_cases h2:gD p q=0
   ·exact absurd (nN.1 h2).symm h.ne
   ·omega
section
variable {N:Nat}
structure C8 (a:gU) (x:cU):Prop where
 name:ph x.Part=true/\isWord x.fW=true
 K0:0<=x.cX/\x.cX< ((a.aL.length:Nat):Int)
 at_:tf x.At=true
structure pS (a:gU):Prop where
 yY:a.bH.length<=1000
 each: ∀x∈a.bH,C8 a x
 up:a.bH.Pairwise (fun x y=>wA (kP x) (kP y))
theorem AQ {a:gU} {k:Nat} {x:cU} (hx:a.bH[k]? =some x) (h:k9 a k=none):C8 a x/\∀y,0<k->a.bH[k - 1]? =some y->wA (kP y) (kP x):=by
 unfold k9 at h
 rw [hx,Option.bind_some] at h
 split at h
 ·rename_i h1
  split at h
  ·rename_i h2
   split at h
   ·cases h
   ·rename_i h3
    rw [bT] at h1 h2
    unfold ij at h2
    rw [bT,bP,bP] at h2
    refine⟨⟨h1,⟨by omega,by omega⟩,h2.2⟩,fun y hk hy=>?_⟩
    have h4: ¬gD (kP x) (kP y)<=0:=fun h4=>h3 ⟨hk,y,hy,h4⟩
    exact qD.1 (by omega)
  ·cases h
 ·cases h
theorem C9 {a:gU} {k:Nat} {e:Int} (h:k9 a k=some e):e≠0:=by
 unfold k9 at h
 cases hx:a.bH[k]? with
 | none=>rw [hx] at h;cases h
 | some x=>
  rw [hx,Option.bind_some] at h
  repeat' split at h
  all_goals first | (injection h with h;omega) | cases h
theorem ET {a:gU} (h:kQ a=0):pS a:=by
 unfold kQ at h
 split at h
 ·omega
 rename_i hl
 have hn:mW a.bH.length (k9 a)=none:=by
  cases hf:mW a.bH.length (k9 a) with
  | none=>rfl
  | some e=>
   rw [hf] at h
   obtain⟨k,_,hk,_⟩:=iI.1 hf
   exact absurd h (C9 hk)
 rw [gO] at hn
 have hg: ∀(k:Nat) x,a.bH[k]? =some x->C8 a x/\∀y,0<k->a.bH[k - 1]? =some y->wA (kP y) (kP x):=fun k x hx=>AQ hx (hn k (bC.1 hx).1)
 refine⟨by omega,fun x hx=>?_,?_⟩
 ·obtain⟨k,hk⟩:=gk hx
  exact(hg k x hk).1
 ·have hstep: ∀(n i:Nat) x y,a.bH[i]? =some x->a.bH[i+n+1]? =some y->wA (kP x) (kP y):=by
   intro n
   induction n with
   | zero=>intro i x y hx hy;exact(hg (i+1) y hy).2 x (by omega) hx
   | succ n ih=>
    intro i x y hx hy
    have hz:i+n+1<a.bH.length:=by have:=(bC.1 hy).1;omega
    have h1:=ih i x _ hx (aJ hz)
    exact h1.trans ((hg (i+ (n+1)+1) y hy).2 _ (by omega) (by rw [show i+ (n+1)+1 - 1=i+n+1 by omega];exact aJ hz))
  rw [mQ]
  intro i j hi hj hij
  exact hstep (j - i - 1) i _ _ (aJ hi) (by rw [show i+ (j - i - 1)+1=j by omega];exact aJ hj)
theorem pS.inj {a:gU} (h:pS a) {i j:Nat} {x y:cU} (hx:a.bH[i]? =some x) (hy:a.bH[j]? =some y) (e:kP x=kP y):i=j:=by
 obtain⟨h1,rfl⟩:=bC.1 hx
 obtain⟨h2,rfl⟩:=bC.1 hy
 have hp:=mQ.1 h.up
 rcases Nat.lt_trichotomy i j with h3 | h3 | h3
 ·exact absurd e (hp i j h1 h2 h3).ne
 ·exact h3
 ·exact absurd e.symm (hp j i h2 h1 h3).ne
theorem Ce {l:List cU} {p:fW} (hu:l.Pairwise (fun x y=>wA (kP x) (kP y))) (hl:l.length<=1048576) (hN:4194304<=N) {φ:cU->fW->Option Int} (hφ: ∀x,φ x p=some (gD (kP x) p)):
  ∃r,F4 N l p φ=some r/\(bif (!r.2) then (some (-1)) else (some r.1))=some (Et l (fun x=>decide (kP x=p))):=by
 obtain⟨r,h1,h2,h3⟩:=GC (N:=N) (l:=l) (s:=p) (φ:=φ) (fun x=>gD (kP x) p) hφ (fun i j x y hij hx hy hc=>by
  obtain⟨g1,rfl⟩:=bC.1 hx
  obtain⟨g2,rfl⟩:=bC.1 hy
  have hlt:=mQ.1 hu i j g1 g2 hij
  refine qD.2 ?_
  by_cases h0:gD (kP l[i]) p=0
  ·rw [<-nN.1 h0];exact hlt
  ·exact(qD.1 (by omega)).trans hlt) hl hN
 have e: (fun x=>gD (kP x) p==0)= (fun x=>decide (kP x=p)):=by
  funext x
  rw [gC,beq_iff_eq,bP,nN]
 rw [e] at h2 h3
 refine⟨r,h1,?_⟩
 cases hr:r.2 with
 | true=>simp only [lE,aS];rw [h3 hr]
 | false=>
  simp only [lF,aR]
  rw [hr] at h2
  rw [F1 h2.symm]
def kr (a:gU) (p:fW):Int:=Et a.bH (fun x=>decide (kP x=p))
theorem wB (a:gU) (p:fW): (kr a p = -1/\∀x∈a.bH,kP x≠p)\/∃(k:Nat) (x:cU),kr a p= ((k:Nat):Int)/\a.bH[k]? =some x/\kP x=p:=by
 rcases su a.bH (fun x=>decide (kP x=p)) with ⟨h1,h2⟩ | ⟨k,x,h1,h2,h3,_⟩
 ·exact .inl ⟨h1,fun x hx=>of_decide_eq_false (h2 x hx)⟩
 ·exact .inr ⟨k,x,h1,h2,of_decide_eq_true h3⟩
end
end Go.Gk
namespace Go.Gk
open Go Classical
section
variable {N:Nat}
end
end Go.Gk
namespace Go.Gk
open Go Classical
section
variable {N:Nat}
end
section
variable {N:Nat} {a:gU} {jB:List (List aA)} {cJ:List (List (List aA))} {r:Nat->Nat} {gs:List cI} {ofP ofB fG:List Int} {fE:List dQ}
theorem Cf (b:jc a jB cJ r gs ofP ofB fG fE) {p:aH} (hp:p∈bJ 0 cJ):p.iZ.length<=2000/\(∀q∈p.iZ,cZ q=true/\q.X0<q.X1/\q.Y0<q.Y1)/\∃i:Nat,p.cX= ((i:Nat):Int)/\∀x y,wv p.iZ x y=true->wv (m7 a.aV ((i:Nat):Int)) x y=false:=by
 obtain⟨i,ps,q,h1,h2,rfl⟩:=v7 hp
 have hil:i<a.aL.length:=by have:=(bC.1 h1).1;rw [b.dr.AK] at this;exact this
 obtain⟨s,ps',u,g1,g2,L⟩:=Cd b hil
 rw [h1] at g2;injection g2 with g2;subst g2
 obtain⟨k1,k2,k3⟩:=L.part h2
 refine⟨k2,k3,i,by simp,fun x y h=>?_⟩
 have h3:wv (ps.flatMap aN) x y=true:=wz.2 ⟨q,h2,h⟩
 rw [L.cover,L.dr.cover,bT,Bool.not_eq_true'] at h3
 exact h3.2
end
end Go.Gk
namespace Go.Gk
open Go Classical
structure PS (n:Nat) (r:Nat->Nat) (h:Nat) (q:List Nat) (seen:List Bool) (pieces todo:List Int):Prop where
 sl:seen.length=n
 sn: ∀p,p<n->seen[p]? =some (decide (r p<h\/p∈q))
 qn:q.Nodup
 qi: ∀p∈q,p<n/\r p=h
 q0:h∈q
 td:todo=ints q
 pi:lP pieces
 pm: ∀x,x∈pieces↔∃p∈q,x= ((p:Nat):Int)
structure QS (n m:Nat) (tch:List (List Int)) (r:Nat->Nat) (h:Nat) (q qb:List Nat) (vl:List Int) (used:List Bool):Prop where
 ul:used.length=m
 un: ∀k,k<m->used[k]? =some (decide (k∈qb))
 bi:lP vl
 bm: ∀x,x∈vl↔∃k∈qb,x= ((k:Nat):Int)
 bk: ∀k∈qb,k<m/\r (n+k)=h/\∀l,tch[k]? =some l->∀p:Nat,((p:Nat):Int)∈l->p∈q
theorem PS.yY {n:Nat} {r:Nat->Nat} {h:Nat} {q:List Nat} {seen:List Bool} {pieces todo:List Int} (H:PS n r h q seen pieces todo):q.length<=n/\pieces.length<=n:=by
 have h1:=eO H.qn (m:=List.range n) (fun k hk=>by rw [jf];exact(H.qi k hk).1)
 rw [List.length_range] at h1
 have h2:=eO H.pi.nodup (m:=ints q) (fun x hx=>ym.2 ((H.pm x).1 hx))
 rw [ml] at h2
 exact⟨h1,by omega⟩
theorem QS.yY {n m:Nat} {tch:List (List Int)} {r:Nat->Nat} {h:Nat} {q qb:List Nat} {vl:List Int} {used:List Bool} (H:QS n m tch r h q qb vl used):vl.length<=m:=by
 have h2:=eO H.bi.nodup (m:=ints (List.range m)) (fun x hx=>by
  obtain⟨k,hk,e⟩:=(H.bm x).1 hx
  exact ym.2 ⟨k,jf.2 (H.bk k hk).1,e⟩)
 rwa [ml,List.length_range] at h2
section
variable {N:Nat}
end
end Go.Gk
namespace Go.Gk
open Go Classical
structure MS (G G':List cI):Prop where
 len:G'.length=G.length
 each: ∀(g:Nat) x,G[g]? =some x->∃y,G'[g]? =some y/\y.m9=x.m9/\y.aV=x.aV
section
variable {N:Nat}
end
section
variable {N:Nat} {a:gU} {jB:List (List aA)} {cJ:List (List (List aA))} {r:Nat->Nat} {gs:List cI} {ofP ofB fG:List Int} {fE:List dQ}
theorem jc.rW (b:jc a jB cJ r gs ofP ofB fG fE):pS a:=ET b.Cb.rW
end
end Go.Gk
namespace Go.Gk
open Go Classical
section
variable {N:Nat} {a:gU} {jB:List (List aA)} {cJ:List (List (List aA))} {r:Nat->Nat} {gs:List cI} {ofP ofB fG:List Int} {fE:List dQ}
end
section
variable {N:Nat}
end
end Go.Gk
namespace Go.Gk
open Go Classical
section
variable {bs:List bW} {ls:List cU} {pcs:List aH} {r:Nat->Nat} {gs:List cI} {ofP ofB fG:List Int} {fE:List dQ}
theorem GD (hc:yn bs ls pcs r gs ofP ofB fG fE):gs.length= (live bs pcs.length (pcs.length+bs.length) r (bX (pcs.length+bs.length) r)).length/\gs.length<=pcs.length+bs.length:=by
 have e:gs.length= (live bs pcs.length (pcs.length+bs.length) r (bX (pcs.length+bs.length) r)).length:=by
  rw [hc.gs,vk,rV]
 refine⟨e,?_⟩
 rw [e]
 have:=qB bs pcs.length (pcs.length+bs.length) r (bX (pcs.length+bs.length) r)
 have:=mN (pcs.length+bs.length) r
 omega
theorem K5 (hc:yn bs ls pcs r gs ofP ofB fG fE) {k:Nat} (hk:k<pcs.length):
  ∃g:Nat,ofP[k]? =some ((g:Nat):Int)/\g<gs.length/\(live bs pcs.length (pcs.length+bs.length) r (bX (pcs.length+bs.length) r))[g]? =some (r k):=by
 have hm:r k∈bX (pcs.length+bs.length) r:=ig.2 ⟨by have:=hc.conn.le k (by omega);omega,hc.conn.rr k (by omega)⟩
 obtain⟨g1,g2⟩:=B7 (bs:=bs) (n:=pcs.length) hm (Gx hk (by omega))
 exact⟨_,hc.of.pc k hk hm,by rw [(GD hc).1];exact g1,g2⟩
end
section
variable {N:Nat} {a:gU} {jB:List (List aA)} {cJ:List (List (List aA))} {r:Nat->Nat} {gs:List cI} {ofP ofB fG:List Int} {fE:List dQ}
end
section
variable {N:Nat}
end
end Go.Gk
namespace Go.Gk
open Go Classical
section
variable {N:Nat} {a:gU} {jB:List (List aA)} {cJ:List (List (List aA))} {r:Nat->Nat} {gs:List cI} {ofP ofB fG:List Int} {fE:List dQ}
theorem pT (g:pS a) (p:fW) (hN:4398046511104<=N):dT N a p=some (kr a p):=by
 obtain⟨r,h1,h2⟩:=Ce (N:=N) (p:=p) g.up (by have:=g.yY;omega) (by omega) (φ:=gM N) (fun x=>by unfold gM;rw [vY,aB,kb,aB])
 unfold dT
 have e:eU N a.bH p (gM N)=F4 N a.bH p (gM N):=rfl
 rw [e,h1,aB];exact h2
end
section
variable {N:Nat}
end
end Go.Gk
namespace Go.Gk
open Go Classical
theorem yZ.uniq {n m:Nat} {tch:List (List Int)} {r1 r2:Nat->Nat} (h1:yZ n m tch r1) (h2:yZ n m tch r2) {i j:Nat} (hi:i<n+m) (hj:j<n+m):r1 i=r1 j↔r2 i=r2 j:=by
 have key: ∀{r1 r2:Nat->Nat},yZ n m tch r1->yZ n m tch r2->r1 i=r1 j->r2 i=r2 j:=fun{r1 r2} h1 h2 e=>
  (h1.fi (fun x=>r2 i=r2 x) (fun a b hab=>by rw [h2.co a b hab]) i j hi hj e) rfl
 exact⟨key h1 h2,key h2 h1⟩
section
variable {N:Nat} {a:gU} {jB:List (List aA)} {cJ:List (List (List aA))} {r:Nat->Nat} {gs:List cI} {ofP ofB fG:List Int} {fE:List dQ}
theorem I7 (x y:Int) (u:List Int):gN N x y [] u=dI N u x y:=by
 show (((dI N u x y).bind fun x38=>some x38).bind fun s36=>some s36)=_
 cases dI N u x y <;> rfl
theorem AR {bs:List bW} {pcs:List aH} {l:cU} {h:dQ} (hh:np bs pcs l=some h) (hn:pcs.length+bs.length<=1000000000):
  f0 N h ((pcs.length:Nat):Int)=some ((eX pcs.length h:Nat):Int)/\eX pcs.length h<pcs.length+bs.length:=by
 obtain⟨k,e,h1,h2⟩:=(C6 hh).num
 unfold f0 eX
 cases hB:h.bW with
 | true=>
  have:=(h1 hB).1
  rw [aR,aC rfl,e,bY,wrap_add (by omega)]
  exact⟨rfl,by omega⟩
 | false=>
  have:=h2 hB
  rw [aS,aD ji,e,bY]
  exact⟨rfl,by omega⟩
structure HH (bs:List bW) (pcs:List aH) (ls:List cU) (r2:Nat->Nat) (j:Nat) (up:List Int) (fm:List (Int×Int)) (out:List Int):Prop where
 uf:UF (pcs.length+bs.length) up r2
 len:out.length=ls.length
 no: ∀i l,i<j->ls[i]? =some l->np bs pcs l=none->out[i]? =some (-1)
 yes: ∀i l h,i<j->ls[i]? =some l->np bs pcs l=some h->gK fm ((r2 (eX pcs.length h):Nat):Int)=true/\out[i]? =some (dH fm ((r2 (eX pcs.length h):Nat):Int) 0)
 low: ∀x,gK fm x=true->∃v:Nat,dH fm x 0= ((v:Nat):Int)/\v<j
 inj: ∀x y,gK fm x=true->gK fm y=true->dH fm x 0=dH fm y 0->x=y
theorem Da {bs:List bW} {pcs:List aH} {ls:List cU} (hn:pcs.length+bs.length<=1000000000) (hp:pcs.length<=1073741824) (hbl:bs.length<=1073741824) (hl:ls.length<=1073741824) (hof:fG=ls.map (AY bs pcs r)) (hat:fE=ls.map (fun l=>(np bs pcs l).getD ⟨false,0⟩)) (hN:4398046511104<=N):
  ∃r2 c up fm,cY N bs ls pcs (eP bs pcs) fG fE []=some c/\yZ pcs.length bs.length (eP bs pcs) r2/\HH bs pcs ls r2 ls.length up fm c:=by
 suffices h:Ok (cY N bs ls pcs (eP bs pcs) fG fE []) (fun c=>∃r2 up fm,yZ pcs.length bs.length (eP bs pcs) r2/\HH bs pcs ls r2 ls.length up fm c) by
  obtain⟨c,h1,r2,up,fm,h2,h3⟩:=h
  exact⟨r2,c,up,fm,h1,h2,h3⟩
 unfold cY
 refine Ok.eq (x:=[]) rfl ?_
 rw [wrap_add (by omega)]
 obtain⟨up0,u1,u2⟩:=rM (N:=N) (n:=pcs.length+bs.length) (by omega)
 refine Ok.eq u1 ?_
 simp only [I7]
 refine Ok.bind (zH (n:=pcs.length) (m:=bs.length) (by unfold eP;simp) (yo (by omega)) (by omega) (by omega) u2 hN) ?_
 rintro up1 ⟨r2,v1,v2⟩
 refine Ok.eq (x:=up1) rfl (Ok.eq (qt 0 (by omega)) ?_)
 have jk:fE.length=ls.length:=by rw [hat,eY]
 refine Ok.bind (Ok.iL (fun j (st:List Int×List (Int×Int)×List Int)=>HH bs pcs ls r2 j st.1 st.2.1 st.2.2) (by omega) ⟨v1,by simp,fun i l h=>by omega,fun i l h h1=>by omega,fun x hx=>(by cases hx),fun x y hx=>(by cases hx)⟩ ?_) (fun st I=>Ok.ret ⟨r2,st.1,st.2.1,v2,by rw [<-jk];exact I⟩)
 rintro j ⟨up,fm,out⟩ hj I
 rw [jk] at hj
 dsimp only at I ⊢
 have hx:ls[j]? =some ls[j]:=aJ hj
 have h1:fE[j]? =some ((np bs pcs ls[j]).getD ⟨false,0⟩):=by rw [hat,fP,hx];rfl
 have h2:fG[j]? =some (AY bs pcs r ls[j]):=by rw [hof,fP,hx];rfl
 have h3:out[j]? =some (out[j]'(by rw [I.len];exact hj)):=aJ _
 have hjo:j<out.length:=by rw [I.len];exact hj
 refine Ok.ix h1 ?_
 cases hh:np bs pcs ls[j] with
 | none=>
  have e1:AY bs pcs r ls[j] = -1:=by unfold AY tL;rw [hh];rfl
  refine Ok.eq (x:=0) rfl (Ok.eq (x:=true) (by rw [dD h2,aB,e1];rfl) ?_)
  refine Ok.ix h3 (Ok.ret ?_)
  dsimp only
  rw [bY]
  refine⟨I.uf,by rw [gT];exact I.len,fun i l hi hil hn=>?_,fun i l h hi hil hs=>?_,fun x hx=>?_,I.inj⟩
  ·by_cases e:i=j
   ·subst e;rw [List.getElem?_set_self hjo]
   ·rw [List.getElem?_set_ne (Ne.symm e)];exact I.no i l (by omega) hil hn
  ·by_cases e:i=j
   ·subst e;rw [hx] at hil;injection hil with hil;subst hil;rw [hh] at hs;cases hs
   ·rw [List.getElem?_set_ne (Ne.symm e)];exact I.yes i l h (by omega) hil hs
  ·obtain⟨v,q1,q2⟩:=I.low x hx;exact⟨v,q1,by omega⟩
 | some h=>
  obtain⟨c1,c2⟩:=AR (N:=N) hh hn
  have e1: ∃g:Nat,AY bs pcs r ls[j]= ((g:Nat):Int):=by unfold AY tL;rw [hh];exact⟨_,rfl⟩
  obtain⟨g,e1⟩:=e1
  refine Ok.eq c1 (Ok.eq (x:=false) (by rw [dD h2,aB,e1,bG (show ¬((g:Nat):Int)<0 by omega),aS];rfl) ?_)
  rw [aS]
  obtain⟨up2,t1,t2⟩:=nn (N:=N) I.uf c2 (by omega)
  refine Ok.eq t1 ?_
  dsimp only
  have fin: ∀(up3:List Int) (fm2:List (Int×Int)),UF (pcs.length+bs.length) up3 r2->(∀x,gK fm x=true->gK fm2 x=true/\dH fm2 x 0=dH fm x 0)->gK fm2 ((r2 (eX pcs.length h):Nat):Int)=true->(∀x,gK fm2 x=true->∃v:Nat,dH fm2 x 0= ((v:Nat):Int)/\v<j+1)->(∀x y,gK fm2 x=true->gK fm2 y=true->dH fm2 x 0=dH fm2 y 0->x=y)->
    HH bs pcs ls r2 (j+1) up3 fm2 (out.set j (dH fm2 ((r2 (eX pcs.length h):Nat):Int) 0)):=fun up3 fm2 g1 g2 g3 g4 g5=>by
   refine⟨g1,by rw [gT];exact I.len,fun i l hi hil hn=>?_,fun i l h' hi hil hs=>?_,g4,g5⟩
   ·by_cases e:i=j
    ·subst e;rw [hx] at hil;injection hil with hil;subst hil;rw [hh] at hn;cases hn
    ·rw [List.getElem?_set_ne (Ne.symm e)];exact I.no i l (by omega) hil hn
   ·by_cases e:i=j
    ·subst e;rw [hx] at hil;injection hil with hil;subst hil;rw [hh] at hs;injection hs with hs;subst hs
     exact⟨g3,by rw [List.getElem?_set_self hjo]⟩
    ·obtain⟨q1,q2⟩:=I.yes i l h' (by omega) hil hs
     rw [List.getElem?_set_ne (Ne.symm e),q2,(g2 _ q1).2]
     exact⟨(g2 _ q1).1,rfl⟩
  cases hm:gK fm ((r2 (eX pcs.length h):Nat):Int) with
  | true=>
   rw [lE,aS]
   obtain⟨up3,t3,t4⟩:=nn (N:=N) t2 c2 (by omega)
   refine Ok.eq (x:=(up2,fm)) rfl (Ok.eq t3 (Ok.ix h3 (Ok.ret ?_)))
   dsimp only
   rw [bY]
   exact fin up3 fm t4 (fun x hx=>⟨hx,rfl⟩) hm (fun x hx=>by obtain⟨v,q1,q2⟩:=I.low x hx;exact⟨v,q1,by omega⟩) I.inj
  | false=>
   rw [lF,aR]
   obtain⟨up3,t3,t4⟩:=nn (N:=N) t2 c2 (by omega)
   obtain⟨up4,t5,t6⟩:=nn (N:=N) t4 c2 (by omega)
   refine Ok.eq (x:=(up3,nT fm ((r2 (eX pcs.length h):Nat):Int) ((j:Nat):Int))) (by rw [t3,aB]) (Ok.eq t5 (Ok.ix h3 (Ok.ret ?_)))
   dsimp only
   rw [bY]
   refine fin up4 _ t6 (fun x hx=>?_) (by rw [kg];simp) (fun x hx=>?_) (fun x y hx hy e=>?_)
   ·have hne:x≠((r2 (eX pcs.length h):Nat):Int):=fun e=>by rw [e,hm] at hx;cases hx
    rw [kg,iK,aD hne,hx]
    exact⟨by simp,rfl⟩
   ·rw [iK]
    by_cases e:x= ((r2 (eX pcs.length h):Nat):Int)
    ·rw [aC e];exact⟨j,rfl,by omega⟩
    ·rw [aD e]
     rw [kg,bG e,Bool.false_or] at hx
     obtain⟨v,q1,q2⟩:=I.low x hx;exact⟨v,q1,by omega⟩
   ·rw [iK,iK] at e
    rw [kg] at hx hy
    by_cases ex:x= ((r2 (eX pcs.length h):Nat):Int)
    ·by_cases ey:y= ((r2 (eX pcs.length h):Nat):Int)
     ·rw [ex,ey]
     ·rw [aC ex,aD ey] at e
      rw [bG ey,Bool.false_or] at hy
      obtain⟨v,q1,q2⟩:=I.low y hy
      omega
    ·rw [bG ex,Bool.false_or] at hx
     by_cases ey:y= ((r2 (eX pcs.length h):Nat):Int)
     ·rw [aD ex,aC ey] at e
      obtain⟨v,q1,q2⟩:=I.low x hx
      omega
     ·rw [aD ex,aD ey] at e
      rw [bG ey,Bool.false_or] at hy
      exact I.inj x y hx hy e
theorem HI (b:jc a jB cJ r gs ofP ofB fG fE) {x y:cU} {h h':dQ} (hx:np a.aV (bJ 0 cJ) x=some h) (hy:np a.aV (bJ 0 cJ) y=some h'): (tL a.aV (bJ 0 cJ) r x=tL a.aV (bJ 0 cJ) r y)↔r (eX (bJ 0 cJ).length h)=r (eX (bJ 0 cJ).length h'):=by
 have gp: ∀{z:cU} {h:dQ},np a.aV (bJ 0 cJ) z=some h->(live a.aV (bJ 0 cJ).length ((bJ 0 cJ).length+a.aV.length) r (bX ((bJ 0 cJ).length+a.aV.length) r))[gi a.aV (bJ 0 cJ).length ((bJ 0 cJ).length+a.aV.length) r (r (eX (bJ 0 cJ).length h))]? =some (r (eX (bJ 0 cJ).length h)):=by
  intro z h hz
  obtain⟨k,e,g1,g2⟩:=(C6 hz).num
  have hle:=b.zK.conn.le
  have hrr:=b.zK.conn.rr
  have hd: ∀i,i< (bJ 0 cJ).length+a.aV.length->r i∈bX ((bJ 0 cJ).length+a.aV.length) r:=fun i hi=>iA.2 ⟨jf.2 (by have:=hle i hi;omega),by rw [bP];exact hrr i hi⟩
  unfold eX
  cases hB:h.bW with
  | true=>
   obtain⟨k1,k2⟩:=g1 hB
   rw [aC rfl,e,bY]
   exact(B7 (hd _ (by omega)) (Gy k2 (by omega))).2
  | false=>
   have k1:=g2 hB
   rw [aD ji,e,bY]
   exact(B7 (hd _ (by omega)) (Gx k1 (by omega))).2
 unfold tL
 rw [hx,hy]
 constructor
 ·intro e
  simp only [Option.map_some,Option.some.injEq] at e
  have h1:=gp hx
  have h2:=gp hy
  rw [e,h2] at h1
  injection h1 with h1;exact h1.symm
 ·intro e
  simp only [Option.map_some,Option.some.injEq]
  rw [e]
theorem AU (b:jc a jB cJ r gs ofP ofB fG fE) (h1:eF N a=some (some (a.aL,a.dF,a.aV,a.bH,jB,bJ 0 cJ,eP a.aV (bJ 0 cJ),gs,ofP,ofB,fG,fE),0)) {p q:fW} {i k:Nat} {x y:cU} (ep:kr a p= ((i:Nat):Int)) (hx:a.bH[i]? =some x) (eq:kr a q= ((k:Nat):Int)) (hy:a.bH[k]? =some y) (hN:4398046511104<=N):
  ir N a [] p q=some ((tL a.aV (bJ 0 cJ) r x).isSome&&decide (tL a.aV (bJ 0 cJ) r x=tL a.aV (bJ 0 cJ) r y),0):=by
 have hf:=b.yY.2
 have hbl:=b.Cb.gb.len
 have hlf:=b.rW.yY
 obtain⟨r2,c,up,fm,c1,c2,c3⟩:=Da (N:=N) (r:=r) (fG:=fG) (fE:=fE) (bs:=a.aV) (pcs:=bJ 0 cJ) (ls:=a.bH) (by omega) (by omega) (by omega) (by omega) b.zK.fG b.zK.fE hN
 have hil:=(bC.1 hx).1
 have hkl:=(bC.1 hy).1
 unfold ir
 rw [h1,aB,pT b.rW p hN,pT b.rW q hN]
 simp only [Aa,bne_self_eq_false,aS,aB]
 have hz: ∀(p0:List (List aI)) (p1:List aI) (p2:List bW) (p3:List cU) (p4:List (List aA)) (p5:List aH) (p6:List (List Int)) (p7:List cI) (p8 p9 p10:List Int) (p11:List dQ),jM N p0 p1 p2 p3 p4 p5 p6 p7 p8 p9 p10 p11 []=some 0:=fun _ _ _ _ _ _ _ _ _ _ _ _=>rfl
 rw [hz,aB,bne_self_eq_false,aS,ep,eq,bG (show ¬((i:Nat):Int)<0 by omega),bG (show ¬((k:Nat):Int)<0 by omega),Bool.or_false,aS,c1,aB]
 cases hhx:np a.aV (bJ 0 cJ) x with
 | none=>
  have e1:tL a.aV (bJ 0 cJ) r x=none:=by unfold tL;rw [hhx];rfl
  rw [dD (c3.no i x hil hx hhx),aB,e1];rfl
 | some h=>
  obtain⟨q1,q2⟩:=c3.yes i x h hil hx hhx
  obtain⟨v,v1,_⟩:=c3.low _ q1
  have e1: (tL a.aV (bJ 0 cJ) r x).isSome=true:=by unfold tL;rw [hhx];rfl
  rw [dD q2,aB,v1,cE (show ((v:Nat):Int)>=0 by omega),aR,aB,e1,Bool.true_and]
  cases hhy:np a.aV (bJ 0 cJ) y with
  | none=>
   have e2:tL a.aV (bJ 0 cJ) r y=none:=by unfold tL;rw [hhy];rfl
   rw [dD (c3.no k y hkl hy hhy),aB,aB,bG (fun e=>by rw [e,e2] at e1;cases e1),show ((((v:Nat):Int))== -1)=false from by rw [beq_eq_false_iff_ne];omega]
  | some h'=>
   obtain⟨s1,s2⟩:=c3.yes k y h' hkl hy hhy
   obtain⟨w,w1,_⟩:=c3.low _ s1
   rw [dD s2,aB,w1,aB]
   have t1:=(AR (N:=N) hhx (by omega)).2
   have t2:=(AR (N:=N) hhy (by omega)).2
   have key: (((v:Nat):Int)= ((w:Nat):Int))↔tL a.aV (bJ 0 cJ) r x=tL a.aV (bJ 0 cJ) r y:=by
    rw [HI b hhx hhy,yZ.uniq b.zK.conn c2 t1 t2]
    constructor
    ·intro e
     have:=c3.inj _ _ q1 s1 (by rw [v1,w1];exact e)
     omega
    ·intro e
     rw [e,w1] at v1;exact v1.symm
   congr 2
   rw [gC,beq_iff_eq,bP];exact key
end
def oK:gU:=⟨[[⟨0,0,1,1⟩]],[],[],[⟨⟨[97]⟩,⟨[49]⟩,0,⟨0,0⟩⟩]⟩
def HJ:fW:=⟨⟨[97]⟩,⟨[49]⟩⟩
def qM:aA:=⟨0,1,[0,1]⟩
theorem HK:oY [⟨0,0,1,1⟩] [qM] where
 can:=⟨fun b hb=>by
  have e:b=bR qM:=by simpa using hb
  subst e
  exact⟨by decide,by decide,by unfold lP;decide,by decide⟩,List.pairwise_singleton _ _⟩
 cover:=fun x y=>by
  show mo (if (0:Int)<=y/\y<1 then [0,1] else []) x= ((decide ((0:Int)<=x)&&decide (x<1))&&(decide ((0:Int)<=y)&&decide (y<1))||false)
  by_cases h: (0:Int)<=y/\y<1
  ·rw [aC h,cE h.1,cE h.2]
   unfold mo
   rw [lx,lx,AA]
   by_cases h0: (0:Int)<=x
   ·by_cases h1: (1:Int)<=x
    ·rw [aC h0,aC h1,bG (show ¬x<1 by omega)];simp
    ·rw [aC h0,aD h1,cE h0,cE (show x<1 by omega)];rfl
   ·rw [aD h0,aD (show ¬(1:Int)<=x by omega),bG h0];rfl
  ·rw [aD h]
   have: (decide ((0:Int)<=y)&&decide (y<1))=false:=by
    rw [Bool.eq_false_iff];intro h';rw [bT,bP,bP] at h';exact h h'
   rw [this,Bool.and_false];rfl
 lim:=fun b hb=>by
  have e:b=bR qM:=by simpa using hb
  subst e
  exact⟨by decide,by decide,by decide⟩
theorem Mp:oY [] []:=⟨eK.nil,fun _ _=>rfl,fun b hb=>by cases hb⟩
theorem Mq:ja [⟨0,0,1,1⟩]=0:=o0.2 ⟨by decide,fun k a b h1 h2=>(by cases k <;> simp at h2),⟨_,HK,rfl⟩⟩
theorem Mr:ja []=0:=o0.2 ⟨by decide,fun k a b h1 h2=>(by simp at h2),⟨_,Mp,rfl⟩⟩
theorem I8:vn oK:=⟨by decide,by decide,by decide,by decide,by decide,by
 intro x hx
 have e:x= ⟨⟨[97]⟩,⟨[49]⟩,0,⟨0,0⟩⟩:=by simpa [oK] using hx
 subst e;decide⟩
theorem I9:ju oK=0:=by
 have e1:oK.aL.findSome? y5=none:=by
  show [[(⟨0,0,1,1⟩:aI)]].findSome? y5=none
  have:y5 [⟨0,0,1,1⟩]=none:=by unfold y5;rw [Mq];simp
  simp [this]
 have e2:lC oK=0:=by decide
 have e3:kQ oK=0:=by
  unfold kQ
  have:mW oK.bH.length (k9 oK)=none:=gO.2 fun k hk=>by
   have hk:k<1:=hk
   obtain rfl:k=0:=by omega
   unfold k9
   have hx0:oK.bH[0]? =some ⟨⟨[97]⟩,⟨[49]⟩,0,⟨0,0⟩⟩:=rfl
   rw [hx0,Option.bind_some,aC (by decide),aC (by decide),aD (by rintro⟨h,_⟩;omega)]
  rw [this,aD (by decide)];rfl
 have e4: ¬wy oK:=by
  rintro⟨i,k,x,y,_,h,_⟩
  simp [oK] at h
 unfold ju
 rw [aD (by decide),aD (by decide)]
 unfold GB
 rw [e1]
 show (if ja []≠0 then ja [] else AN oK)=0
 rw [Mr,aD (by simp)]
 unfold AN
 rw [aD (by decide),e2,aD (by simp),e3,aD (by simp),aD e4]
theorem K6 {jB:List (List aA)} {cJ:List (List (List aA))} (D:tJ oK.aL oK.aV oK.aL.length jB cJ):jB= [[qM]]/\cJ= [[[qM]]]:=by
 obtain⟨s,rfl⟩:=List.length_eq_one_iff.1 D.len
 obtain⟨ps,rfl⟩:=List.length_eq_one_iff.1 D.AK
 have hd:=D.dr 0 [⟨0,0,1,1⟩] s (by decide) rfl rfl
 have hs:s= [qM]:=B3 hd.can HK.can fun x y=>by
  rw [hd.cover,HK.cover]
  show (_&& !wv [] x y)=_
  simp [wv]
 subst hs
 obtain⟨u,hu⟩:=D.pt 0 [qM] ps (by decide) rfl rfl
 have u0:u 0=0:=Nat.le_zero.1 (hu.join.le 0 (by decide))
 have hh:bX (aN [qM]).length u= [0]:=by
  show (List.range 1).filter (fun k=>decide (u k=k))= [0]
  simp [List.range_succ,u0]
 obtain⟨p,rfl⟩:=List.length_eq_one_iff.1 (show ps.length=1 by rw [hu.len,hh];rfl)
 have hp:=hu.each 0 0 p (by rw [hh];rfl) rfl
 have hc:l6 (aN [qM]) (aN [qM]).length u 0= [⟨0,0,1,1⟩]:=by
  show ((List.range 1).filter (fun i=>decide (u i=0))).filterMap (fun i=>(aN [qM])[i]?)=_
  simp [List.range_succ,u0];rfl
 rw [hc] at hp
 exact⟨rfl,by rw [hp.unique HK]⟩
section
variable {N:Nat}
theorem HL (hN:4398046511104<=N):dP N=some true:=by
 have key:ir N oK [] HJ HJ=some (true,0):=by
  obtain⟨x,hx,hI⟩:=zJ (N:=N) I8 hN
  rcases hI with ⟨he,_⟩ | ⟨_,hg,hcl,jB,cJ,D,⟨hf,_⟩ | ⟨hf,r,gs,ofP,ofB,fG,fE,hC,rfl⟩⟩
  ·exact absurd I9 he
  ·obtain⟨rfl,rfl⟩:=K6 D
   exact absurd ⟨by decide,by decide⟩ hf
  ·have b:jc oK jB cJ r gs ofP ofB fG fE:=⟨hg,hcl,D,hf,hC⟩
   have e:kr oK HJ= ((0:Nat):Int):=by
    rcases wB oK HJ with ⟨_,h⟩ | ⟨k,x,h,hk,_⟩
    ·exact absurd rfl (h ⟨⟨[97]⟩,⟨[49]⟩,0,⟨0,0⟩⟩ (by simp [oK]))
    ·have:k<1:=(bC.1 hk).1
     rw [h];omega
   have hl:oK.bH[0]? =some ⟨⟨[97]⟩,⟨[49]⟩,0,⟨0,0⟩⟩:=rfl
   rw [AU b hx e hl e hl hN]
   obtain⟨rfl,rfl⟩:=K6 D
   have hh:np oK.aV (bJ 0 [[[qM]]]) ⟨⟨[97]⟩,⟨[49]⟩,0,⟨0,0⟩⟩=some ⟨false,0⟩:=by decide
   unfold tL
   rw [hh];simp
 unfold dP
 have e:ir N (⟨([([(⟨0,0,1,1⟩:aI)]: (List aI))]: (List (List aI))),([]: (List aI)),([]: (List bW)),([(⟨⟨[97]⟩,⟨[49]⟩,0,⟨0,0⟩⟩:cU)]: (List cU))⟩:gU) ([]: (List aT)) (⟨⟨[97]⟩,⟨[49]⟩⟩:fW) (⟨⟨[97]⟩,⟨[49]⟩⟩:fW)=some (true,0):=key
 rw [e,aB];rfl
end
end Go.Gk
namespace Go.Gk
open Go Classical
def vr (n:Nat) (fl:List aT) (v:Nat):Prop:=∃x∈fl,x.Open=true/\eX n x.dQ=v
structure K7 (bs:List bW) (n m:Nat) (fl:List aT):Prop where
 op: ∀x∈fl,x.Open=true->Gw bs n m x.dQ
 br: ∀x∈fl,x.Open=false->∃i k:Nat,x.A= ((i:Nat):Int)/\x.B= ((k:Nat):Int)/\i<k/\k<n
def K8 (n:Nat) (tch:List (List Int)) (fl:List aT) (i j:Nat):Prop:=Lk n tch i j\/∃x∈fl,x.Open=false/\x.A= ((i:Nat):Int)/\x.B= ((j:Nat):Int)
def Le (n:Nat) (tch:List (List Int)) (fl:List aT) (i j:Nat):Prop:=K8 n tch fl i j/\¬vr n fl i/\¬vr n fl j
structure vt (t:Nat) (L:Nat->Nat->Prop) (r:Nat->Nat):Prop where
 le: ∀i,i<t->r i<=i
 rr: ∀i,i<t->r (r i)=r i
 co: ∀i j,L i j->r i=r j
 fi: ∀S:Nat->Prop,(∀i j,L i j->(S i↔S j))->∀i j,i<t->j<t->r i=r j->S i->S j
theorem vt.uniq {t:Nat} {L:Nat->Nat->Prop} {r1 r2:Nat->Nat} (h1:vt t L r1) (h2:vt t L r2) {i j:Nat} (hi:i<t) (hj:j<t):r1 i=r1 j↔r2 i=r2 j:=by
 have key: ∀{r1 r2:Nat->Nat},vt t L r1->vt t L r2->r1 i=r1 j->r2 i=r2 j:=fun{r1 r2} h1 h2 e=>
  (h1.fi (fun x=>r2 i=r2 x) (fun a b hab=>by rw [h2.co a b hab]) i j hi hj e) rfl
 exact⟨key h1 h2,key h2 h1⟩
noncomputable def ox (bs:List bW) (pcs:List aH) (fl:List aT) (l:cU):Option Nat:=(np bs pcs l).bind fun h=>if vr pcs.length fl (eX pcs.length h) then none else some (eX pcs.length h)
section
variable {N:Nat} {r:Nat->Nat} {fG:List Int} {fE:List dQ}
theorem Ja {bs:List bW} {n m:Nat} {h:dQ} (hh:Gw bs n m h) (hn:n+m<=1000000000):f0 N h ((n:Nat):Int)=some ((eX n h:Nat):Int)/\eX n h<n+m:=by
 obtain⟨k,e,h1,h2⟩:=hh.num
 unfold f0 eX
 cases hB:h.bW with
 | true=>
  have:=(h1 hB).1
  rw [aR,aC rfl,e,bY,wrap_add (by omega)]
  exact⟨rfl,by omega⟩
 | false=>
  have:=h2 hB
  rw [aS,aD ji,e,bY]
  exact⟨rfl,by omega⟩
def GY (t:Nat) (L:Nat->Nat->Prop) (op:Nat->Prop) (done:Nat->Nat->Prop) (u:List Int):Prop:=
 ∃r E,UF t u r/\mM r E/\vU t r E/\(∀p∈E,L p.1 p.2/\¬op p.1/\¬op p.2)/\∀i j,done i j->¬op i->¬op j->(i,j)∈E
theorem GY.mono {t:Nat} {L:Nat->Nat->Prop} {op:Nat->Prop} {d d':Nat->Nat->Prop} {u:List Int} (h:GY t L op d u) (hd: ∀i j,d' i j->d i j):GY t L op d' u:=by
 obtain⟨r,E,h1,h2,h3,h4,h5⟩:=h
 exact⟨r,E,h1,h2,h3,h4,fun i j hij=>h5 i j (hd i j hij)⟩
theorem GF {t:Nat} {L:Nat->Nat->Prop} {op:Nat->Prop} {done:Nat->Nat->Prop} {u:List Int} {om:List (Int×Bool)} (hom: ∀v:Nat,dH om ((v:Nat):Int) false=true↔op v) (hI:GY t L op done u) {i k:Nat} (hi:i<t) (hk:k<t) (ht:t<N) (hL:L i k):
  Ok (gN N ((i:Nat):Int) ((k:Nat):Int) om u) (GY t L op (fun a b=>done a b\/(a=i/\b=k))):=by
 obtain⟨r,E,h1,h2,h3,h4,h5⟩:=hI
 have skip:op i\/op k->GY t L op (fun a b=>done a b\/(a=i/\b=k)) u:=fun ho=>⟨r,E,h1,h2,h3,h4,fun a b hab ha hb=>by
  rcases hab with hab | ⟨rfl,rfl⟩
  ·exact h5 a b hab ha hb
  ·rcases ho with ho | ho
   ·exact absurd ho ha
   ·exact absurd ho hb⟩
 unfold gN
 by_cases ho:op i
 ·refine Ok.eq (x:=false) (by rw [(hom i).2 ho];rfl) (Ok.ret (skip (.inl ho)))
 ·have e1:dH om ((i:Nat):Int) false=false:=by rw [Bool.eq_false_iff];exact fun h=>ho ((hom i).1 h)
  by_cases hp:op k
  ·refine Ok.eq (x:=false) (by rw [e1,(hom k).2 hp];rfl) (Ok.ret (skip (.inr hp)))
  ·have e2:dH om ((k:Nat):Int) false=false:=by rw [Bool.eq_false_iff];exact fun h=>hp ((hom k).1 h)
   refine Ok.eq (x:=true) (by rw [e1,e2];rfl) ?_
   obtain⟨u2,a1,a2⟩:=DN (N:=N) h1 hi hk ht
   rw [aR,a1]
   refine Ok.ret ⟨_,_,a2,h2.join i k (h1.rr i hi),h3.join hi hk,fun p hp'=>?_,fun a b hab ha hb=>?_⟩
   ·rcases cS.1 hp' with h | h
    ·exact h4 p h
    ·simp at h;subst h;exact⟨hL,ho,hp⟩
   ·rcases hab with hab | ⟨rfl,rfl⟩
    ·exact List.mem_append_left _ (h5 a b hab ha hb)
    ·simp
structure y6 (bs:List bW) (pcs:List aH) (fl:List aT) (ls:List cU) (r2:Nat->Nat) (j:Nat) (up:List Int) (fm:List (Int×Int)) (out:List Int):Prop where
 uf:UF (pcs.length+bs.length) up r2
 len:out.length=ls.length
 no: ∀i l,i<j->ls[i]? =some l->ox bs pcs fl l=none->out[i]? =some (-1)
 yes: ∀i l v,i<j->ls[i]? =some l->ox bs pcs fl l=some v->gK fm ((r2 v:Nat):Int)=true/\out[i]? =some (dH fm ((r2 v:Nat):Int) 0)
 low: ∀x,gK fm x=true->∃(v:Nat) (l:cU) (u:Nat),dH fm x 0= ((v:Nat):Int)/\v<j/\ls[v]? =some l/\ox bs pcs fl l=some u/\((r2 u:Nat):Int)=x
 inj: ∀x y,gK fm x=true->gK fm y=true->dH fm x 0=dH fm y 0->x=y
 le: ∀(i v:Nat),out[i]? =some ((v:Nat):Int)->v<=i
theorem Cg {bs:List bW} {pcs:List aH} {ls:List cU} {fl:List aT} (hfl:K7 bs pcs.length bs.length fl) (hfn:fl.length<=1073741824) (hn:pcs.length+bs.length<=1000000000) (hp:pcs.length<=1073741824) (hbl:bs.length<=1073741824) (hl:ls.length<=1073741824) (hof:fG=ls.map (AY bs pcs r)) (hat:fE=ls.map (fun l=>(np bs pcs l).getD ⟨false,0⟩)) (hN:4398046511104<=N):
  ∃r2 c up fm,cY N bs ls pcs (eP bs pcs) fG fE fl=some c/\vt (pcs.length+bs.length) (Le pcs.length (eP bs pcs) fl) r2/\y6 bs pcs fl ls r2 ls.length up fm c:=by
 suffices h:Ok (cY N bs ls pcs (eP bs pcs) fG fE fl) (fun c=>∃r2 up fm,vt (pcs.length+bs.length) (Le pcs.length (eP bs pcs) fl) r2/\y6 bs pcs fl ls r2 ls.length up fm c) by
  obtain⟨c,h1,r2,up,fm,h2,h3⟩:=h
  exact⟨r2,c,up,fm,h1,h2,h3⟩
 unfold cY
 refine Ok.bind (Ok.iL (fun q om=>∀v:Nat,dH om ((v:Nat):Int) false=true↔vr pcs.length (fl.take q) v) (by omega) (fun v=>⟨fun h=>(by cases h),fun⟨x,hx,_⟩=>(by simp at hx)⟩) (fun q om hq hI=>?_)) ?_
 ·have hx:fl[q]? =some fl[q]:=aJ hq
  have hts:=eM hq
  refine Ok.ix hx ?_
  cases ho:fl[q].Open with
  | true=>
   obtain⟨c1,_⟩:=Ja (N:=N) (hfl.op _ (cP hq) ho) hn
   refine Ok.eq (x:=nT om ((eX pcs.length fl[q].dQ:Nat):Int) true) (by rw [aR,c1,aB]) (Ok.ret fun v=>?_)
   rw [iK,hts]
   by_cases e: ((v:Nat):Int)= ((eX pcs.length fl[q].dQ:Nat):Int)
   ·rw [aC e]
    exact⟨fun _=>⟨fl[q],List.mem_append_right _ (tX.2 rfl),ho,by omega⟩,fun _=>rfl⟩
   ·rw [aD e,hI v]
    constructor
    ·rintro⟨x,hx,h1,h2⟩;exact⟨x,List.mem_append_left _ hx,h1,h2⟩
    ·rintro⟨x,hx,h1,h2⟩
     rcases cS.1 hx with hx | hx
     ·exact⟨x,hx,h1,h2⟩
     ·simp at hx;subst hx;exact absurd (by rw [h2]) e
  | false=>
   refine Ok.eq (x:=om) rfl (Ok.ret fun v=>?_)
   rw [hI v,hts]
   constructor
   ·rintro⟨x,hx,h1,h2⟩;exact⟨x,List.mem_append_left _ hx,h1,h2⟩
   ·rintro⟨x,hx,h1,h2⟩
    rcases cS.1 hx with hx | hx
    ·exact⟨x,hx,h1,h2⟩
    ·simp at hx;subst hx;rw [ho] at h1;cases h1
 intro om hom
 rw [eD] at hom
 rw [wrap_add (by omega)]
 obtain⟨up0,u1,u2⟩:=rM (N:=N) (n:=pcs.length+bs.length) (by omega)
 refine Ok.eq u1 ?_
 have htl: (eP bs pcs).length=bs.length:=by unfold eP;simp
 have hto:=yo (bs:=bs) (pcs:=pcs) (by omega)
 refine Ok.bind (Ok.iL (fun q u=>GY (pcs.length+bs.length) (K8 pcs.length (eP bs pcs) fl) (vr pcs.length fl) (fun a b=>∃k l,k<q/\(eP bs pcs)[k]? =some l/\((a:Nat):Int)∈l/\b=pcs.length+k) u) (by omega)
  ⟨_,_,u2,mM.id,vU.id _,fun p hp=>(by cases hp),fun i j ⟨k,l,hk,_⟩=>by omega⟩ (fun q u hq hI=>?_)) ?_
 ·have hqx: (eP bs pcs)[q]? =some (eP bs pcs)[q]:=aJ hq
  obtain⟨hl1,hl2⟩:=hto _ (cP hq)
  refine Ok.ix hqx ?_
  rw [wrap_add (by omega)]
  refine Ok.bind (Ok.iL (fun t u=>GY (pcs.length+bs.length) (K8 pcs.length (eP bs pcs) fl) (vr pcs.length fl) (fun a b=>(∃k l,k<q/\(eP bs pcs)[k]? =some l/\((a:Nat):Int)∈l/\b=pcs.length+k)\/(((a:Nat):Int)∈(eP bs pcs)[q].take t/\b=pcs.length+q)) u) (by omega)
   (hI.mono fun i j h=>by rcases h with h | ⟨h,_⟩;exact h;simp at h) (fun t u ht hJ=>?_)) (fun u hJ=>Ok.ret (hJ.mono fun i j ⟨k,l,hk,h1,h2,h3⟩=>?_))
  ·have htx: (eP bs pcs)[q][t]? =some (eP bs pcs)[q][t]:=aJ ht
   obtain⟨i,hi,e⟩:=hl2 _ (cP ht)
   refine Ok.ix htx ?_
   rw [e]
   refine Ok.bind (GF hom hJ (i:=i) (k:=pcs.length+q) (by omega) (by omega) (by omega) (.inl ⟨q,_,hqx,by rw [<-e];exact cP ht,rfl⟩)) (fun u2 hu2=>Ok.ret (hu2.mono fun a b h=>?_))
   rw [eM ht] at h
   rcases h with h | ⟨h,hb⟩
   ·exact .inl (.inl h)
   ·rcases cS.1 h with h | h
    ·exact .inl (.inr ⟨h,hb⟩)
    ·rw [tX,e] at h;exact .inr ⟨by omega,hb⟩
  ·by_cases hkq:k<q
   ·exact .inl ⟨k,l,hkq,h1,h2,h3⟩
   ·have:k=q:=by omega
    subst this
    rw [hqx] at h1;injection h1 with h1;subst h1
    exact .inr ⟨by rw [eD];exact h2,h3⟩
 intro u3 h3
 refine Ok.bind (Ok.iL (fun q u=>GY (pcs.length+bs.length) (K8 pcs.length (eP bs pcs) fl) (vr pcs.length fl) (fun a b=>Lk pcs.length (eP bs pcs) a b\/∃x∈fl.take q,x.Open=false/\x.A= ((a:Nat):Int)/\x.B= ((b:Nat):Int)) u) (by omega)
  (h3.mono fun i j h=>by
   rcases h with ⟨k,l,h1,h2,h3⟩ | ⟨x,hx,_⟩
   ·exact⟨k,l,(bC.1 h1).1,h1,h2,h3⟩
   ·simp at hx) (fun q u hq hI=>?_)) ?_
 ·have hx:fl[q]? =some fl[q]:=aJ hq
  have hts:=eM hq
  refine Ok.ix hx ?_
  cases ho:fl[q].Open with
  | true=>
   refine Ok.eq (x:=u) rfl (Ok.ret (hI.mono fun a b h=>?_))
   rw [hts] at h
   rcases h with h | ⟨x,hx,h1,h2⟩
   ·exact .inl h
   ·rcases cS.1 hx with hx | hx
    ·exact .inr ⟨x,hx,h1,h2⟩
    ·simp at hx;subst hx;rw [ho] at h1;cases h1
  | false=>
   obtain⟨i,k,e1,e2,e3,e4⟩:=hfl.br _ (cP hq) ho
   rw [lF,aR,e1,e2]
   refine Ok.bind (P:=GY (pcs.length+bs.length) (K8 pcs.length (eP bs pcs) fl) (vr pcs.length fl) (fun a b=>(Lk pcs.length (eP bs pcs) a b\/∃x∈fl.take q,x.Open=false/\x.A= ((a:Nat):Int)/\x.B= ((b:Nat):Int))\/(a=i/\b=k))) (Ok.bind (GF hom hI (i:=i) (k:=k) (by omega) (by omega) (by omega) (.inr ⟨fl[q],cP hq,ho,e1,e2⟩)) (fun u2 hu2=>Ok.ret hu2)) (fun u2 hu2=>Ok.ret (hu2.mono fun a b h=>?_))
   rw [hts] at h
   rcases h with h | ⟨x,hx,h1,h2,h3⟩
   ·exact .inl (.inl h)
   ·rcases cS.1 hx with hx | hx
    ·exact .inl (.inr ⟨x,hx,h1,h2,h3⟩)
    ·simp at hx;subst hx
     rw [e1] at h2;rw [e2] at h3
     exact .inr ⟨by omega,by omega⟩
 rintro up1 ⟨r2,E,v1,v2,v3,v4,v5⟩
 rw [eD] at v5
 have hC:vt (pcs.length+bs.length) (Le pcs.length (eP bs pcs) fl) r2:=
  ⟨v1.le,v1.rr,fun i j h=>v2 (i,j) (v5 i j h.1 h.2.1 h.2.2),fun S hS i j hi hj=>v3 S (fun p hp=>hS p.1 p.2 (v4 p hp)) i j hi hj⟩
 refine Ok.eq (qt 0 (by omega)) ?_
 have jk:fE.length=ls.length:=by rw [hat,eY]
 refine Ok.bind (Ok.iL (fun j (st:List Int×List (Int×Int)×List Int)=>y6 bs pcs fl ls r2 j st.1 st.2.1 st.2.2) (by omega) ⟨v1,by simp,fun i l h=>by omega,fun i l h h1=>by omega,fun x hx=>(by cases hx),fun x y hx=>(by cases hx),fun i v hv=>by rw [List.getElem?_replicate] at hv;split at hv;injection hv with hv;omega;cases hv⟩ ?_) (fun st I=>Ok.ret ⟨r2,st.1,st.2.1,hC,by rw [<-jk];exact I⟩)
 rintro j ⟨up,fm,out⟩ hj I
 rw [jk] at hj
 dsimp only at I ⊢
 have hx:ls[j]? =some ls[j]:=aJ hj
 have h1:fE[j]? =some ((np bs pcs ls[j]).getD ⟨false,0⟩):=by rw [hat,fP,hx];rfl
 have h2:fG[j]? =some (AY bs pcs r ls[j]):=by rw [hof,fP,hx];rfl
 have h3:out[j]? =some (out[j]'(by rw [I.len];exact hj)):=aJ _
 have hjo:j<out.length:=by rw [I.len];exact hj
 have hx0:=hx
 have dead:ox bs pcs fl ls[j]=none->y6 bs pcs fl ls r2 (j+1) up fm (out.set j (-1)):=fun hnd=>by
  refine⟨I.uf,by rw [gT];exact I.len,fun i l hi hil hn=>?_,fun i l v hi hil hs=>?_,fun x hx=>?_,I.inj,fun i v hv=>?_⟩
  ·by_cases e:i=j
   ·subst e;rw [List.getElem?_set_self hjo]
   ·rw [List.getElem?_set_ne (Ne.symm e)];exact I.no i l (by omega) hil hn
  ·by_cases e:i=j
   ·subst e;rw [hx] at hil;injection hil with hil;subst hil;rw [hnd] at hs;cases hs
   ·rw [List.getElem?_set_ne (Ne.symm e)];exact I.yes i l v (by omega) hil hs
  ·obtain⟨v,l,u,q1,q2,q3⟩:=I.low x hx;exact⟨v,l,u,q1,by omega,q3⟩
  ·by_cases e:i=j
   ·subst e;rw [List.getElem?_set_self hjo] at hv;injection hv with hv;omega
   ·rw [List.getElem?_set_ne (Ne.symm e)] at hv;exact I.le i v hv
 refine Ok.ix h1 ?_
 cases hh:np bs pcs ls[j] with
 | none=>
  have e1:AY bs pcs r ls[j] = -1:=by unfold AY tL;rw [hh];rfl
  refine Ok.eq (x:=0) rfl (Ok.eq (x:=true) (by rw [dD h2,aB,e1];rfl) ?_)
  refine Ok.ix h3 (Ok.ret ?_)
  dsimp only
  rw [bY]
  exact dead (by unfold ox;rw [hh];rfl)
 | some h=>
  obtain⟨c1,c2⟩:=AR (N:=N) hh hn
  have e1: ∃g:Nat,AY bs pcs r ls[j]= ((g:Nat):Int):=by unfold AY tL;rw [hh];exact⟨_,rfl⟩
  obtain⟨g,e1⟩:=e1
  refine Ok.eq c1 ?_
  by_cases hop:vr pcs.length fl (eX pcs.length h)
  ·refine Ok.eq (x:=true) (by rw [dD h2,aB,e1,bG (show ¬((g:Nat):Int)<0 by omega),aS,(hom _).2 hop]) ?_
   refine Ok.ix h3 (Ok.ret ?_)
   dsimp only
   rw [bY]
   exact dead (by unfold ox;rw [hh,Option.bind_some,aC hop])
  have hnd:ox bs pcs fl ls[j]=some (eX pcs.length h):=by unfold ox;rw [hh,Option.bind_some,aD hop]
  refine Ok.eq (x:=false) (by rw [dD h2,aB,e1,bG (show ¬((g:Nat):Int)<0 by omega),aS];rw [Bool.eq_false_iff.2 fun h=>hop ((hom _).1 h)]) ?_
  rw [aS]
  obtain⟨up2,t1,t2⟩:=nn (N:=N) I.uf c2 (by omega)
  refine Ok.eq t1 ?_
  dsimp only
  have fin: ∀(up3:List Int) (fm2:List (Int×Int)),UF (pcs.length+bs.length) up3 r2->(∀x,gK fm x=true->gK fm2 x=true/\dH fm2 x 0=dH fm x 0)->gK fm2 ((r2 (eX pcs.length h):Nat):Int)=true->(∀x,gK fm2 x=true->∃(v:Nat) (l:cU) (u:Nat),dH fm2 x 0= ((v:Nat):Int)/\v<j+1/\ls[v]? =some l/\ox bs pcs fl l=some u/\((r2 u:Nat):Int)=x)->(∀x y,gK fm2 x=true->gK fm2 y=true->dH fm2 x 0=dH fm2 y 0->x=y)->
    y6 bs pcs fl ls r2 (j+1) up3 fm2 (out.set j (dH fm2 ((r2 (eX pcs.length h):Nat):Int) 0)):=fun up3 fm2 g1 g2 g3 g4 g5=>by
   refine⟨g1,by rw [gT];exact I.len,fun i l hi hil hn=>?_,fun i l h' hi hil hs=>?_,g4,g5,fun i v hv=>?_⟩
   ·by_cases e:i=j
    ·subst e;rw [hx] at hil;injection hil with hil;subst hil;rw [hnd] at hn;cases hn
    ·rw [List.getElem?_set_ne (Ne.symm e)];exact I.no i l (by omega) hil hn
   ·by_cases e:i=j
    ·subst e;rw [hx] at hil;injection hil with hil;subst hil;rw [hnd] at hs;injection hs with hs;subst hs
     exact⟨g3,by rw [List.getElem?_set_self hjo]⟩
    ·obtain⟨q1,q2⟩:=I.yes i l h' (by omega) hil hs
     rw [List.getElem?_set_ne (Ne.symm e),q2,(g2 _ q1).2]
     exact⟨(g2 _ q1).1,rfl⟩
   ·by_cases e:i=j
    ·subst e
     rw [List.getElem?_set_self hjo] at hv;injection hv with hv
     obtain⟨v',_,_,q1,q2,_⟩:=g4 _ g3
     rw [q1] at hv;omega
    ·rw [List.getElem?_set_ne (Ne.symm e)] at hv;exact I.le i v hv
  cases hm:gK fm ((r2 (eX pcs.length h):Nat):Int) with
  | true=>
   rw [lE,aS]
   obtain⟨up3,t3,t4⟩:=nn (N:=N) t2 c2 (by omega)
   refine Ok.eq (x:=(up2,fm)) rfl (Ok.eq t3 (Ok.ix h3 (Ok.ret ?_)))
   dsimp only
   rw [bY]
   exact fin up3 fm t4 (fun x hx=>⟨hx,rfl⟩) hm (fun x hx=>by obtain⟨v,l,u,q1,q2,q3⟩:=I.low x hx;exact⟨v,l,u,q1,by omega,q3⟩) I.inj
  | false=>
   rw [lF,aR]
   obtain⟨up3,t3,t4⟩:=nn (N:=N) t2 c2 (by omega)
   obtain⟨up4,t5,t6⟩:=nn (N:=N) t4 c2 (by omega)
   refine Ok.eq (x:=(up3,nT fm ((r2 (eX pcs.length h):Nat):Int) ((j:Nat):Int))) (by rw [t3,aB]) (Ok.eq t5 (Ok.ix h3 (Ok.ret ?_)))
   dsimp only
   rw [bY]
   refine fin up4 _ t6 (fun x hx=>?_) (by rw [kg];simp) (fun x hx=>?_) (fun x y hx hy e=>?_)
   ·have hne:x≠((r2 (eX pcs.length h):Nat):Int):=fun e=>by rw [e,hm] at hx;cases hx
    rw [kg,iK,aD hne,hx]
    exact⟨by simp,rfl⟩
   ·rw [iK]
    by_cases e:x= ((r2 (eX pcs.length h):Nat):Int)
    ·rw [aC e];exact⟨j,ls[j],_,rfl,by omega,hx0,hnd,e.symm⟩
    ·rw [aD e]
     rw [kg,bG e,Bool.false_or] at hx
     obtain⟨v,l,u,q1,q2,q3⟩:=I.low x hx;exact⟨v,l,u,q1,by omega,q3⟩
   ·rw [iK,iK] at e
    rw [kg] at hx hy
    by_cases ex:x= ((r2 (eX pcs.length h):Nat):Int)
    ·by_cases ey:y= ((r2 (eX pcs.length h):Nat):Int)
     ·rw [ex,ey]
     ·rw [aC ex,aD ey] at e
      rw [bG ey,Bool.false_or] at hy
      obtain⟨v,_,_,q1,q2,_⟩:=I.low y hy
      omega
    ·rw [bG ex,Bool.false_or] at hx
     by_cases ey:y= ((r2 (eX pcs.length h):Nat):Int)
     ·rw [aD ex,aC ey] at e
      obtain⟨v,_,_,q1,q2,_⟩:=I.low x hx
      omega
     ·rw [aD ex,aD ey] at e
      rw [bG ey,Bool.false_or] at hy
      exact I.inj x y hx hy e
def Ij (n:Nat) (k:Int):Bool:=decide (k>=0)&&decide (k<=((n:Nat):Int) - 1)
def tM (bs:List bW) (n:Nat) (x:aT):Bool:=bif x.Open then (bif x.dQ.bW then Ij bs.length x.dQ.Number&&vj bs x.dQ.Number.toNat else Ij n x.dQ.Number) else Ij n x.A&&Ij n x.B
def Ik (x:aT):Bool:=bif x.Open then x.A != 0||x.B != 0 else !decide (x.dQ= ⟨false,0⟩)
def yw (bs:List bW) (n:Nat) (fl:List aT) (k:Nat):Option Int:=(fl[k]?).bind fun x=>
 if Ik x=true then some 3 else if tM bs n x=false then some 9 else if (!x.Open&&decide (x.B<=x.A))=true then some 8 else if x∈fl.take k then some 7 else none
def pq (bs:List bW) (n:Nat) (fl:List aT):Int:=if 20<fl.length then 2 else (mW fl.length (yw bs n fl)).getD 0
theorem Ch {bs:List bW} {n:Nat} {fl:List aT} (h:pq bs n fl=0):fl.length<=20/\K7 bs n bs.length fl:=by
 unfold pq at h
 split at h
 ·cases h
 rename_i h20
 have hn: ∀k,k<fl.length->yw bs n fl k=none:=by
  cases hf:mW fl.length (yw bs n fl) with
  | none=>exact gO.1 hf
  | some e=>
   rw [hf] at h
   obtain⟨k,hk,he,_⟩:=iI.1 hf
   have h:e=0:=h
   subst h
   unfold yw at he
   rw [aJ hk,Option.bind_some] at he
   repeat' split at he
   all_goals (first | (injection he with he;omega) | cases he)
 have hx: ∀x∈fl,tM bs n x=true/\(x.Open=false->x.A<x.B):=fun x hx=>by
  obtain⟨k,hk,rfl⟩:=List.mem_iff_getElem.1 hx
  have:=hn k hk
  unfold yw at this
  rw [aJ hk,Option.bind_some] at this
  split at this
  ·cases this
  ·split at this
   ·cases this
   ·rename_i h2
    split at this
    ·cases this
    ·rename_i h3
     refine⟨by simpa using h2,fun ho=>?_⟩
     rw [ho,lF,Bool.true_and,bP] at h3
     omega
 have inp: ∀{n:Nat} {k:Int},Ij n k=true->∃j:Nat,k= ((j:Nat):Int)/\j<n:=fun{n k} h=>by
  unfold Ij at h
  rw [bT,bP,bP] at h
  exact⟨k.toNat,by omega,by omega⟩
 refine⟨by omega,fun x hm ho=>?_,fun x hm ho=>?_⟩
 ·obtain⟨h1,_⟩:=hx x hm
  unfold tM at h1
  rw [ho,aR] at h1
  cases hB:x.dQ.bW with
  | true=>
   rw [hB,aR,bT] at h1
   obtain⟨j,e,hj⟩:=inp h1.1
   refine⟨j,e,fun _=>⟨hj,?_⟩,fun h=>(by rw [hB] at h;cases h)⟩
   rw [e,bY] at h1;exact h1.2
  | false=>
   rw [hB,aS] at h1
   obtain⟨j,e,hj⟩:=inp h1
   exact⟨j,e,fun h=>(by rw [hB] at h;cases h),fun _=>hj⟩
 ·obtain⟨h1,h2⟩:=hx x hm
  unfold tM at h1
  rw [ho,aS,bT] at h1
  obtain⟨i,e1,hi⟩:=inp h1.1
  obtain⟨k,e2,hk⟩:=inp h1.2
  have:=h2 ho
  exact⟨i,k,e1,e2,by omega,hk⟩
end
end Go.Gk
namespace Go.Gk
open Go Classical
structure GG (c:List Int):Prop where
 neg: ∀(i:Nat) (x:Int),c[i]? =some x->x<0->x = -1
 own: ∀(i v:Nat),c[i]? =some ((v:Nat):Int)->c[v]? =some ((v:Nat):Int)
def Ci (c:List Int) (i k:Nat):Bool:=decide (c.getD i (-1)>=0)&&c.getD i (-1)==c.getD k (-1)
def mD (c:List Int) (i:Nat):Int:=if c.getD i (-1)<0 then ((i:Nat):Int) else c.getD i (-1)
section
variable {r:Nat->Nat}
theorem y6.first {bs:List bW} {pcs:List aH} {fl:List aT} {ls:List cU} {r2:Nat->Nat} {up:List Int} {fm:List (Int×Int)} {c:List Int} (h:y6 bs pcs fl ls r2 ls.length up fm c):GG c where
 neg:=fun i x hx h0=>by
  have hi:=(bC.1 hx).1
  rw [h.len] at hi
  have hl:ls[i]? =some ls[i]:=aJ hi
  cases hn:ox bs pcs fl ls[i] with
  | none=>have:=h.no i _ hi hl hn;rw [hx] at this;injection this
  | some u=>
   obtain⟨q1,q2⟩:=h.yes i _ u hi hl hn
   obtain⟨v,_,_,q3,_⟩:=h.low _ q1
   rw [hx,q3] at q2;injection q2 with q2;omega
 own:=fun i v hx=>by
  have hi:=(bC.1 hx).1
  rw [h.len] at hi
  have hl:ls[i]? =some ls[i]:=aJ hi
  cases hn:ox bs pcs fl ls[i] with
  | none=>have:=h.no i _ hi hl hn;rw [hx] at this;injection this with this;omega
  | some u=>
   obtain⟨q1,q2⟩:=h.yes i _ u hi hl hn
   obtain⟨v',l',u',q3,q4,q5,q6,q7⟩:=h.low _ q1
   have e:v=v':=by rw [hx,q3] at q2;injection q2 with q2;omega
   subst e
   obtain⟨s1,s2⟩:=h.yes v l' u' q4 q5 q6
   rw [q7,q3] at s2;exact s2
theorem y6.conn {bs:List bW} {pcs:List aH} {fl:List aT} {ls:List cU} {r2:Nat->Nat} {up:List Int} {fm:List (Int×Int)} {c:List Int} (h:y6 bs pcs fl ls r2 ls.length up fm c) {i k:Nat} {x y:cU} (hx:ls[i]? =some x) (hy:ls[k]? =some y):
  Ci c i k=true↔∃u v,ox bs pcs fl x=some u/\ox bs pcs fl y=some v/\r2 u=r2 v:=by
 have hi:=(bC.1 hx).1
 have hk:=(bC.1 hy).1
 unfold Ci
 rw [bT,bP,beq_iff_eq,List.getD_eq_getElem?_getD,List.getD_eq_getElem?_getD]
 cases hn:ox bs pcs fl x with
 | none=>
  rw [h.no i x hi hx hn,Option.getD_some]
  exact⟨fun h=>absurd h.1 (by decide),fun⟨u,v,e,_⟩=>(by cases e)⟩
 | some u=>
  obtain⟨q1,q2⟩:=h.yes i x u hi hx hn
  obtain⟨a,_,_,q3,_⟩:=h.low _ q1
  rw [q2,Option.getD_some,q3]
  cases hm:ox bs pcs fl y with
  | none=>
   rw [h.no k y hk hy hm,Option.getD_some]
   exact⟨fun h=>absurd h.2 (by omega),fun⟨u,v,_,e,_⟩=>(by cases e)⟩
  | some v=>
   obtain⟨s1,s2⟩:=h.yes k y v hk hy hm
   obtain⟨b,_,_,s3,_⟩:=h.low _ s1
   rw [s2,Option.getD_some,s3]
   constructor
   ·rintro⟨_,e⟩
    have:=h.inj _ _ q1 s1 (by rw [q3,s3];exact e)
    exact⟨u,v,rfl,rfl,by omega⟩
   ·rintro⟨u',v',e1,e2,e3⟩
    injection e1 with e1;injection e2 with e2
    subst e1;subst e2
    rw [e3,s3] at q3
    exact⟨by omega,q3.symm⟩
end
end Go.Gk
namespace Go.Gk
open Go Classical
section
variable {N:Nat} {a:gU} {jB:List (List aA)} {cJ:List (List (List aA))} {r:Nat->Nat} {gs:List cI} {ofP ofB fG:List Int} {fE:List dQ}
theorem GH (b:jc a jB cJ r gs ofP ofB fG fE) {fl:List aT} (h0:pq a.aV (bJ 0 cJ).length fl=0) (hN:4398046511104<=N):
  ∃r2 c up fm,cY N a.aV a.bH (bJ 0 cJ) (eP a.aV (bJ 0 cJ)) fG fE fl=some c/\vt ((bJ 0 cJ).length+a.aV.length) (Le (bJ 0 cJ).length (eP a.aV (bJ 0 cJ)) fl) r2/\y6 a.aV (bJ 0 cJ) fl a.bH r2 a.bH.length up fm c:=by
 have hf:=b.yY.2
 have hbl:=b.Cb.gb.len
 have hlf:=b.rW.yY
 obtain⟨h20,hok⟩:=Ch h0
 exact Cg (N:=N) (r:=r) hok (by omega) (by omega) (by omega) (by omega) (by omega) b.zK.fG b.zK.fE hN
end
end Go.Gk
namespace Go.Gk
open Go Classical
def Db (a0 a1 b0 b1:Int):Int:=max (max 0 (b0 - a1+1)) (a0 - b1+1)
def v9 (a b:aI):Int:=max (Db a.X0 a.X1 b.X0 b.X1) (Db a.Y0 a.Y1 b.Y0 b.Y1)
def y7 (s:Int) (x:aI) (b:List aI):Int:=b.foldl (fun s y=>if s<0\/v9 x y<s then v9 x y else s) s
def tN (a b:List aI):Int:=a.foldl (fun s x=>y7 s x b) (-1)
theorem GI {a0 a1 b0 b1:Int} (h0: -1000000<=a0/\a0<=1000000) (h1: -1000000<=a1/\a1<=1000000) (h2: -1000000<=b0/\b0<=1000000) (h3: -1000000<=b1/\b1<=1000000):0<=Db a0 a1 b0 b1/\Db a0 a1 b0 b1<=2000001:=by
 unfold Db;omega
theorem Jb {a b:aI} (ha:cZ a=true) (hb:cZ b=true):0<=v9 a b/\v9 a b<=2000001:=by
 obtain⟨a1,a2,a3,a4⟩:=gZ ha
 obtain⟨b1,b2,b3,b4⟩:=gZ hb
 have:=GI a1 a3 b1 b3
 have:=GI a2 a4 b2 b4
 unfold v9;omega
theorem DY {x:aI} {s:Int} (hx:cZ x=true): ∀(b:List aI),(∀y∈b,cZ y=true)->∀{s:Int},-1<=s/\s<=2000001-> -1<=y7 s x b/\y7 s x b<=2000001
 | [],_,s,h=>h
 | y::b,hb,s,h=>by
  have hf:=Jb hx (hb y (List.mem_cons_self ..))
  unfold y7
  rw [List.foldl_cons]
  refine DY (s:=s) hx b (fun z hz=>hb z (jh _ hz)) ?_
  split <;> omega
theorem HM {a b:List aI} (ha: ∀y∈a,cZ y=true) (hb: ∀y∈b,cZ y=true): -1<=tN a b/\tN a b<=2000001:=by
 have key: ∀(a:List aI),(∀y∈a,cZ y=true)->∀{s:Int},-1<=s/\s<=2000001-> -1<=a.foldl (fun s x=>y7 s x b) s/\a.foldl (fun s x=>y7 s x b) s<=2000001:=by
  intro a
  induction a with
  | nil=>intro _ s h;exact h
  | cons x a ih=>
   intro ha s h
   rw [List.foldl_cons]
   exact ih (fun z hz=>ha z (jh _ hz)) (DY (s:=s) (ha x (List.mem_cons_self ..)) b hb h)
 exact key a ha ⟨by omega,by omega⟩
section
variable {N:Nat}
theorem yx {a0 a1 b0 b1:Int} (h0: -1000000<=a0/\a0<=1000000) (h1: -1000000<=a1/\a1<=1000000) (h2: -1000000<=b0/\b0<=1000000) (h3: -1000000<=b1/\b1<=1000000):iF N a0 a1 b0 b1=some (Db a0 a1 b0 b1):=by
 unfold iF Db
 rw [mT (n:=b0 - a1) (by omega),mT (n:=b0 - a1+1) (by omega),mT (n:=a0 - b1) (by omega),mT (n:=a0 - b1+1) (by omega),AO,AO]
theorem GJ {a b:aI} (ha:cZ a=true) (hb:cZ b=true):jJ N a b=some (v9 a b):=by
 obtain⟨a1,a2,a3,a4⟩:=gZ ha
 obtain⟨b1,b2,b3,b4⟩:=gZ hb
 unfold jJ v9
 rw [yx a1 a3 b1 b3,aB,yx a2 a4 b2 b4,aB,AO]
theorem GK (a b:aI): ∃n,jJ N a b=some n:=⟨_,rfl⟩
theorem zN (a b:aI) (n:Int): ∃p,nV N a b n=some p:=⟨_,rfl⟩
theorem zO (p q:eV): ∃c,nW N p q=some c:=⟨_,rfl⟩
theorem GL {a b:List aI} (jk:a.length<=1000000) (hbl:b.length<=1000000) (ha: ∀y∈a,cZ y=true) (hb: ∀y∈b,cZ y=true): ∃g,lT N a b=some g/\g.iv=tN a b - 1:=by
 have hd:=HM ha hb
 suffices h:Ok (lT N a b) (fun g=>g.iv=tN a b - 1) from h
 unfold lT
 refine Ok.bind (Ok.iL (fun k s=>s= (a.take k).foldl (fun s x=>y7 s x b) (-1)) (by omega) rfl (fun k s hk e=>?_)) (fun s e=>?_)
 ·have hx:a[k]? =some a[k]:=aJ hk
  refine Ok.ix hx (Ok.bind (Ok.iL (fun j t=>t=y7 s a[k] (b.take j)) (by omega) rfl (fun j t hj et=>?_)) (fun t et=>Ok.ret ?_))
  ·have hy:b[j]? =some b[j]:=aJ hj
   refine Ok.ix hy (Ok.eq (GJ (ha _ (cP hk)) (hb _ (cP hj))) ?_)
   have e2:y7 s a[k] (b.take (j+1))=if t<0\/v9 a[k] b[j]<t then v9 a[k] b[j] else t:=by
    unfold y7 at et ⊢
    rw [eM hj,List.foldl_append,<-et];rfl
   rw [e2]
   by_cases hc:t<0\/v9 a[k] b[j]<t
   ·rw [aC hc,show (decide (t<0)||decide (v9 a[k] b[j]<t))=true by rw [dU,bP,bP];exact hc]
    exact Ok.ret rfl
   ·rw [aD hc,show (decide (t<0)||decide (v9 a[k] b[j]<t))=false by rw [Bool.or_eq_false_iff,decide_eq_false_iff_not,decide_eq_false_iff_not];omega]
    exact Ok.ret rfl
  ·rw [et,eD,eM hk,List.foldl_append,<-e];rfl
 rw [eD] at e
 have e:s=tN a b:=e
 subst e
 rw [mT (by omega)]
 refine Ok.bind (Ok.iL (fun k (st:pZ×Bool)=>st.1.iv=tN a b - 1) (by omega) rfl (fun k st hk I=>?_)) (fun st I=>?_)
 ·have hx:a[k]? =some a[k]:=aJ hk
  refine Ok.ix hx (Ok.bind (Ok.iL (fun j (st:pZ×Bool)=>st.1.iv=tN a b - 1) (by omega) I (fun j st hj I=>?_)) (fun st I=>Ok.ret I))
  have hy:b[j]? =some b[j]:=aJ hj
  obtain⟨p,hp⟩:=zN (N:=N) a[k] b[j] (tN a b)
  refine Ok.ix hy (Ok.eq hp ?_)
  refine Ok.bind (P:=fun _=>True) ?_ (fun c _=>?_)
  ·refine Ok.eq (GJ (ha _ (cP hk)) (hb _ (cP hj))) ?_
   cases (v9 a[k] b[j]==tN a b) with
   | false=>exact Ok.ret trivial
   | true=>
    rw [aR]
    cases st.2 with
    | false=>exact Ok.ret trivial
    | true=>
     obtain⟨c,hc⟩:=zO (N:=N) p st.1.bU
     exact Ok.eq hc (Ok.ret trivial)
  ·refine Ok.bind (P:=fun(st:pZ×Bool)=>st.1.iv=tN a b - 1) ?_ (fun st I=>Ok.ret I)
   cases c with
   | true=>exact Ok.ret I
   | false=>exact Ok.ret I
 refine Ok.bind (Ok.iL (fun k (st:pZ×Bool)=>st.1.iv=tN a b - 1) (by omega) I (fun k st' hk I=>?_)) (fun st I=>Ok.ret I)
 have hx:b[k]? =some b[k]:=aJ hk
 obtain⟨p,hp⟩:=zN (N:=N) b[k] (⟨st.1.bU.X,st.1.bU.Y,(IntKind.wrap .i64 (st.1.bU.X+1)),(IntKind.wrap .i64 (st.1.bU.Y+1))⟩:aI) (tN a b)
 obtain⟨f,hf⟩:=GK (N:=N) b[k] (⟨st.1.bU.X,st.1.bU.Y,(IntKind.wrap .i64 (st.1.bU.X+1)),(IntKind.wrap .i64 (st.1.bU.Y+1))⟩:aI)
 refine Ok.ix hx (Ok.eq hp ?_)
 refine Ok.bind (P:=fun _=>True) ?_ (fun c _=>?_)
 ·refine Ok.eq hf ?_
  cases (f==tN a b) with
  | false=>exact Ok.ret trivial
  | true=>
   rw [aR]
   cases st'.2 with
   | false=>exact Ok.ret trivial
   | true=>
    obtain⟨c,hc⟩:=zO (N:=N) p st'.1.To
    exact Ok.eq hc (Ok.ret trivial)
 ·refine Ok.bind (P:=fun(st:pZ×Bool)=>st.1.iv=tN a b - 1) ?_ (fun st I=>Ok.ret I)
  cases c with
  | true=>exact Ok.ret I
  | false=>exact Ok.ret I
end
def GZ (gs:List cI) (g:Int):Bool:=decide (g>=0)&&(gs[g.toNat]?).elim false fun G=>decide (((G.gW.length:Nat):Int)>1)
def qW (gs:List cI) (B:Bool) (of:List Int) (n:Nat):List aT:=((List.range n).filter (fun k=>(of[k]?).elim false (GZ gs))).map (fun k=>⟨true,⟨B,((k:Nat):Int)⟩,0,0⟩)
def oy (pcs:List aH) (ofP:List Int) (near:Int) (i k:Nat):Bool:=(pcs[i]?).elim false fun p=>(pcs[k]?).elim false fun q=>decide (i<k)&&(q.cX==p.cX&&(decide (ofP[i]? ≠ofP[k]?)&&decide (tN p.iZ q.iZ - 1<near)))
def oz (pcs:List aH) (ofP:List Int) (near:Int) (i m:Nat):List aT:=((List.range m).filter (oy pcs ofP near i)).map (fun k=>⟨false,⟨false,0⟩,((i:Nat):Int),((k:Nat):Int)⟩)
def rY (pcs:List aH) (ofP:List Int) (near:Int) (m:Nat):List aT:=(List.range m).flatMap (fun i=>oz pcs ofP near i pcs.length)
def xe (pcs:List aH) (gs:List cI) (ofP ofB:List Int) (near:Int):List aT:=qW gs false ofP ofP.length++qW gs true ofB ofB.length++rY pcs ofP near pcs.length
theorem zP (gs:List cI) (B:Bool) (of:List Int) (k:Nat):qW gs B of (k+1)=if (of[k]?).elim false (GZ gs)=true then qW gs B of k++[⟨true,⟨B,((k:Nat):Int)⟩,0,0⟩] else qW gs B of k:=by
 unfold qW
 rw [List.range_succ,gS,eB]
 by_cases h: (of[k]?).elim false (GZ gs)=true
 ·rw [aC h,List.filter_cons_of_pos (p:=fun k=>(of[k]?).elim false (GZ gs)) h];rfl
 ·rw [aD h,List.filter_cons_of_neg (p:=fun k=>(of[k]?).elim false (GZ gs)) h];simp
theorem oA (gs:List cI) (B:Bool) (of:List Int) (k:Nat): (qW gs B of k).length<=k:=by
 unfold qW
 rw [eY]
 have:=jC (fun k=>(of[k]?).elim false (GZ gs)) (List.range k)
 rw [List.length_range] at this;exact this
theorem tO (pcs:List aH) (ofP:List Int) (near:Int) (i m:Nat):oz pcs ofP near i (m+1)=if oy pcs ofP near i m=true then oz pcs ofP near i m++[⟨false,⟨false,0⟩,((i:Nat):Int),((m:Nat):Int)⟩] else oz pcs ofP near i m:=by
 unfold oz
 rw [List.range_succ,gS,eB]
 by_cases h:oy pcs ofP near i m=true
 ·rw [aC h,List.filter_cons_of_pos h];rfl
 ·rw [aD h,List.filter_cons_of_neg h];simp
theorem zQ (pcs:List aH) (ofP:List Int) (near:Int) (i m:Nat): (oz pcs ofP near i m).length<=m:=by
 unfold oz
 rw [eY]
 have:=jC (oy pcs ofP near i) (List.range m)
 rw [List.length_range] at this;exact this
theorem tP {pcs:List aH} {ofP:List Int} {near:Int} {i m:Nat}: ∀{d:Nat},(∀k,m<=k->k<m+d->oy pcs ofP near i k=false)->oz pcs ofP near i (m+d)=oz pcs ofP near i m
 | 0,_=>rfl
 | d+1,h=>by
  rw [show m+ (d+1)=m+d+1 by omega,tO,h (m+d) (by omega) (by omega),aD ji]
  exact tP (fun k h1 h2=>h k h1 (by omega))
theorem wc (pcs:List aH) (ofP:List Int) (near:Int) (m:Nat):rY pcs ofP near (m+1)=rY pcs ofP near m++oz pcs ofP near m pcs.length:=by
 unfold rY
 rw [List.range_succ,List.flatMap_append];simp
theorem yy (pcs:List aH) (ofP:List Int) (near:Int): ∀(m:Nat),(rY pcs ofP near m).length<=m*pcs.length
 | 0=>by simp [rY]
 | m+1=>by
  rw [wc,dR,Nat.add_mul,Nat.one_mul]
  have:=yy pcs ofP near m
  have:=zQ pcs ofP near m pcs.length
  omega
theorem GM: ∀(cJ:List (List (List aA))) (k:Nat),(bJ k cJ).Pairwise (fun p q=>p.cX<=q.cX)/\∀p∈bJ k cJ,((k:Nat):Int)<=p.cX
 | [],k=>⟨kR,fun p h=>by cases h⟩
 | ps::r,k=>by
  obtain⟨h1,h2⟩:=GM r (k+1)
  unfold bJ
  refine⟨List.pairwise_append.2 ⟨?_,h1,fun p hp q hq=>?_⟩,fun p hp=>?_⟩
  ·rw [List.pairwise_map]
   exact List.Pairwise.imp (fun _=>Int.le_refl _) (List.pairwise_of_forall (R:=fun _ _=>True) (fun _ _=>trivial))
  ·obtain⟨p',_,rfl⟩:=cT.1 hp
   have:=h2 q hq
   show ((k:Nat):Int)<=q.cX;omega
  ·rcases cS.1 hp with hp | hp
   ·obtain⟨p',_,rfl⟩:=cT.1 hp;exact Int.le_refl _
   ·have:=h2 p hp;omega
section
variable {N:Nat} {a:gU} {jB:List (List aA)} {cJ:List (List (List aA))} {r:Nat->Nat} {gs:List cI} {ofP ofB fG:List Int} {fE:List dQ}
theorem vu {h:dQ} {g:Int} {s:List aT} (hg:0<=g->g.toNat<gs.length) (hs:s.length<=100000000):gA N h g s gs=some (if GZ gs g=true then s++[⟨true,h,0,0⟩] else s):=by
 unfold gA GZ
 by_cases h0:0<=g
 ·have hlt:=hg h0
  have hx:gs[g.toNat]? =some gs[g.toNat]:=aJ hlt
  have hi:=dD hx
  rw [Int.toNat_of_nonneg h0] at hi
  rw [cE (show g>=0 from h0),aR,hi,aB,aB,hx,Option.elim_some,Bool.true_and]
  cases decide (((gs[g.toNat].gW.length:Nat):Int)>1) with
  | true=>rw [aR,fF (by simp;omega)];rfl
  | false=>rfl
 ·rw [bG (show ¬g>=0 from h0),aS,aB,aS,Bool.false_and,aD ji];rfl
theorem Dc (b:jc a jB cJ r gs ofP ofB fG fE) {k:Nat} (hk:k<ofP.length): ∃g:Nat,ofP[k]? =some ((g:Nat):Int)/\g<gs.length:=by
 have hl:=b.zK.of.lp
 obtain⟨g,h1,h2,_⟩:=K5 b.zK (k:=k) (by omega)
 exact⟨g,h1,h2⟩
theorem GN (b:jc a jB cJ r gs ofP ofB fG fE) {j:Nat} (hj:j<ofB.length): (vj a.aV j=true/\∃g:Nat,ofB[j]? =some ((g:Nat):Int)/\g<gs.length)\/(vj a.aV j=false/\ofB[j]? =some (-1)):=by
 have hl:=b.zK.of.lb
 have hm:r ((bJ 0 cJ).length+j)∈bX ((bJ 0 cJ).length+a.aV.length) r:=ig.2 ⟨by have:=b.zK.conn.le ((bJ 0 cJ).length+j) (by omega);omega,b.zK.conn.rr _ (by omega)⟩
 have:=b.zK.of.bo j (by omega) hm
 cases hp:vj a.aV j with
 | true=>
  rw [hp,aC rfl] at this
  exact .inl ⟨rfl,_,this,by rw [(GD b.zK).1];exact(B7 hm (Gy hp (by omega))).1⟩
 | false=>
  rw [hp,aD ji] at this
  exact .inr ⟨rfl,this⟩
theorem we (b:jc a jB cJ r gs ofP ofB fG fE) {near:Int} {q1:List (List aI)} {q2:List aI} {q3:List bW} {q4:List cU} {q5:List (List aA)} {q6:List (List Int)} {q7:List Int} {q8:List dQ} (hN:4398046511104<=N):
  jW N q1 q2 q3 q4 q5 (bJ 0 cJ) q6 gs ofP ofB q7 q8 near=some (if near<0\/100000<near then ([],1) else if 20000< (xe (bJ 0 cJ) gs ofP ofB near).length then ([],2) else (xe (bJ 0 cJ) gs ofP ofB near,0)):=by
 have hf:=b.yY.2
 have hbl:=b.Cb.gb.len
 have hlp:=b.zK.of.lp
 have hlb:=b.zK.of.lb
 have hup:=(GM cJ 0).1
 generalize hpcs:bJ 0 cJ=pcs at *
 unfold jW
 have w:kY N near 0 100000=some (decide (near>=0)&&decide (near<=100000)):=rfl
 rw [w,aB]
 by_cases hn:near<0\/100000<near
 ·rw [aC hn,show (decide (near>=0)&&decide (near<=100000))=false by rw [Bool.and_eq_false_iff,decide_eq_false_iff_not,decide_eq_false_iff_not];omega];rfl
 rw [aD hn,show (decide (near>=0)&&decide (near<=100000))=true by rw [bT,bP,bP];omega,lE,aS]
 have s1:iL ofP.length (fun(k34:Nat) (s35: (List aT))=>((idx ofP (k34:Int)).bind fun x51=>(gA N (⟨false,(k34:Int)⟩:dQ) x51 s35 gs).bind fun x54=>some x54:Option ((List aT)))) ([]: (List aT))=some (qW gs false ofP ofP.length):=
  qs (fun k=>qW gs false ofP k) (by omega) rfl (fun k hk=>by
   obtain⟨g,h1,h2⟩:=Dc b hk
   have:=oA gs false ofP k
   rw [dD h1,aB,vu (fun _=>by rw [bY];exact h2) (by omega),aB,zP,h1];rfl)
 have s2:iL ofB.length (fun(k57:Nat) (s58: (List aT))=>((idx ofB (k57:Int)).bind fun x74=>(gA N (⟨true,(k57:Int)⟩:dQ) x74 s58 gs).bind fun x77=>some x77:Option ((List aT)))) (qW gs false ofP ofP.length)=some (qW gs false ofP ofP.length++qW gs true ofB ofB.length):=
  qs (fun k=>qW gs false ofP ofP.length++qW gs true ofB k) (by omega) (by simp [qW]) (fun k hk=>by
   have:=oA gs false ofP ofP.length
   have:=oA gs true ofB k
   have e: ∃g,ofB[k]? =some g/\(0<=g->g.toNat<gs.length):=by
    rcases GN b hk with ⟨_,g,h1,h2⟩ | ⟨_,h1⟩
    ·exact⟨_,h1,fun _=>by rw [bY];exact h2⟩
    ·exact⟨_,h1,fun h=>by omega⟩
   obtain⟨g,h1,h2⟩:=e
   rw [dD h1,aB,vu h2 (by rw [dR];omega),aB,zP,h1,Option.elim_some]
   cases GZ gs g with
   | true=>rw [aC rfl,aC rfl,jg]
   | false=>rw [aD ji,aD ji])
 rw [s1,aB,s2,aB]
 have hb1:=oA gs false ofP ofP.length
 have hb2:=oA gs true ofB ofB.length
 generalize hB:qW gs false ofP ofP.length++qW gs true ofB ofB.length=base
 have hbase:base.length<=2500:=by rw [<-hB,dR];omega
 have hs:xe pcs gs ofP ofB near=base++rY pcs ofP near pcs.length:=by unfold xe;rw [hB]
 refine Ok.get ?_
 refine Ok.bind (Ok.iL (fun i s=>s=base++rY pcs ofP near i) (by omega) (by simp [rY]) (fun i s hi e=>?_)) (fun s e=>?_)
 ·subst e
  have hx:pcs[i]? =some pcs[i]:=aJ hi
  have hpl:=yy pcs ofP near i
  have hpl: (rY pcs ofP near i).length<=2000*2000:=l7 hpl (Nat.mul_le_mul (by omega) hf)
  have hri:pcs[i].iZ.length<=2000/\∀q∈pcs[i].iZ,cZ q=true:=by
   obtain⟨p1,p2,_⟩:=Cf b (p:=pcs[i]) (by rw [hpcs];exact cP hi)
   exact⟨p1,fun q hq=>(p2 q hq).1⟩
  obtain⟨gi_,hgi,_⟩:=Dc b (k:=i) (by omega)
  refine Ok.ix hx ?_
  rw [gx (by omega)]
  have hskip:oz pcs ofP near i (i+1)= []:=by
   have e0:oz pcs ofP near i 0= []:=by simp [oz]
   have:=tP (pcs:=pcs) (ofP:=ofP) (near:=near) (i:=i) (m:=0) (d:=i+1) (fun k _ hk=>by
    unfold oy
    rw [hx,Option.elim_some]
    cases pcs[k]? with
    | none=>rfl
    | some q=>rw [Option.elim_some,bG (show ¬i<k by omega),Bool.false_and])
   rw [gj] at this
   rw [this,e0]
  refine Ok.bind (Ok.BT (n:=pcs.length) (fun st=>st.2) (fun k st=>i+1<=k/\st.1=base++rY pcs ofP near i++oz pcs ofP near i k) (Go:=fun st=>st.1=base++rY pcs ofP near (i+1)) (Rt:=fun _=>False) ?_ ?_ (k0:=i+1) (by omega) rfl ⟨bM _,by dsimp only;rw [hskip,kl]⟩ (by omega)) ?_
  ·rintro k ⟨s,j⟩ hk e ⟨hik,hI⟩
   dsimp only at e hI ⊢
   subst e;subst hI
   have hy:pcs[k]? =some pcs[k]:=aJ hk
   have h1l:=zQ pcs ofP near i k
   have hrk:pcs[k].iZ.length<=2000/\∀q∈pcs[k].iZ,cZ q=true:=by
    obtain⟨p1,p2,_⟩:=Cf b (p:=pcs[k]) (by rw [hpcs];exact cP hk)
    exact⟨p1,fun q hq=>(p2 q hq).1⟩
   obtain⟨gk_,hgk,_⟩:=Dc b (k:=k) (by omega)
   have hmono: ∀u v:Nat,(hv:v<pcs.length)->(huv:u<v)->pcs[u].cX<=pcs[v].cX:=fun u v hv huv=>mQ.1 hup u v (by omega) hv huv
   rw [K2 hk,aR]
   refine Ok.eq (x:=pcs[k].cX==pcs[i].cX) (by rw [dD hy,aB]) ?_
   cases hL: (pcs[k].cX==pcs[i].cX) with
   | false=>
    rw [aS]
    refine Ok.br ?_
    dsimp only
    have hne:pcs[k].cX≠pcs[i].cX:=fun e=>by rw [e,BEq.rfl] at hL;cases hL
    have h1:=hmono i k hk (by omega)
    have hsk:=tP (pcs:=pcs) (ofP:=ofP) (near:=near) (i:=i) (m:=k) (d:=pcs.length - k) (fun j h2 h3=>by
     have hj:j<pcs.length:=by omega
     have h4:pcs[k].cX<=pcs[j].cX:=by
      by_cases e:k=j
      ·subst e;exact Int.le_refl _
      ·exact hmono k j hj (by omega)
     unfold oy
     rw [hx,aJ hj,Option.elim_some,Option.elim_some,show (pcs[j].cX==pcs[i].cX)=false by rw [beq_eq_false_iff_ne];omega,Bool.false_and,Bool.and_false])
    rw [show k+ (pcs.length - k)=pcs.length by omega] at hsk
    rw [wc,hsk,jg]
   | true=>
    rw [aR]
    refine Ok.eq (x:=oy pcs ofP near i k) ?_ ?_
    ·rw [dD hgi,aB,dD hgk,aB]
     unfold oy
     rw [hx,hy,Option.elim_some,Option.elim_some,hL,cE (show i<k by omega),Bool.true_and,Bool.true_and,hgi,hgk]
     by_cases e:gi_=gk_
     ·subst e
      rw [bne_self_eq_false,aS,show decide (some ((gi_:Nat):Int)≠some ((gi_:Nat):Int))=false by simp,Bool.false_and]
     ·obtain⟨g,g1,g2⟩:=GL (N:=N) (a:=pcs[i].iZ) (b:=pcs[k].iZ) (by omega) (by omega) hri.2 hrk.2
      rw [show (((gi_:Nat):Int) != ((gk_:Nat):Int))=true by rw [bne_iff_ne];omega,aR,dD hy,aB,g1,aB,g2,show decide (some ((gi_:Nat):Int)≠some ((gk_:Nat):Int))=true by rw [bP];intro h;injection h with h;omega,Bool.true_and]
    ·cases hsP:oy pcs ofP near i k with
     | true=>
      rw [aR]
      refine Ok.bind (P:=fun s=>s=base++rY pcs ofP near i++oz pcs ofP near i (k+1)) (Ok.app (by simp only [dR,fI,List.length_nil];omega) (Ok.ret ?_)) (fun s hs=>Ok.nx ⟨gx (by omega),by omega,hs⟩)
      rw [tO,hsP,aC rfl,jg]
     | false=>
      rw [aS,aB]
      refine Ok.nx ⟨gx (by omega),by omega,?_⟩
      dsimp only
      rw [tO,hsP,aD ji]
  ·rintro⟨s,j⟩ e ⟨_,hI⟩
   dsimp only at e hI ⊢
   subst e;subst hI
   rw [K3,aS]
   refine Ok.eq (x:=false) rfl ?_
   rw [aS]
   exact Ok.br (by dsimp only;rw [wc,jg])
  ·intro o ho
   refine Ok.cs ho (fun st hst=>Ok.ret hst) (fun r hr=>hr.elim)
 ·subst e
  rw [hs]
  by_cases hl:20000< (base++rY pcs ofP near pcs.length).length
  ·rw [aC hl,cE (show (((base++rY pcs ofP near pcs.length).length:Nat):Int)>20000 by omega)]
   exact Ok.ret rfl
  ·rw [aD hl,bG (show ¬(((base++rY pcs ofP near pcs.length).length:Nat):Int)>20000 by omega)]
   exact Ok.ret rfl
end
end Go.Gk
namespace Go.Gk
open Go Classical
theorem tQ {bs:List bW} {n:Nat} {x:aT} (h1:Ik x=false) (h2:tM bs n x=true) (h3:x.Open=false->x.A<x.B):pq bs n [x]=0:=by
 unfold pq
 have e:yw bs n [x] 0=none:=by
  unfold yw
  rw [show ([x]:List aT)[0]? =some x from rfl,Option.bind_some,h1,aD ji,h2,aD (by decide)]
  cases ho:x.Open with
  | true=>rfl
  | false=>
   have:=h3 ho
   rw [lF,Bool.true_and,bG (by omega),aD ji,aD (by simp)]
 rw [aD (by simp),gO.2 (fun k hk=>by
  have:k=0:=by simp at hk;omega
  subst this;exact e)];rfl
theorem tR {bs:List bW} {n:Nat}:pq bs n []=0:=rfl
noncomputable def pU (N:Nat) (a:gU) (cJ:List (List (List aA))) (fG:List Int) (fE:List dQ) (fl:List aT):List Int:=(cY N a.aV a.bH (bJ 0 cJ) (eP a.aV (bJ 0 cJ)) fG fE fl).getD []
def Jc (c d:List Int):Bool:=(List.range c.length).all (fun i=>mD c i==mD d i)
section
variable {N:Nat} {a:gU} {jB:List (List aA)} {cJ:List (List (List aA))} {r:Nat->Nat} {gs:List cI} {ofP ofB fG:List Int} {fE:List dQ}
theorem yz (b:jc a jB cJ r gs ofP ofB fG fE) {fl:List aT} (h0:pq a.aV (bJ 0 cJ).length fl=0) (hN:4398046511104<=N):
  cY N a.aV a.bH (bJ 0 cJ) (eP a.aV (bJ 0 cJ)) fG fE fl=some (pU N a cJ fG fE fl)/\(pU N a cJ fG fE fl).length=a.bH.length/\GG (pU N a cJ fG fE fl):=by
 obtain⟨r2,c,up,fm,c1,c2,c3⟩:=GH b h0 hN
 have e:pU N a cJ fG fE fl=c:=by unfold pU;rw [c1];rfl
 rw [e]
 exact⟨c1,c3.len,c3.first⟩
theorem Cj {c d:List Int} (hc:c.length<=1000000000) (hl:d.length=c.length):lU N c d=some (Jc c d):=by
 unfold lU
 rw [mh (fun k=>if mD c k=mD d k then none else some false) (by omega) (fun k hk _=>by
  have h1:c[k]? =some c[k]:=aJ hk
  have h2:d[k]? =some (d[k]'(by omega)):=aJ _
  have n1: (bif (decide (c[k]<0)) then (some ((k:Nat):Int)) else (some c[k]))=some (mD c k):=by
   unfold mD
   rw [List.getD_eq_getElem?_getD,h1,Option.getD_some]
   by_cases h:c[k]<0
   ·rw [cE h,aC h];rfl
   ·rw [bG h,aD h];rfl
  have n2: (bif (decide ((d[k]'(by omega))<0)) then (some ((k:Nat):Int)) else (some (d[k]'(by omega))))=some (mD d k):=by
   unfold mD
   rw [List.getD_eq_getElem?_getD,h2,Option.getD_some]
   by_cases h: (d[k]'(by omega))<0
   ·rw [cE h,aC h];rfl
   ·rw [bG h,aD h];rfl
  rw [dD h1,aB,dD h2,aB,n1,aB,n2,aB]
  by_cases h:mD c k=mD d k
  ·rw [h,bne_self_eq_false,aC rfl];rfl
  ·rw [show (mD c k != mD d k)=true by rw [bne_iff_ne];exact h,aD h];rfl),aB]
 unfold Jc
 cases hf:mW c.length (fun k=>if mD c k=mD d k then none else some false) with
 | none=>
  have e: (List.range c.length).all (fun i=>mD c i==mD d i)=true:=jD.2 (fun i hi=>by
   have:=gO.1 hf i (jf.1 hi)
   split at this
   ·rename_i h;rw [h,BEq.rfl]
   ·cases this)
  rw [e];rfl
 | some e=>
  obtain⟨k,hk,he,_⟩:=iI.1 hf
  split at he
  ·cases he
  rename_i hne
  injection he with he
  subst he
  have e: (List.range c.length).all (fun i=>mD c i==mD d i)=false:=by
   rw [List.all_eq_false]
   exact⟨k,jf.2 hk,by simpa using hne⟩
  rw [e];rfl
theorem zR (b:jc a jB cJ r gs ofP ofB fG fE) {near:Int} {x:aT} (hx:x∈xe (bJ 0 cJ) gs ofP ofB near):pq a.aV (bJ 0 cJ).length [x]=0:=by
 have hlp:=b.zK.of.lp
 have hlb:=b.zK.of.lb
 have inp: ∀{n k:Nat},k<n->Ij n ((k:Nat):Int)=true:=fun{n k} h=>by
  unfold Ij
  rw [bT,bP,bP];omega
 unfold xe at hx
 rcases cS.1 hx with hx | hx
 ·rcases cS.1 hx with hx | hx
  ·obtain⟨k,hk,rfl⟩:=cT.1 hx
   have hk:=jf.1 (iA.1 hk).1
   exact tQ rfl (inp (by omega)) (fun h=>by cases h)
  ·obtain⟨k,hk,rfl⟩:=cT.1 hx
   obtain⟨h1,h2⟩:=iA.1 hk
   have h1:=jf.1 h1
   refine tQ rfl ?_ (fun h=>by cases h)
   rcases GN b h1 with ⟨hp,_⟩ | ⟨_,e⟩
   ·unfold tM
    simp only [aR]
    rw [inp (by omega),bY,hp];rfl
   ·rw [e,Option.elim_some] at h2
    unfold GZ at h2
    simp at h2
 ·obtain⟨i,hi,hx⟩:=List.mem_flatMap.1 hx
  obtain⟨k,hk,rfl⟩:=cT.1 hx
  obtain⟨h1,h2⟩:=iA.1 hk
  have h1:=jf.1 h1
  have hi:=jf.1 hi
  unfold oy at h2
  rw [aJ hi,aJ h1,Option.elim_some,Option.elim_some,bT,bP] at h2
  refine tQ rfl ?_ (fun _=>?_)
  ·unfold tM
   simp only [aS]
   rw [inp hi,inp h1];rfl
  ·show ((i:Nat):Int)< ((k:Nat):Int);omega
theorem HN (b:jc a jB cJ r gs ofP ofB fG fE) (near:Int): (xe (bJ 0 cJ) gs ofP ofB near).length<=4002500:=by
 have hf:=b.yY.2
 have hbl:=b.Cb.gb.len
 have hlp:=b.zK.of.lp
 have hlb:=b.zK.of.lb
 have h1:=oA gs false ofP ofP.length
 have h2:=oA gs true ofB ofB.length
 have h3: (rY (bJ 0 cJ) ofP near (bJ 0 cJ).length).length<=2000*2000:=l7 (yy _ ofP near _) (Nat.mul_le_mul hf hf)
 unfold xe
 rw [dR,dR];omega
noncomputable def yA (N:Nat) (a:gU) (cJ:List (List (List aA))) (fG:List Int) (fE:List dQ) (x:aT):Bool:=Jc (pU N a cJ fG fE [x]) (pU N a cJ fG fE [])
theorem Ck (b:jc a jB cJ r gs ofP ofB fG fE) (h1:eF N a=some (some (a.aL,a.dF,a.aV,a.bH,jB,bJ 0 cJ,eP a.aV (bJ 0 cJ),gs,ofP,ofB,fG,fE),0)) (near:Int) (hN:4398046511104<=N):
  kE N a near=some (if near<0\/100000<near then ([],1) else if 20000< (xe (bJ 0 cJ) gs ofP ofB near).length then ([],2) else ((xe (bJ 0 cJ) gs ofP ofB near).filter (yA N a cJ fG fE),0)):=by
 have hll:=b.rW.yY
 have hsl:=HN b near
 unfold kE
 rw [h1,aB]
 simp only [Aa,bne_self_eq_false,aS]
 rw [we b hN,aB]
 by_cases hn:near<0\/100000<near
 ·rw [aC hn,aC hn];rfl
 rw [aD hn,aD hn]
 by_cases hl:20000< (xe (bJ 0 cJ) gs ofP ofB near).length
 ·rw [aC hl,aC hl];rfl
 rw [aD hl,aD hl]
 simp only [bne_self_eq_false,aS]
 obtain⟨c1,c2,c3⟩:=yz b (fl:=[]) tR hN
 rw [c1,aB]
 generalize hS:xe (bJ 0 cJ) gs ofP ofB near=S at *
 rw [qs (s:=(pU N a cJ fG fE [],([]:List aT))) (fun k=>(pU N a cJ fG fE [],(S.take k).filter (yA N a cJ fG fE))) (by omega) rfl (fun k hk=>by
  have hx:S[k]? =some S[k]:=aJ hk
  obtain⟨d1,d2,d3⟩:=yz b (fl:=[S[k]]) (zR b (near:=near) (by rw [hS];exact cP hk)) hN
  have hlen: ((S.take k).filter (yA N a cJ fG fE)).length<=k:=l7 (jC _ _) (List.length_take_le _ _)
  rw [dD hx,aB,d1,aB,Cj (by rw [d2];omega) (by rw [c2,d2]),aB,eM hk,gS]
  have eh:yA N a cJ fG fE S[k]=Jc (pU N a cJ fG fE [S[k]]) (pU N a cJ fG fE []):=rfl
  cases hh:Jc (pU N a cJ fG fE [S[k]]) (pU N a cJ fG fE []) with
  | true=>rw [aR,fF (by simp only [fI,List.length_nil];omega),aB,aB,List.filter_cons_of_pos (by rw [eh,hh]),List.filter_nil]
  | false=>rw [aS,aB,List.filter_cons_of_neg (by rw [eh,hh];exact ji),List.filter_nil,kl]),aB,eD]
end
section
variable {N:Nat}
end
end Go.Gk
namespace Go.Gk
open Go Classical
def pV (t u:Test):Int:=if gD t.A u.A≠0 then gD t.A u.A else gD t.B u.B
def oC (a:gU) (l:List Test) (k:Nat):Option Int:=(l[k]?).bind fun t=>
 if kr a t.A<0\/kr a t.B<0 then some 9 else if gD t.B t.A<=0 then some 8 else if 0<k/\((l[k - 1]?).elim false fun u=>decide (pV t u<=0))=true then some 8 else none
def mn (a:gU) (l:List Test):Int:=if 2000<l.length then 2 else (mW l.length (oC a l)).getD 0
structure DZ (a:gU) (t:Test):Prop where
 la:0<=kr a t.A
 lb:0<=kr a t.B
 lt:wA t.A t.B
theorem Cl {a:gU} {p:fW} (h:0<=kr a p): ∃(k:Nat) (x:cU),kr a p= ((k:Nat):Int)/\a.bH[k]? =some x/\kP x=p/\k<a.bH.length:=by
 rcases wB a p with ⟨e,_⟩ | ⟨k,x,e,hx,hp⟩
 ·rw [e] at h;omega
 ·exact⟨k,x,e,hx,hp,(bC.1 hx).1⟩
theorem AV {a:gU} {l:List Test} (h:mn a l=0):l.length<=2000/\(∀t∈l,DZ a t)/\∀(k:Nat) t u,0<k->l[k]? =some t->l[k - 1]? =some u->0<pV t u:=by
 unfold mn at h
 split at h
 ·omega
 rename_i hl
 have hn: ∀k,k<l.length->oC a l k=none:=by
  cases hf:mW l.length (oC a l) with
  | none=>exact gO.1 hf
  | some e=>
   rw [hf] at h
   obtain⟨k,hk,he,_⟩:=iI.1 hf
   have h:e=0:=h
   subst h
   unfold oC at he
   rw [aJ hk,Option.bind_some] at he
   repeat' split at he
   all_goals (first | (injection he with he;omega) | cases he)
 refine⟨by omega,fun t ht=>?_,fun k t u hk ht hu=>?_⟩
 ·obtain⟨k,hk,rfl⟩:=List.mem_iff_getElem.1 ht
  have:=hn k hk
  unfold oC at this
  rw [aJ hk,Option.bind_some] at this
  split at this
  ·cases this
  rename_i h1
  split at this
  ·cases this
  rename_i h2
  exact⟨by omega,by omega,qD.1 (by omega)⟩
 ·have hlt:=(bC.1 ht).1
  have:=hn k hlt
  unfold oC at this
  rw [ht,Option.bind_some] at this
  split at this
  ·cases this
  split at this
  ·cases this
  split at this
  ·cases this
  rename_i h3
  rw [hu] at h3
  simp only [Option.elim_some,bP] at h3
  omega
def pW (a:gU) (c:List Int) (l:List Test):List Bool:=l.map (fun t=>Ci c (kr a t.A).toNat (kr a t.B).toNat)
section
variable {N:Nat}
theorem Jd (u v:Int):nX N [u,v]=some (if u≠0 then u else v):=by
 unfold nX
 rw [uI (l:=[u,v]) (fun x=>if x≠0 then some x else none) (by simp) (fun k x hx=>by
  rw [dD hx,aB]
  by_cases h:x=0
  ·subst h;rfl
  ·rw [show (x != 0)=true by simpa using h,aR,aC h];rfl),aB]
 by_cases h:u=0
 ·subst h
  by_cases h':v=0
  ·subst h';rfl
  ·simp [h',Av,Fo.cs]
 ·simp [h,Av,Fo.cs]
theorem wV (t u:Test):fV N t u=some (pV t u):=by
 unfold fV pV
 rw [kb,aB,kb,aB,Jd,aB]
theorem GO {a:gU} {e:Int} (he:e≠0) (h:eF N a=some (none,e)) (l:List Test):iR N a l=some (none,e):=by
 unfold iR
 rw [h,aB]
 simp only [Aa,show (e != 0)=true by simpa using he,aR]
end
section
variable {N:Nat} {a:gU} {jB:List (List aA)} {cJ:List (List (List aA))} {r:Nat->Nat} {gs:List cI} {ofP ofB fG:List Int} {fE:List dQ}
theorem HO (b:jc a jB cJ r gs ofP ofB fG fE) (h1:eF N a=some (some (a.aL,a.dF,a.aV,a.bH,jB,bJ 0 cJ,eP a.aV (bJ 0 cJ),gs,ofP,ofB,fG,fE),0)) {l:List Test} (hl:l.length<=1048576) (hN:4398046511104<=N):
  (mn a l≠0/\iR N a l=some (none,mn a l))\/(mn a l=0/\iR N a l=some (some (a.aL,a.dF,a.aV,a.bH,jB,bJ 0 cJ,eP a.aV (bJ 0 cJ),gs,ofP,ofB,fG,fE),0)):=by
 unfold iR
 rw [h1,aB]
 simp only [Aa,bne_self_eq_false,aS]
 by_cases h2:2000<l.length
 ·have e:mn a l=2:=by unfold mn;rw [aC h2]
  rw [cE (show ((l.length:Nat):Int)>2000 by omega),aR,e]
  exact .inl ⟨by decide,rfl⟩
 rw [bG (show ¬((l.length:Nat):Int)>2000 by omega),aS]
 rw [mh (fun k=>(oC a l k).map (fun c=>(none,c))) (by omega) (fun k hk _=>by
  have hx:l[k]? =some l[k]:=aJ hk
  have e1: ((dT N a l[k].A).bind fun x149=>bif (decide (x149<0)) then (some true) else ((dT N a l[k].B).bind fun x153=>some (decide (x153<0))))=some (decide (kr a l[k].A<0)||decide (kr a l[k].B<0)):=by
   rw [pT b.rW _ hN,pT b.rW _ hN,aB,aB]
   cases decide (kr a l[k].A<0) <;> rfl
  have e2: (bif (decide ((k:Int)>0)) then ((idx l (IntKind.wrap .i64 ((k:Int) - 1))).bind fun x208=>(fV N l[k] x208).bind fun x211=>some (decide (x211<=0))) else (some false))=some (decide (0<k/\((l[k - 1]?).elim false fun u=>decide (pV l[k] u<=0))=true)):=by
   by_cases h0:0<k
   ·have hp:k - 1<l.length:=by omega
    have hy:l[k - 1]? =some l[k - 1]:=aJ hp
    rw [cE (show ((k:Nat):Int)>0 by omega),aR,lW h0 (by omega),dD hy,aB,wV,aB,hy]
    simp only [Option.elim_some,h0,true_and,bP]
   ·rw [bG (show ¬((k:Nat):Int)>0 by omega),aS,bG (fun h=>h0 h.1)]
  rw [dD hx,aB,e1,aB]
  unfold oC
  rw [hx,Option.bind_some]
  by_cases hA:kr a l[k].A<0\/kr a l[k].B<0
  ·rw [aC hA,show (decide (kr a l[k].A<0)||decide (kr a l[k].B<0))=true by rw [dU,bP,bP];exact hA]
   rfl
  rw [aD hA,show (decide (kr a l[k].A<0)||decide (kr a l[k].B<0))=false by rw [Bool.or_eq_false_iff,decide_eq_false_iff_not,decide_eq_false_iff_not];omega,aS,kb,aB]
  by_cases hB:gD l[k].B l[k].A<=0
  ·rw [aC hB,cE hB];rfl
  rw [aD hB,bG hB,aS,e2,aB]
  by_cases hC:0<k/\((l[k - 1]?).elim false fun u=>decide (pV l[k] u<=0))=true
  ·rw [aC hC,cE hC];rfl
  ·rw [aD hC,bG hC];rfl),aB,<-FW]
 have hz:mn a l= (mW l.length (oC a l)).getD 0:=by unfold mn;rw [aD h2]
 cases hf:mW l.length (oC a l) with
 | none=>
  rw [hf] at hz
  exact .inr ⟨hz,rfl⟩
 | some e=>
  rw [hf] at hz
  have hz:mn a l=e:=hz
  refine .inl ⟨?_,by rw [hz];rfl⟩
  obtain⟨k,hk,he,_⟩:=iI.1 hf
  rw [hz]
  unfold oC at he
  rw [aJ hk,Option.bind_some] at he
  repeat' split at he
  all_goals (first | (injection he with he;omega) | cases he)
theorem GP (b:jc a jB cJ r gs ofP ofB fG fE) {fl:List aT} {c:List Int} (hc:cY N a.aV a.bH (bJ 0 cJ) (eP a.aV (bJ 0 cJ)) fG fE fl=some c) (hcl:c.length=a.bH.length) {l:List Test} (hl:l.length<=1048576) (ht: ∀t∈l,DZ a t) (hN:4398046511104<=N):
  jP N a.aL a.dF a.aV a.bH (bJ 0 cJ) (eP a.aV (bJ 0 cJ)) fG fE l fl=some (pW a c l):=by
 have hA: ∀p,dT N (⟨a.aL,a.dF,a.aV,a.bH⟩:gU) p=some (kr a p):=fun p=>pT b.rW p hN
 unfold jP
 rw [hc,aB]
 rw [qs (s:=([]:List Bool)) (fun k=>pW a c (l.take k)) (by omega) rfl (fun k hk=>by
  have hx:l[k]? =some l[k]:=aJ hk
  obtain⟨t1,t2,_⟩:=ht _ (cP hk)
  obtain⟨i,_,e1,_,_,hi⟩:=Cl t1
  obtain⟨j,_,e2,_,_,hj⟩:=Cl t2
  have ei:c[i]? =some (c[i]'(by omega)):=aJ _
  have ej:c[j]? =some (c[j]'(by omega)):=aJ _
  have hlen: (pW a c (l.take k)).length=k:=by unfold pW;rw [eY,dE];omega
  have hap: ∀x:Bool,app 1 (pW a c (l.take k)) [x]=some (pW a c (l.take k)++[x]):=fun x=>fF (by rw [hlen];simp;omega)
  have hs:pW a c (l.take (k+1))=pW a c (l.take k)++[Ci c i j]:=by
   unfold pW
   rw [eM hk,eB,dV,List.map_nil,e1,e2,bY,bY]
  rw [dD hx,aB,hA,aB,hA,aB,e1,e2,dD ei,dD ej,aB,hs]
  unfold Ci
  rw [List.getD_eq_getElem?_getD,List.getD_eq_getElem?_getD,ei,ej,Option.getD_some,Option.getD_some]
  cases decide (c[i]'(by omega)>=0) with
  | true=>rw [aR,aB,aB,hap,aB,aB,Bool.true_and]
  | false=>rw [aS,hap,aB,aB,Bool.false_and]),aB,eD]
end
inductive Ms (N:Nat) (a:gU) (l:List Test) (fl:List aT):Prop
 | err (e:Int) (he:e≠0) (h:wj N a l fl=some ([],e))
 | ok {jB:List (List aA)} {cJ:List (List (List aA))} {r:Nat->Nat} {gs:List cI} {ofP ofB fG:List Int} {fE:List dQ} (b:jc a jB cJ r gs ofP ofB fG fE)
  (h1:eF N a=some (some (a.aL,a.dF,a.aV,a.bH,jB,bJ 0 cJ,eP a.aV (bJ 0 cJ),gs,ofP,ofB,fG,fE),0))
  (ht:mn a l=0) (hf:pq a.aV (bJ 0 cJ).length fl=0) {c:List Int} (hc:cY N a.aV a.bH (bJ 0 cJ) (eP a.aV (bJ 0 cJ)) fG fE fl=some c) (hcl:c.length=a.bH.length) (h:wj N a l fl=some (pW a c l,0))
section
variable {N:Nat}
end
end Go.Gk
namespace Go.Gk
open Go Classical
section
variable {N:Nat}
theorem yB {l m:List Bool} (hl:l.length<=1000000000):hU N l m=some (decide (l=m)):=by
 unfold hU
 by_cases hn:l.length=m.length
 rotate_left
 ·rw [show (((l.length:Nat):Int) != ((m.length:Nat):Int))=true by rw [bne_iff_ne];omega,aR,bG (fun e=>hn (by rw [e]))]
 rw [show (((l.length:Nat):Int) != ((m.length:Nat):Int))=false by rw [hn,bne_self_eq_false],aS]
 rw [mh (fun k=>if l[k]? =m[k]? then none else some false) (by omega) (fun k hk _=>by
  have h1:l[k]? =some l[k]:=aJ hk
  have h2:m[k]? =some (m[k]'(by omega)):=aJ _
  rw [dD h1,aB,dD h2,aB,h1,h2]
  by_cases h:l[k]=m[k]'(by omega)
  ·rw [aC (by rw [h]),h,bne_self_eq_false];rfl
  ·rw [aD (fun e=>h (by injection e)),show (l[k] != m[k]'(by omega))=true by rw [bne_iff_ne];exact h];rfl),aB]
 cases hf:mW l.length (fun k=>if l[k]? =m[k]? then none else some false) with
 | none=>
  have e:l=m:=List.ext_getElem? fun k=>by
   by_cases hk:k<l.length
   ·have:=gO.1 hf k hk
    split at this
    ·assumption
    ·cases this
   ·rw [List.getElem?_eq_none (by omega),List.getElem?_eq_none (by omega)]
  rw [cE e];rfl
 | some e=>
  obtain⟨k,hk,he,_⟩:=iI.1 hf
  split at he
  ·cases he
  rename_i hne
  injection he with he
  subst he
  rw [bG (fun e=>hne (by rw [e]))];rfl
end
noncomputable def nC (N:Nat) (a:gU) (cJ:List (List (List aA))) (fG:List Int) (fE:List dQ) (l:List Test) (fl:List aT):List Bool:=pW a (pU N a cJ fG fE fl) l
theorem EU (a:gU) (c:List Int) (l:List Test): (pW a c l).length=l.length:=by unfold pW;rw [eY]
theorem zS {N:Nat} {a:gU} {cJ:List (List (List aA))} {fG:List Int} {fE:List dQ} {l:List Test} {fl:List aT}: (nC N a cJ fG fE l fl).length=l.length:=EU _ _ _
section
variable {N:Nat} {a:gU} {jB:List (List aA)} {cJ:List (List (List aA))} {r:Nat->Nat} {gs:List cI} {ofP ofB fG:List Int} {fE:List dQ}
theorem EV (b:jc a jB cJ r gs ofP ofB fG fE) (h1:eF N a=some (some (a.aL,a.dF,a.aV,a.bH,jB,bJ 0 cJ,eP a.aV (bJ 0 cJ),gs,ofP,ofB,fG,fE),0)) (near:Int) (hN:4398046511104<=N):
  jr N a near=some (if near<0\/100000<near then ([],1) else if 20000< (xe (bJ 0 cJ) gs ofP ofB near).length then ([],2) else (xe (bJ 0 cJ) gs ofP ofB near,0)):=by
 unfold jr
 rw [h1,aB]
 simp only [Aa,bne_self_eq_false,aS]
 rw [we b hN,aB]
theorem Dd {e:Int} (he:e≠0) (h:eF N a=some (none,e)) (near:Int):jr N a near=some ([],e):=by
 unfold jr
 rw [h,aB]
 simp only [Aa,show (e != 0)=true by simpa using he,aR]
theorem zT (b:jc a jB cJ r gs ofP ofB fG fE) {fl:List aT} (h0:pq a.aV (bJ 0 cJ).length fl=0) {l:List Test} (hl:l.length<=1048576) (ht: ∀t∈l,DZ a t) (hN:4398046511104<=N):
  jP N a.aL a.dF a.aV a.bH (bJ 0 cJ) (eP a.aV (bJ 0 cJ)) fG fE l fl=some (nC N a cJ fG fE l fl):=by
 obtain⟨c1,c2,_⟩:=yz b h0 hN
 exact GP b c1 c2 hl ht hN
end
section
variable {N:Nat}
end
end Go.Gk
namespace Go.Gk
open Go Classical
section
variable (T:Nat->Nat->Bool) (n:Nat)
def rZ (i k:Nat) (K:List Nat):Nat:=(List.range k).countP (T i)+K.countP (T i)
def HQ (K:List Nat) (k:Nat):Bool:=(List.range n).any (fun i=>T i k&&decide (rZ T i (k+1) K=1))
def Il:Nat->List Nat->List Nat
 | 0,K=>K
 | k+1,K=>Il k (if HQ T n K k=true then k::K else K)
variable {T n}
theorem tS (i k:Nat) (K:List Nat):rZ T i (k+1) K=rZ T i k K+if T i k=true then 1 else 0:=by
 unfold rZ
 rw [List.range_succ,List.countP_append,List.countP_singleton];omega
theorem tT (i k:Nat) (K:List Nat):rZ T i k (k::K)=rZ T i (k+1) K:=by
 rw [tS]
 unfold rZ
 rw [List.countP_cons];omega
structure GQ (T:Nat->Nat->Bool) (n m k:Nat) (K:List Nat):Prop where
 up:K.Pairwise (· < ·)
 lo: ∀j∈K,k<=j/\j<m
 all: ∀i,i<n->(∃j,j<m/\T i j=true)->0<rZ T i k K
 own: ∀j∈K,∃i,i<n/\T i j=true/\rZ T i k K=1
theorem GQ.step {m k:Nat} {K:List Nat} (h:GQ T n m (k+1) K) (hk:k<m):GQ T n m k (if HQ T n K k=true then k::K else K):=by
 by_cases hn:HQ T n K k=true
 ·rw [aC hn]
  refine⟨List.pairwise_cons.2 ⟨fun j hj=>by have:=h.lo j hj;omega,h.up⟩,fun j hj=>?_,fun i hi hj=>?_,fun j hj=>?_⟩
  ·rcases fQ.1 hj with rfl | hj
   ·exact⟨bM _,hk⟩
   ·have:=h.lo j hj;omega
  ·rw [tT];exact h.all i hi hj
  ·rcases fQ.1 hj with rfl | hj
   ·unfold HQ at hn
    obtain⟨i,hi,h1⟩:=jQ.1 hn
    rw [bT,bP] at h1
    exact⟨i,jf.1 hi,h1.1,by rw [tT];exact h1.2⟩
   ·obtain⟨i,h1,h2,h3⟩:=h.own j hj
    exact⟨i,h1,h2,by rw [tT];exact h3⟩
 ·rw [aD hn]
  have hno: ∀i,i<n->T i k=true->rZ T i (k+1) K≠1:=fun i hi ht e=>hn (jQ.2 ⟨i,jf.2 hi,by rw [ht,e];rfl⟩)
  refine⟨h.up,fun j hj=>by have:=h.lo j hj;omega,fun i hi hj=>?_,fun j hj=>?_⟩
  ·have h1:=h.all i hi hj
   have e:=tS (T:=T) i k K
   by_cases ht:T i k=true
   ·have:=hno i hi ht
    rw [aC ht] at e;omega
   ·rw [aD ht] at e;omega
  ·obtain⟨i,h1,h2,h3⟩:=h.own j hj
   refine⟨i,h1,h2,?_⟩
   have e:=tS (T:=T) i k K
   have hp:0<K.countP (T i):=List.countP_pos_iff.2 ⟨j,hj,h2⟩
   have:rZ T i k K= (List.range k).countP (T i)+K.countP (T i):=rfl
   split at e <;> omega
def MG (T:Nat->Nat->Bool) (n m:Nat):List Nat:=Il T n m []
end
end Go.Gk
namespace Go.Gk
open Go Classical
section
variable {N:Nat}
end
noncomputable def wC (N:Nat) (a:gU) (cJ:List (List (List aA))) (gs:List cI) (ofP ofB fG:List Int) (fE:List dQ) (near:Int):List aT:=(xe (bJ 0 cJ) gs ofP ofB near).filter (fun x=> !yA N a cJ fG fE x)
noncomputable def oD (f:aT->List Bool) (F:List aT):List bL:=F.map (fun x=>⟨x,f x⟩)
section
variable {N:Nat} {a:gU} {jB:List (List aA)} {cJ:List (List (List aA))} {r:Nat->Nat} {gs:List cI} {ofP ofB fG:List Int} {fE:List dQ}
theorem wD {l:List Test} {near e:Int} (he:e≠0) (h:iR N a l=some (none,e)):fx N a l near=some ([],[],e):=by
 unfold fx
 rw [h,aB]
 simp only [Aa,show (e != 0)=true by simpa using he,aR]
theorem De (b:jc a jB cJ r gs ofP ofB fG fE) {l:List Test} (h1:iR N a l=some (some (a.aL,a.dF,a.aV,a.bH,jB,bJ 0 cJ,eP a.aV (bJ 0 cJ),gs,ofP,ofB,fG,fE),0)) (hl:l.length<=1048576) (ht: ∀t∈l,DZ a t) (near:Int) (hN:4398046511104<=N):
  fx N a l near=some (if near<0\/100000<near then ([],[],1) else if 20000< (xe (bJ 0 cJ) gs ofP ofB near).length then ([],[],2) else (oD (fun x=>nC N a cJ fG fE l [x]) (wC N a cJ gs ofP ofB fG fE near),nC N a cJ fG fE l [],0)):=by
 have hll:=b.rW.yY
 unfold fx
 rw [h1,aB]
 simp only [Aa,bne_self_eq_false,aS]
 rw [we b hN,aB]
 by_cases hn:near<0\/100000<near
 ·rw [aC hn,aC hn];rfl
 rw [aD hn,aD hn]
 by_cases hs:20000< (xe (bJ 0 cJ) gs ofP ofB near).length
 ·rw [aC hs,aC hs];rfl
 rw [aD hs,aD hs]
 simp only [bne_self_eq_false,aS]
 obtain⟨c1,c2,c3⟩:=yz b (fl:=[]) tR hN
 rw [c1,aB]
 unfold wC
 generalize hS:xe (bJ 0 cJ) gs ofP ofB near=S at *
 rw [qs (s:=(pU N a cJ fG fE [],([]:List bL))) (fun k=>(pU N a cJ fG fE [],oD (fun x=>nC N a cJ fG fE l [x]) ((S.take k).filter (fun x=> !yA N a cJ fG fE x)))) (by omega) rfl (fun k hk=>by
  have hx:S[k]? =some S[k]:=aJ hk
  have hr:=zR b (near:=near) (x:=S[k]) (by rw [hS];exact cP hk)
  obtain⟨d1,d2,d3⟩:=yz b (fl:=[S[k]]) hr hN
  have hlen: (oD (fun x=>nC N a cJ fG fE l [x]) ((S.take k).filter (fun x=> !yA N a cJ fG fE x))).length<=k:=by
   unfold oD;rw [eY]
   exact l7 (jC _ _) (List.length_take_le _ _)
  rw [dD hx,aB,d1,aB,Cj (by rw [d2];omega) (by rw [c2,d2]),aB,eM hk,gS]
  have eh:yA N a cJ fG fE S[k]=Jc (pU N a cJ fG fE [S[k]]) (pU N a cJ fG fE []):=rfl
  cases hh:Jc (pU N a cJ fG fE [S[k]]) (pU N a cJ fG fE []) with
  | false=>
   rw [lF,aR,zT b hr hl ht hN,aB,fF (by simp only [fI,List.length_nil];omega),aB,aB,List.filter_cons_of_pos (by rw [eh,hh];rfl),List.filter_nil]
   unfold oD
   rw [eB];rfl
  | true=>rw [lE,aS,aB,List.filter_cons_of_neg (by rw [eh,hh];exact ji),List.filter_nil,kl]),aB,eD,zT b tR hl ht hN,aB]
end
section
variable {N:Nat}
theorem EW {a:gU} {l:List Test} {near:Int} {f:aT->List Bool} {F:List aT} {rg:List Bool} (h:fx N a l near=some (oD f F,rg,0)) (hF:F.length<=1000000) (hf: ∀x,(f x).length<=1000000000):
  mf N a l near=some (F.filter (fun x=>decide (f x=rg)),0):=by
 have hlF: (oD f F).length=F.length:=by unfold oD;rw [eY]
 unfold mf
 rw [h,aB]
 simp only [bne_self_eq_false,aS]
 rw [qs (s:=(rg,([]:List aT))) (fun k=>(rg,(F.take k).filter (fun x=>decide (f x=rg)))) (by omega) rfl (fun k hk=>by
  rw [hlF] at hk
  have hx: (oD f F)[k]? =some ⟨F[k],f F[k]⟩:=by unfold oD;rw [fP,aJ hk];rfl
  have hlen: ((F.take k).filter (fun x=>decide (f x=rg))).length<=k:=l7 (jC _ _) (List.length_take_le _ _)
  rw [dD hx,aB,yB (hf _),aB,eM hk,gS]
  by_cases hh:f F[k]=rg
  ·rw [cE hh,aR,fF (by simp only [fI,List.length_nil];omega),aB,aB,List.filter_cons_of_pos (by rw [bP];exact hh),List.filter_nil]
  ·rw [bG hh,aS,aB,List.filter_cons_of_neg (by rw [bP];exact hh),List.filter_nil,kl]),aB,hlF,eD]
end
end Go.Gk
namespace Go.Gk
open Go Classical
def Cm (s:List Bool):dA:=⟨s.map (fun b=>bif b then 121 else 110)⟩
theorem Cn {s t:List Bool} (h:Cm s=Cm t):s=t:=by
 have h:s.map (fun b=>bif b then (121:UInt8) else 110)=t.map (fun b=>bif b then (121:UInt8) else 110):=congrArg dA.cR h
 refine List.map_inj_right (fun x y hxy=>?_) |>.1 h
 cases x <;> cases y <;> first | rfl | exact absurd hxy (by decide)
def lQ (G:List (List Bool×List aT)) (s:List Bool) (x:aT):List (List Bool×List aT):=match G.findIdx? (fun g=>decide (g.1=s)) with
 | some i=>G.modify i (fun g=>(g.1,g.2++[x]))
 | none=>G++[(s,[x])]
def o5 (f:aT->List Bool) (rg:List Bool) (F:List aT):List (List Bool×List aT):=F.foldl (fun G x=>if f x=rg then G else lQ G (f x) x) []
theorem Df (f:aT->List Bool) (rg:List Bool) (F:List aT) (x:aT):o5 f rg (F++[x])=if f x=rg then o5 f rg F else lQ (o5 f rg F) (f x) x:=by unfold o5;rw [List.foldl_append];rfl
def mw (G:List (List Bool×List aT)):Nat:=(G.map (fun g=>g.2.length)).sum
theorem wE {x:aT}: ∀{G:List (List Bool×List aT)} {i:Nat},i<G.length->mw (G.modify i (fun g=>(g.1,g.2++[x])))=mw G+1
 | g::G,0,_=>by unfold mw;simp;omega
 | g::G,i+1,h=>by
  have:=wE (x:=x) (G:=G) (i:=i) (by simpa using h)
  unfold mw at this ⊢
  rw [List.modify_succ_cons,dV,List.sum_cons,dV,List.sum_cons,this];omega
theorem Dg (G:List (List Bool×List aT)) (s:List Bool) (x:aT):mw (lQ G s x)=mw G+1:=by
 unfold lQ
 split
 ·rename_i i h
  exact wE (List.findIdx?_eq_some_iff_getElem.1 h).1
 ·unfold mw;simp
theorem zU (f:aT->List Bool) (rg:List Bool): ∀(F:List aT) (G:List (List Bool×List aT)),mw (F.foldl (fun G x=>if f x=rg then G else lQ G (f x) x) G)=mw G+ (F.filter (fun x=> !decide (f x=rg))).length
 | [],G=>rfl
 | x::F,G=>by
  rw [List.foldl_cons,zU f rg F]
  by_cases h:f x=rg
  ·rw [aC h,List.filter_cons_of_neg (by rw [cE h];decide)]
  ·rw [aD h,Dg,List.filter_cons_of_pos (by rw [bG h];rfl),fI];omega
theorem Co {g:List Bool×List aT}: ∀{G:List (List Bool×List aT)},g∈G->g.2.length<=mw G
 | g'::G,h=>by
  unfold mw
  rw [dV,List.sum_cons]
  rcases fQ.1 h with rfl | h
  ·omega
  ·have:=Co h
   unfold mw at this;omega
theorem zV (f:aT->List Bool) (rg:List Bool) (F:List aT):mw (o5 f rg F)= (F.filter (fun x=> !decide (f x=rg))).length:=by
 have:=zU f rg F []
 unfold o5
 rw [this];simp [mw]
theorem EX {G:List (List Bool×List aT)} {s:List Bool} {x:aT} (h: ∀g∈G,g.2≠[]): ∀g∈lQ G s x,g.2≠[]:=by
 unfold lQ
 split
 ·rename_i i hi
  intro g hg
  obtain⟨k,hk⟩:=gk hg
  rw [List.getElem?_modify] at hk
  cases hgk:G[k]? with
  | none=>rw [hgk] at hk;cases hk
  | some g'=>
   rw [hgk] at hk
   have hk: (if i=k then (g'.1,g'.2++[x]) else g')=g:=by injection hk
   by_cases e:i=k
   ·rw [aC e] at hk;rw [<-hk];simp
   ·rw [aD e] at hk;rw [<-hk];exact h g' (gH hgk)
 ·intro g hg
  rcases cS.1 hg with hg | hg
  ·exact h g hg
  ·rw [tX] at hg;subst hg;simp
theorem Cp (f:aT->List Bool) (rg:List Bool): ∀(F:List aT) (G:List (List Bool×List aT)),(∀g∈G,g.2≠[])->∀g∈F.foldl (fun G x=>if f x=rg then G else lQ G (f x) x) G,g.2≠[]
 | [],G,h=>h
 | x::F,G,h=>by
  rw [List.foldl_cons]
  refine Cp f rg F _ ?_
  by_cases e:f x=rg
  ·rw [aC e];exact h
  ·rw [aD e];exact EX h
theorem Dh (G:List (List Bool×List aT)) (s:List Bool) (x:aT): (lQ G s x).length<=G.length+1:=by
 unfold lQ
 split
 ·rw [List.length_modify];omega
 ·simp
structure Mt (M:List (dA×Int)) (G:List (List Bool×List aT)):Prop where
 has: ∀s,gK M (Cm s)= (G.findIdx? (fun g=>decide (g.1=s))).isSome
 get: ∀s i,G.findIdx? (fun g=>decide (g.1=s))=some i->dH M (Cm s) 0= ((i:Nat):Int)
theorem r5 {G:List (List Bool×List aT)} {i:Nat} {x:aT} (s:List Bool): (G.modify i (fun g=>(g.1,g.2++[x]))).findIdx? (fun g=>decide (g.1=s))=G.findIdx? (fun g=>decide (g.1=s)):=by
 induction G generalizing i with
 | nil=>cases i <;> rfl
 | cons g G ih=>
  cases i with
  | zero=>rw [List.modify_zero_cons,List.findIdx?_cons,List.findIdx?_cons]
  | succ i=>rw [List.modify_succ_cons,List.findIdx?_cons,List.findIdx?_cons,ih]
theorem tU {α:Type} (p:α->Bool): ∀(l:List α),(l.filter p).length+ (l.filter (fun x=> !p x)).length=l.length
 | []=>rfl
 | x::l=>by
  have:=tU p l
  cases h:p x with
  | true=>rw [List.filter_cons_of_pos h,List.filter_cons_of_neg (by rw [h];decide),fI,fI];omega
  | false=>rw [List.filter_cons_of_neg (by rw [h];decide),List.filter_cons_of_pos (by rw [h];rfl),fI,fI];omega
section
variable {N:Nat}
theorem AW {a:gU} {l:List Test} {near e:Int} (he:e≠0) (h:fx N a l near=some ([],[],e)):iS N a l near=some ([],e):=by
 unfold iS
 rw [h,aB,show ((([],[],e):List bL×List Bool×Int).2.2 != 0)=true by simpa using he,aR]
theorem Cq {a:gU} {l:List Test} {near:Int} {f:aT->List Bool} {F:List aT} {rg:List Bool} (h:fx N a l near=some (oD f F,rg,0)) (hF:F.length<=1000000) (hf: ∀x,(f x).length<=1048576):
  iS N a l near=some ((o5 f rg F).map (fun g=>g.2),0):=by
 have hlF: (oD f F).length=F.length:=by unfold oD;rw [eY]
 refine Ok.get ?_
 unfold iS
 refine Ok.eq h ?_
 dsimp only
 rw [bne_self_eq_false,aS,hlF]
 refine Ok.bind (Ok.iL (fun k st=>st.1=rg/\(o5 f rg (F.take k)).length<=k/\Mt st.2.1 (o5 f rg (F.take k))/\st.2.2= (o5 f rg (F.take k)).map (fun g=>g.2)) (by omega) ⟨rfl,bM _,⟨fun s=>rfl,fun s i hi=>by cases hi⟩,rfl⟩ (fun k st hk I=>?_)) (fun st I=>Ok.ret ?_)
 rotate_left
 ·rw [eD] at I
  rw [I.2.2.2]
 obtain⟨r0,M,out⟩:=st
 obtain⟨rfl,i1,i2,i3⟩:=I
 dsimp only at i1 i2 i3 ⊢
 subst i3
 have hx: (oD f F)[k]? =some ⟨F[k],f F[k]⟩:=by unfold oD;rw [fP,aJ hk];rfl
 have hfk:=hf F[k]
 have hts:F.take (k+1)=F.take k++[F[k]]:=eM hk
 rw [hts,Df]
 have hsG:mw (o5 f r0 (F.take k))<=k:=by
  rw [zV]
  exact l7 (jC _ _) (List.length_take_le _ _)
 generalize o5 f r0 (F.take k)=G at *
 refine Ok.ix hx ?_
 dsimp only
 refine Ok.eq (yB (by omega)) ?_
 by_cases e:f F[k]=r0
 ·rw [cE e,aR,aC e]
  exact Ok.ret ⟨rfl,by omega,i2,rfl⟩
 rw [bG e,aS,aD e]
 have hkey:iL (f F[k]).length (fun(k253:Nat) (s254: (List UInt8))=>((idx (f F[k]) (k253:Int)).bind fun x292=>(bif x292 then ((app 1 s254 ([121]: (List UInt8))).bind fun x303=>some x303) else ((app 1 s254 ([110]: (List UInt8))).bind fun x306=>some x306)).bind fun s300=>some s300:Option ((List UInt8)))) ([]: (List UInt8))=some ((f F[k]).map (fun b=>bif b then 121 else 110)):=by
  rw [qs (s:=([]:List UInt8)) (fun j=>((f F[k]).take j).map (fun b=>bif b then 121 else 110)) (by omega) rfl (fun j hj=>by
   have hb: (f F[k])[j]? =some (f F[k])[j]:=aJ hj
   have hl: (((f F[k]).take j).map (fun b=>bif b then (121:UInt8) else 110)).length<=j:=by rw [eY];exact List.length_take_le _ _
   rw [dD hb,aB,eM hj,eB]
   cases (f F[k])[j] with
   | true=>rw [aR,fF (by simp only [fI,List.length_nil];omega)];rfl
   | false=>rw [aS,fF (by simp only [fI,List.length_nil];omega)];rfl),eD]
 refine Ok.eq hkey ?_
 have hks: (⟨(f F[k]).map (fun b=>bif b then 121 else 110)⟩:dA)=Cm (f F[k]):=rfl
 rw [hks]
 have hGl: (lQ G (f F[k]) F[k]).length<=k+1:=by have:=Dh G (f F[k]) F[k];omega
 cases hfi:G.findIdx? (fun g=>decide (g.1=f F[k])) with
 | some i=>
  have hm:gK M (Cm (f F[k]))=true:=by rw [i2.has,hfi];rfl
  have hg:=i2.get _ _ hfi
  have hil:=(List.findIdx?_eq_some_iff_getElem.1 hfi).1
  have eG:lQ G (f F[k]) F[k]=G.modify i (fun g=>(g.1,g.2++[F[k]])):=by unfold lQ;rw [hfi]
  have ho: (G.map (fun g=>g.2))[i]? =some G[i].2:=by rw [fP,aJ hil];rfl
  have hsum:G[i].2.length<=k:=l7 (Co (cP hil)) hsG
  rw [hm,lE,aS]
  refine Ok.eq (x:=(M,G.map (fun g=>g.2),((i:Nat):Int))) (by rw [hg]) ?_
  dsimp only
  refine Ok.ix ho (Ok.app (by simp only [fI,List.length_nil];omega) (Ok.ix ho (Ok.ret ⟨rfl,hGl,⟨fun s=>?_,fun s j hj=>?_⟩,?_⟩)))
  ·rw [i2.has,eG,r5]
  ·rw [eG,r5] at hj;exact i2.get s j hj
  ·dsimp only
   rw [bY,eG]
   refine List.ext_getElem? fun j=>?_
   rw [fP,List.getElem?_modify]
   by_cases ej:i=j
   ·subst ej
    rw [List.getElem?_set_self (by rw [eY];exact hil),aJ hil]
    simp
   ·rw [List.getElem?_set_ne ej,fP]
    cases G[j]? with
    | none=>rfl
    | some g=>simp [ej]
 | none=>
  have hm:gK M (Cm (f F[k]))=false:=by rw [i2.has,hfi];rfl
  have eG:lQ G (f F[k]) F[k]=G++[(f F[k],[F[k]])]:=by unfold lQ;rw [hfi]
  rw [hm,lF,aR]
  have hlen: (G.map (fun g=>g.2)).length=G.length:=eY _
  refine Ok.eq (x:=(nT M (Cm (f F[k])) ((G.length:Nat):Int),G.map (fun g=>g.2)++[[]],((G.length:Nat):Int))) (by rw [fF (by simp only [eY,fI,List.length_nil];omega),aB,hlen]) ?_
  dsimp only
  have ho: (G.map (fun g=>g.2)++[[]])[G.length]? =some []:=by rw [<-hlen,fz (bM _)];simp
  refine Ok.ix ho (Ok.app (by simp) (Ok.ix ho (Ok.ret ⟨rfl,hGl,⟨fun s=>?_,fun s j hj=>?_⟩,?_⟩)))
  ·rw [kg,eG,List.findIdx?_append,i2.has]
   by_cases es:s=f F[k]
   ·subst es;rw [hfi];simp
   ·rw [bG (fun h=>es (Cn h)),Bool.false_or]
    have: [(f F[k],[F[k]])].findIdx? (fun g=>decide (g.1=s))=none:=by simp [Ne.symm es]
    rw [this];cases G.findIdx? (fun g=>decide (g.1=s)) <;> rfl
  ·rw [iK]
   rw [eG,List.findIdx?_append] at hj
   by_cases es:s=f F[k]
   ·subst es
    rw [hfi] at hj
    rw [aC rfl]
    simp at hj;omega
   ·rw [aD (fun h=>es (Cn h))]
    have: [(f F[k],[F[k]])].findIdx? (fun g=>decide (g.1=s))=none:=by simp [Ne.symm es]
    rw [this] at hj
    refine i2.get s j ?_
    cases hq:G.findIdx? (fun g=>decide (g.1=s)) with
    | none=>rw [hq] at hj;cases hj
    | some q=>rw [hq] at hj;exact hj
  ·dsimp only
   rw [bY,eG,eB,List.set_append_right _ _ (by rw [hlen];exact bM _),hlen,Nat.sub_self];rfl
theorem qE {a:gU} {l:List Test} {near:Int} (ha:bk a<=1048576) (hl:bk l<=1048576) (_hn:bk near<=1048576) (hN:4398046511104<=N):cW N a l near=some true:=by
 have hs:=B9 ha
 have hll:l.length<=1048576:=by have:=tv l;omega
 have aw:=HL hN
 have bad: ∀{x:List aT×Int} {e:Int},e≠0->jr N a near=some x->(x.2=0\/x.1= [])->fx N a l near=some ([],[],e)->cW N a l near=some true:=fun{x e} he h0 h1 h=>by
  unfold cW
  rw [h0,aB,AW he h,aB,aw]
  simp only [show (e != 0)=true by simpa using he,show (e==0)=false by simpa using he,Bool.or_true,aR,aS,aB,List.length_nil]
  by_cases hx:x.2=0
  ·rw [hx];rfl
  ·rw [show (x.2==0)=false by simpa using hx,aS,h1.resolve_left hx];rfl
 rcases opened (N:=N) hs hN with ⟨e,he,h⟩ | ⟨b,h⟩
 ·exact bad he (Dd he h near) (.inr rfl) (wD he (GO he h l))
 rename_i jB cJ r gs ofP ofB fG fE
 have hS:=EV b h near hN
 rcases HO b h hll hN with ⟨e1,e2⟩ | ⟨e1,e2⟩
 ·refine bad e1 hS ?_ (wD e1 e2)
  by_cases hn:near<0\/100000<near
  ·rw [aC hn];exact .inr rfl
  ·rw [aD hn]
   by_cases hsl:20000< (xe (bJ 0 cJ) gs ofP ofB near).length
   ·rw [aC hsl];exact .inr rfl
   ·rw [aD hsl];exact .inl rfl
 obtain⟨t1,t2,_⟩:=AV e1
 have hH:=De b e2 hll t2 near hN
 have hZ:=Ck b h near hN
 by_cases hn:near<0\/100000<near
 ·rw [aC hn] at hH hS;exact bad (by decide) hS (.inr rfl) hH
 rw [aD hn] at hH hS hZ
 by_cases hsl:20000< (xe (bJ 0 cJ) gs ofP ofB near).length
 ·rw [aC hsl] at hH hS;exact bad (by decide) hS (.inr rfl) hH
 rw [aD hsl] at hH hS hZ
 have hFl:=tU (yA N a cJ fG fE) (xe (bJ 0 cJ) gs ofP ofB near)
 have hF0: (xe (bJ 0 cJ) gs ofP ofB near).filter (fun x=> !yA N a cJ fG fE x)=wC N a cJ gs ofP ofB fG fE near:=rfl
 rw [hF0] at hFl
 have hM:=EW hH (by omega) (fun x=>by rw [zS];omega)
 have hT:=Cq hH (by omega) (fun x=>by rw [zS];exact hll)
 have hsum:=zV (fun x=>nC N a cJ fG fE l [x]) (nC N a cJ fG fE l []) (wC N a cJ gs ofP ofB fG fE near)
 have h2:=tU (fun x=>decide (nC N a cJ fG fE l [x]=nC N a cJ fG fE l [])) (wC N a cJ gs ofP ofB fG fE near)
 have hne: ∀g∈o5 (fun x=>nC N a cJ fG fE l [x]) (nC N a cJ fG fE l []) (wC N a cJ gs ofP ofB fG fE near),g.2≠[]:=Cp _ _ _ [] (fun g hg=>by cases hg)
 generalize o5 (fun x=>nC N a cJ fG fE l [x]) (nC N a cJ fG fE l []) (wC N a cJ gs ofP ofB fG fE near)=G at *
 generalize (wC N a cJ gs ofP ofB fG fE near).filter (fun x=>decide (nC N a cJ fG fE l [x]=nC N a cJ fG fE l []))=X at *
 generalize (xe (bJ 0 cJ) gs ofP ofB near).filter (yA N a cJ fG fE)=Y at *
 have hGl:G.length<=mw G:=by
  have key: ∀(G:List (List Bool×List aT)),(∀g∈G,g.2≠[])->G.length<=mw G:=by
   intro G
   induction G with
   | nil=>intro _;exact mP _
   | cons g G ih=>
    intro h
    have h1:=ih (fun g hg=>h g (jh _ hg))
    have h3:=List.length_pos_iff.2 (h g (List.mem_cons_self ..))
    unfold mw at h1 ⊢
    rw [dV,List.sum_cons,fI];omega
  exact key G hne
 have hpre: ∀(G:List (List Bool×List aT)) (j:Nat) g,G[j]? =some g->mw (G.take (j+1))=mw (G.take j)+g.2.length:=fun G j g hg=>by
  have hj:=(bC.1 hg).1
  rw [eM hj]
  unfold mw
  rw [eB,List.sum_append,dV,List.map_nil,List.sum_cons,List.sum_nil,(bC.1 hg).2];omega
 have hle: ∀(G:List (List Bool×List aT)) (j:Nat),mw (G.take j)<=mw G:=fun G j=>by
  conv=>rhs;rw [<-List.take_append_drop j G]
  unfold mw
  rw [eB,List.sum_append];omega
 unfold cW
 rw [hS,aB,hT,aB]
 simp only [bne_self_eq_false,Bool.or_self,aS]
 rw [hM,aB,hZ,aB]
 dsimp only
 rw [wrap_add (by omega),eY]
 refine Ok.get ?_
 refine Ok.bind (Ok.BT (n:=G.length) (fun st=>st.2) (fun j st=>st.1= ((X.length+Y.length+mw (G.take j):Nat):Int)) (Go:=fun st=>st.1= ((X.length+Y.length+mw G:Nat):Int)) (Rt:=fun _=>False) ?_ ?_ (mP _) rfl (by simp [mw]) (by omega)) ?_
 ·rintro j ⟨u,i⟩ hj e hu
  dsimp only at e hu ⊢
  subst e;subst hu
  have hg:G[j]? =some G[j]:=aJ hj
  have hy: (G.map (fun g=>g.2))[j]? =some G[j].2:=by rw [fP,hg];rfl
  have hpos:=List.length_pos_iff.2 (hne _ (cP hj))
  have h3:=hpre G j _ hg
  have h4:=hle G (j+1)
  rw [K2 hj,aR]
  refine Ok.ix hy (Ok.ix hy ?_)
  rw [show (((G[j].2.length:Nat):Int)==0)=false by rw [beq_eq_false_iff_ne];omega,aS]
  refine Ok.nx ⟨gx (by omega),?_⟩
  dsimp only
  rw [wrap_add (by omega),h3,<-Nat.add_assoc]
 ·rintro⟨u,i⟩ e hu
  dsimp only at e hu ⊢
  subst e;subst hu
  rw [K3,aS]
  exact Ok.br (by dsimp only;rw [eD])
 intro o ho
 refine Ok.cs ho ?_ (fun r hr=>hr.elim)
 rintro⟨u,i⟩ hu
 dsimp only at hu ⊢
 subst hu
 rw [show ((((X.length+Y.length+mw G:Nat):Int))==(((xe (bJ 0 cJ) gs ofP ofB near).length:Nat):Int))=true by rw [beq_iff_eq];omega,aw]
 exact Ok.ret rfl
end
end Go.Gk
