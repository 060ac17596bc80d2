/-
  Helping texts: plain functions and plain laws. No statement of the seed is proved here.
-/
import Derived.Test.YthioiiocofohiaaGreatDoorE1
import Derived.Test.YthioiiocofohiaaGreatDoorA2
set_option linter.unusedVariables false
set_option linter.unusedSimpArgs false
set_option linter.unusedSectionVars false
namespace Go.Gk
open Go Classical
section
variable {N:Nat}
theorem vz {p:aH}: ∀{cV:List (List (List aA))} {k:Nat},p∈bH k cV->∃(i:Nat) (ps:List (List aA)) (q:List aA),cV[i]? =some ps/\q∈ps/\p= ⟨((k+i:Nat):Int),q,aN q⟩
 | [],k,h=>by cases h
 | ps::cV,k,h=>by
  rcases cR.1 h with h | h
  ·obtain⟨q,hq,rfl⟩:=cP.1 h
   exact⟨0,ps,q,rfl,hq,rfl⟩
  ·obtain⟨i,ps',q,h1,h2,h3⟩:=vz h
   refine⟨i+1,ps',q,by simpa using h1,h2,?_⟩
   rw [h3,show k+1+i=k+ (i+1) by omega]
structure ny (a:iu):Prop where
 zY:0<a.aK.length/\a.aK.length<=16
 Ly: ∀r∈a.aK,iQ r=0
 out:iQ a.dA=0
 many:a.dA.length+ (a.aK.map List.length).sum<=2000
 uL:lq a=0
 uM:kF a=0
theorem ny.gb {a:iu} (h:ny a):mA a.aT:=⟨(oZ h.uL).1,fun b hb=>⟨((oZ h.uL).2 b hb).1,((oZ h.uL).2 b hb).2.1⟩⟩
theorem ny.cs {a:iu} (h:ny a): ∀r∈a.aK,r.length<=2000/\∀x∈r,BN x:=fun r hr=>Cn (oI.1 (h.Ly r hr)).1
structure uN (a:iu) (jm:List (List aA)) (cV:List (List (List aA))) (p:aH) (i:Nat) (r:List aI) (s:List aA) (ps:List (List aA)) (u:Nat->Nat) (j k:Nat):Prop where
 LM:a.aK[i]? =some r
 jm:jm[i]? =some s
 cV:cV[i]? =some ps
 dr:rX r (mR a.aT ((i:Nat):Int)) s
 pt:pX s u ps
 at_:ps[j]? =some p.Set
 head: (bT (aN s).length u)[j]? =some k
 set:oG (lR (aN s) (aN s).length u k) p.Set
 lim:tA (px r++px (mR a.aT ((i:Nat):Int))) (lj r++lj (mR a.aT ((i:Nat):Int))) (p.Set.map bM)
 J8:p.cU= ((i:Nat):Int)
 J9:p.iO=aN p.Set
theorem FM {a:iu} {jm:List (List aA)} {cV:List (List (List aA))} (hg:ny a) (hD:tp a.aK a.aT a.aK.length jm cV) {p:aH} (hp:p∈bH 0 cV): ∃i r s ps u j k,uN a jm cV p i r s ps u j k:=by
 obtain⟨i,ps,q,h1,h2,rfl⟩:=vz hp
 have hil:i<a.aK.length:=by have:=(aZ.1 h1).1;rw [hD.zX] at this;exact this
 have hc:a.aK[i]? =some a.aK[i]:=aJ hil
 have hd:jm[i]? =some (jm[i]'(by rw [hD.len];exact hil)):=aJ _
 have hdr:=hD.dr i _ _ hil hc hd
 obtain⟨u,hu⟩:=hD.pt i _ ps hil hd h1
 obtain⟨sx,sy⟩:=hdr.small (hg.cs _ (cI hil)).2 (fun x hx=>(uG hg.gb _ x hx).1)
 obtain⟨j,k,g1,g2,g3,g4⟩:=xG hu hdr.can hdr.lim sx sy h2
 exact⟨i,_,_,ps,u,j,k,hc,hd,h1,hdr,hu,g1,g2,g3,g4,by rw [fV],rfl⟩
theorem uN.FC {a:iu} {jm:List (List aA)} {cV:List (List (List aA))} (hg:ny a) {p:aH} {i:Nat} {r:List aI} {s:List aA} {ps:List (List aA)} {u:Nat->Nat} {j k:Nat} (h:uN a jm cV p i r s ps u j k):
  p.Set.length<=5000/\(∀b∈p.Set,b.Xs.length<=5000)/\p.iO.length<=5000*5000:=by
 have h1:=(hg.cs r (gJ h.LM)).1
 have h2:=yS hg.gb ((i:Nat):Int)
 rw [h.J9]
 exact vx (A:=5000) h.set.can h.lim (by rw [dS,lk,lk];omega) (by rw [dS,jC,jC];omega)
def Dc (a0 a1 b0 b1:Int):Bool:=decide (b0<a1)&&decide (a0<b1)
def FN (a b:aI):Bool:=Dc a.X0 a.X1 b.X0 b.X1&&Dc a.Y0 a.Y1 b.Y0 b.Y1
theorem xK {a0 a1 b0 b1:Int} (h1: -1000000<=a0/\a0<=1000000) (h2: -1000000<=a1/\a1<=1000000) (h3: -1000000<=b0/\b0<=1000000) (h4: -1000000<=b1/\b1<=1000000): ∃n,iw N a0 a1 b0 b1=some n/\0<=n/\(n=0↔Dc a0 a1 b0 b1=true):=by
 unfold iw Dc
 have e1:IntKind.wrap .i64 (b0 - a1)=b0 - a1:=eO (by omega) (by omega)
 have e2:IntKind.wrap .i64 (a0 - b1)=a0 - b1:=eO (by omega) (by omega)
 have e3:IntKind.wrap .i64 (b0 - a1+1)=b0 - a1+1:=eO (by omega) (by omega)
 have e4:IntKind.wrap .i64 (a0 - b1+1)=a0 - b1+1:=eO (by omega) (by omega)
 rw [e1,e2,e3,e4]
 refine⟨_,rfl,?_,?_⟩
 ·repeat' split
  all_goals omega
 ·rw [bP,bK,bK]
  repeat' split
  all_goals omega
theorem H5 {a b:aI} (h1:cW a=true) (h2:cW b=true): ∃n,jv N a b=some n/\(n=0↔FN a b=true):=by
 have b1:=gR h1
 have b2:=gR h2
 obtain⟨n,n1,n2,n3⟩:=xK (N:=N) (a0:=a.X0) (a1:=a.X1) (b0:=b.X0) (b1:=b.X1) (by omega) (by omega) (by omega) (by omega)
 obtain⟨m,m1,m2,m3⟩:=xK (N:=N) (a0:=a.Y0) (a1:=a.Y1) (b0:=b.Y0) (b1:=b.Y1) (by omega) (by omega) (by omega) (by omega)
 unfold jv FN
 rw [n1,aB,m1,aB]
 refine⟨_,rfl,?_⟩
 rw [bP,<-n3,<-m3]
 split <;> omega
def vA (x y:bQ):Bool:=(decide (x.bR<=y.To)&&decide (y.bR<=x.To))&&FN (wA x) (wA y)
def vQ (a:iu):Prop:=∃(i k:Nat) (x y:bQ),k<i/\a.aT[i]? =some x/\a.aT[k]? =some y/\vA x y=true
noncomputable def yi (r:List aI):Option Int:=if iQ r≠0 then some (iQ r) else none
noncomputable def z6 (a:iu):Int:=if 2000<a.dA.length+ (a.aK.map List.length).sum then 2 else if lq a≠0 then lq a else if kF a≠0 then kF a else if vQ a then 12 else 0
noncomputable def FO (a:iu):Int:=match a.aK.findSome? yi with | some e=>e | none=>if iQ a.dA≠0 then iQ a.dA else z6 a
noncomputable def jd (a:iu):Int:=if a.aK.length=0 then 9 else if 16<a.aK.length then 2 else FO a
def Kk (jm:List (List aA)) (cV:List (List (List aA))):Prop:=(∀s∈jm,(aN s).length<=2000)/\(bH 0 cV).length<=2000
abbrev xL:=(List (List aI))×(List aI)×(List bQ)×(List cQ)×(List (List aA))×(List aH)×(List (List Int))×(List cE)×(List Int)×(List Int)×(List Int)×(List dF)
def Hp (a:iu) (x:Option xL×Int):Prop:=
 (jd a≠0/\x= (none,jd a))\/(jd a=0/\ny a/\¬vQ a/\∃jm cV,tp a.aK a.aT a.aK.length jm cV/\
  ((¬Kk jm cV/\x= (none,2))\/(Kk jm cV/\∃r gs ofP ofB hZ gS,xI a.aT a.bD (bH 0 cV) r gs ofP ofB hZ gS/\
   x= (some (a.aK,a.dA,a.aT,a.bD,jm,bH 0 cV,dW a.aT (bH 0 cV),gs,ofP,ofB,hZ,gS),0))))
structure uO (a:iu):Prop where
 cs:a.aK.length<=1048576
 each: ∀r∈a.aK,r.length<=1048576
 out:a.dA.length<=1048576
 bs:a.aT.length<=1048576
 ls:a.bD.length<=1048576
 nm:xE a
theorem Bx {a:iu} (h:bk a<=1048576):uO a:=by
 rw [Fh] at h
 have h1:=s8 a.aK
 have h2:=s8 a.dA
 have h3:=s8 a.aT
 have h4:=s8 a.bD
 refine⟨by omega,fun r hr=>?_,by omega,by omega,by omega,fun x hx=>?_⟩
 ·have:=Cb hr
  have:=s8 r;omega
 ·have:=Cb hx
  rw [CZ,E8,E8] at this;omega
theorem yW {a:iu} (hs:uO a) (hN:4398046511104<=N):Ok (fB N a) (Hp a):=by
 unfold fB
 have pe: ∀e:Int,e≠0->jd a=e->Ok (some ((none:Option xL),e)) (Hp a):=fun e he h=>Ok.ret (.inl ⟨by rw [h];exact he,by rw [h]⟩)
 have c1:=hs.cs
 refine Ok.bif (fun h=>?_) (fun h=>?_)
 ·have:a.aK.length=0:=by have:=beq_iff_eq.1 h;omega
  exact pe 9 (by omega) (by unfold jd;rw [aD this])
 have h0: ¬a.aK.length=0:=by rw [beq_eq_false_iff_ne] at h;omega
 refine Ok.bif (fun h=>?_) (fun h=>?_)
 ·have h1:16<a.aK.length:=by have:=of_decide_eq_true h;omega
  exact pe 2 (by omega) (by unfold jd;rw [aC h0,aD h1])
 have h1: ¬16<a.aK.length:=by have:=of_decide_eq_false h;omega
 have pe1:jd a=FO a:=by unfold jd;rw [aC h0,aC h1]
 have hso:=hs.out
 have sumle: ∀k,k<=a.aK.length->((a.aK.take k).map List.length).sum<=k*1048576:=by
  intro k
  induction k with
  | zero=>intro _;simp
  | succ k ih=>
   intro hk
   have:=ih (by omega)
   have h2:=hs.each _ (cI (show k<a.aK.length by omega))
   rw [fw (by omega),eV,List.sum_append]
   simp only [eH,List.map_nil,List.sum_cons,List.sum_nil]
   rw [Nat.add_mul];omega
 refine Ok.bind (Ok.pF (Go:=fun s:Int=>s= ((a.dA.length+ (a.aK.map List.length).sum:Nat):Int)/\∀r∈a.aK,iQ r=0) (Rt:=fun x:Option xL×Int=>∃e,e≠0/\x= (none,e)/\a.aK.findSome? yi=some e)
  (fun(k:Nat) (s:Int)=>s= ((a.dA.length+ ((a.aK.take k).map List.length).sum:Nat):Int)/\∀r∈a.aK.take k,iQ r=0) (by omega) ⟨by simp,fun r hr=>by simp at hr⟩ (fun k s hk hI=>?_) (fun s hI=>by rw [eW] at hI;exact hI)) ?_
 ·obtain⟨e,hI⟩:=hI
  subst e
  have hkx:a.aK[k]? =some a.aK[k]:=aJ hk
  have hts:a.aK.take (k+1)=a.aK.take k++[a.aK[k]]:=fw hk
  have he:=hs.each _ (cI hk)
  refine Ok.ix hkx (Ok.eq (rz (by omega) hN) ?_)
  refine Ok.bif (fun h=>Ok.rt ?_) (fun h=>Ok.nx ?_)
  ·have h:iQ a.aK[k]≠0:=by simpa using h
   refine⟨_,h,rfl,?_⟩
   rw [List.findSome?_eq_some_iff]
   refine⟨a.aK.take k,a.aK[k],a.aK.drop (k+1),?_,by unfold yi;rw [aD h],fun r hr=>by unfold yi;rw [aC (by simpa using hI r hr)]⟩
   rw [<-pH hk,List.take_append_drop]
  ·have h:iQ a.aK[k]=0:=by simpa using h
   have:=sumle k (by omega)
   have hk16:k*1048576<=16*1048576:=Nat.mul_le_mul_right _ (by omega)
   refine⟨?_,fun r hr=>?_⟩
   ·rw [wrap_add (by omega),hts,eV,List.sum_append]
    simp only [eH,List.map_nil,List.sum_cons,List.sum_nil]
    congr 1
    omega
   ·rw [hts] at hr
    rcases cR.1 hr with hr | hr
    ·exact hI r hr
    ·simp at hr;subst hr;exact h
 intro o ho
 refine Ok.cs ho ?_ ?_
 rotate_left
 ·rintro x ⟨e,he,rfl,hf⟩
  exact pe e he (by rw [pe1];unfold FO;rw [hf])
 rintro s ⟨rfl,hreg⟩
 have Kh:a.aK.findSome? yi=none:=List.findSome?_eq_none_iff.2 fun r hr=>by unfold yi;rw [aC (by simpa using hreg r hr)]
 have pe2:jd a=if iQ a.dA≠0 then iQ a.dA else z6 a:=by rw [pe1];unfold FO;rw [Kh]
 refine Ok.eq (rz (by omega) hN) ?_
 refine Ok.bif (fun h=>?_) (fun h=>?_)
 ·have h:iQ a.dA≠0:=by simpa using h
  exact pe _ h (by rw [pe2,aD h])
 have hout:iQ a.dA=0:=by simpa using h
 have pe3:jd a=z6 a:=by rw [pe2,aC (by simpa using hout)]
 refine Ok.bif (fun h=>?_) (fun h=>?_)
 ·have h:2000<a.dA.length+ (a.aK.map List.length).sum:=by have:=of_decide_eq_true h;omega
  exact pe 2 (by omega) (by rw [pe3];unfold z6;rw [aD h])
 have hmany: ¬2000<a.dA.length+ (a.aK.map List.length).sum:=by have:=of_decide_eq_false h;omega
 have hbs:=hs.bs
 have hls:=hs.ls
 refine Ok.eq (yd (by omega) (by omega) (by omega)) ?_
 refine Ok.bif (fun h=>?_) (fun h=>?_)
 ·have h:lq a≠0:=by simpa using h
  exact pe _ h (by rw [pe3];unfold z6;rw [aC hmany,aD h])
 have hbo:lq a=0:=by simpa using h
 refine Ok.eq (ye (by omega) (by omega) hs.nm (by omega)) ?_
 refine Ok.bif (fun h=>?_) (fun h=>?_)
 ·have h:kF a≠0:=by simpa using h
  exact pe _ h (by rw [pe3];unfold z6;rw [aC hmany,aC (by simpa using hbo),aD h])
 have hla:kF a=0:=by simpa using h
 have hg:ny a:=⟨by omega,hreg,hout,by omega,hbo,hla⟩
 have pe4:jd a=if vQ a then 12 else 0:=by rw [pe3];unfold z6;rw [aC hmany,aC (by simpa using hbo),aC (by simpa using hla)]
 refine Ok.bind (Ok.pF (Go:=fun _:Unit=>¬vQ a) (Rt:=fun x:Option xL×Int=>x= (none,12)/\vQ a)
  (fun(k:Nat) (_:Unit)=>∀(i j:Nat) (x y:bQ),i<k->j<i->a.aT[i]? =some x->a.aT[j]? =some y->¬vA x y=true) (by omega) (fun i j x y h=>by omega) (fun k s hk hI=>?_) (fun s hI=>?_)) ?_
 ·have hkx:a.aT[k]? =some a.aT[k]:=aJ hk
  refine Ok.ix hkx (Ok.eq (tZ _ k (by omega)) ?_)
  have hgk:=hg.gb.ok _ (cI hk)
  refine Ok.bind (Ok.pF (Go:=fun _:Unit=>∀(j:Nat) (y:bQ),j<k->a.aT[j]? =some y->¬vA a.aT[k] y=true) (Rt:=fun x:Option xL×Int=>x= (none,12)/\vQ a)
   (fun(t:Nat) (_:Unit)=>∀(j:Nat) (y:bQ),j<t->a.aT[j]? =some y->¬vA a.aT[k] y=true) (by rw [cZ];omega) (fun j y h=>by omega) (fun t s ht hI2=>?_) (fun s hI2 j y hj hy=>hI2 j y (by rw [cZ];omega) hy)) ?_
  ·have htk:t<k:=by rw [cZ] at ht;omega
   have htx: (a.aT.take k)[t]? =some a.aT[t]:=by rw [List.getElem?_take_of_lt htk];exact aJ (by omega)
   have hgt:=hg.gb.ok _ (cI (show t<a.aT.length by omega))
   refine Ok.ix htx ?_
   refine Ok.eq (x:=vA a.aT[k] a.aT[t]) ?_ ?_
   ·unfold vA
    cases hc: (decide (a.aT[k].bR<=a.aT[t].To)&&decide (a.aT[t].bR<=a.aT[k].To)) with
    | false=>rfl
    | true=>
     obtain⟨n,n1,n2⟩:=H5 (N:=N) hgk.2 hgt.2
     rw [aR,lP hgk.1,aB,lP hgt.1,aB,n1,aB,Bool.true_and]
     congr 1
     rw [fX,beq_iff_eq];exact n2
   ·refine Ok.bif (fun h=>Ok.rt ⟨rfl,k,t,_,_,htk,hkx,aJ (by omega),h⟩) (fun h=>Ok.nx fun j y hj hy=>?_)
    by_cases e:j<t
    ·exact hI2 j y e hy
    ·have:j=t:=by omega
     subst this
     rw [aJ (by omega)] at hy;injection hy with hy
     rw [<-hy,h];simp
  ·intro o ho
   refine Ok.cs ho (fun s hI2=>Ok.nx fun i j x y hi hj hx hy=>?_) (fun x hx=>Ok.rt hx)
   by_cases e:i<k
   ·exact hI i j x y e hj hx hy
   ·have:i=k:=by omega
    subst this
    rw [hkx] at hx;injection hx with hx
    rw [<-hx];exact hI2 j y hj hy
 ·rintro⟨i,j,x,y,hj,hx,hy,hc⟩
  exact hI i j x y (aZ.1 hx).1 hj hx hy hc
 intro o ho
 refine Ok.cs ho ?_ ?_
 rotate_left
 ·rintro x ⟨rfl,hc⟩
  exact pe 12 (by omega) (by rw [pe4,aD hc])
 intro _ hncl
 have pe5:jd a=0:=by rw [pe4,aC hncl]
 refine Ok.bind (Cp (N:=N) (by omega) hg.cs hg.gb hN) ?_
 rintro⟨okk,jm,pcs⟩ ⟨cV,D,e1,e2⟩
 dsimp only at D e1 e2 ⊢
 subst e1
 refine Ok.bif (fun h=>Ok.ret (.inr ⟨pe5,hg,hncl,jm,cV,D, .inl ⟨fun hf=>?_,rfl⟩⟩)) (fun h=>?_)
 ·have:=e2.2 hf
  rw [this] at h;cases h
 ·have hf:Kk jm cV:=e2.1 (by cases okk <;> simp_all)
  have hpr: ∀p∈bH 0 cV,p.iO.length<=1073741824:=fun p hp=>by
   obtain⟨i,r,s,ps,u,j,k,hP⟩:=FM hg D hp
   have:=(hP.FC hg).2.2;omega
  have hf2:=hf.2
  refine Ok.eq (FE hg.gb (by omega) hpr) ?_
  refine Ok.bind (z5 (N:=N) hg.gb (by omega) hpr (by omega) hN) ?_
  rintro⟨gs,ofP,ofB,hZ,gS⟩ ⟨r,hC⟩
  exact Ok.ret (.inr ⟨pe5,hg,hncl,jm,cV,D, .inr ⟨hf,r,gs,ofP,ofB,hZ,gS,hC,rfl⟩⟩)
end
end Go.Gk
namespace Go.Gk
open Go Classical
section
variable {N:Nat}
theorem Dd {w:Nat} {g:Nat->Nat} {a:Nat}: ∀{ks:List Nat},ks.Nodup->a∈ks->(ks.map (fun k=>(if a=k then w else 0)+g k)).sum=w+ (ks.map g).sum
 | [],_,h=>by cases h
 | k::ks,hn,h=>by
  have hn':=List.nodup_cons.1 hn
  simp only [eH,List.sum_cons]
  by_cases e:a=k
  ·subst e
   rw [aD rfl]
   have:ks.map (fun k=>(if a=k then w else 0)+g k)=ks.map g:=List.map_congr_left fun x hx=>by
    rw [aC (fun e=>hn'.1 (by rw [e];exact hx)),fV]
   rw [this];omega
  ·rw [aC e,Dd hn'.2 (by rcases gm.1 h with h | h;exact absurd h e;exact h)];omega
theorem Bz {α:Type} {ks:List Nat} (hn:ks.Nodup) (f w:α->Nat): ∀{l:List α},(∀x∈l,f x∈ks)->(ks.map (fun k=>((l.filter (fun x=>decide (f x=k))).map w).sum)).sum= (l.map w).sum
 | [],_=>by
  have: ∀ks:List Nat,(ks.map (fun _=>0)).sum=0:=fun ks=>by
   induction ks with
   | nil=>rfl
   | cons k ks ih=>simp only [eH,List.sum_cons,ih]
  simpa using this ks
 | x::l,h=>by
  have ih:=Bz hn f w (l:=l) fun y hy=>h y (jo _ hy)
  have: (ks.map (fun k=>(((x::l).filter (fun x=>decide (f x=k))).map w).sum))=ks.map (fun k=>(if f x=k then w x else 0)+ ((l.filter (fun x=>decide (f x=k))).map w).sum):=List.map_congr_left fun k _=>by
   rw [List.filter_cons]
   by_cases e:f x=k
   ·rw [aD (by simpa using e),aD e,eH,List.sum_cons]
   ·rw [aC (by simpa using e),aC e,fV]
  rw [this,Dd hn (h x (by simp)),ih,eH,List.sum_cons]
theorem uN.ne {a:iu} {jm:List (List aA)} {cV:List (List (List aA))} {p:aH} {i:Nat} {r:List aI} {s:List aA} {ps:List (List aA)} {u:Nat->Nat} {j k:Nat} (h:uN a jm cV p i r s ps u j k):p.Set≠[]:=by
 intro e
 have hh:=gY.1 (gJ h.head)
 have hx: (aN s)[k]? =some (aN s)[k]:=aJ hh.1
 have hm: (aN s)[k]∈lR (aN s) (aN s).length u k:=mQ.2 ⟨k,hh.1,hh.2,hx⟩
 obtain⟨b,hb,q,hq,hr⟩:=nD (gJ hx)
 have hbm:bM b∈s.map bM:=cP.2 ⟨b,hb,rfl⟩
 have hq1:=Ch (h.dr.can.each _ hbm).2.2.1 q hq
 have hb1:=(h.dr.can.each _ hbm).1
 have hc:=h.set.cover q.1 b.Y0
 rw [e] at hc
 have:vO (lR (aN s) (aN s).length u k) q.1 b.Y0=true:=jR.2 ⟨_,hm,by rw [hr];exact⟨⟨Int.le_refl _,hq1⟩,Int.le_refl _,hb1⟩⟩
 rw [this] at hc
 cases hc
structure iR (a:iu) (jm:List (List aA)) (cV:List (List (List aA))) (r:Nat->Nat) (gs:List cE) (ofP ofB hZ:List Int) (gS:List dF):Prop where
 BA:ny a
 LO: ¬vQ a
 dr:tp a.aK a.aT a.aK.length jm cV
 zY:Kk jm cV
 Ai:xI a.aT a.bD (bH 0 cV) r gs ofP ofB hZ gS
inductive H6 (N:Nat) (a:iu):Prop
 | err (e:Int) (he:e≠0) (h:fB N a=some (none,e))
 | ok {jm:List (List aA)} {cV:List (List (List aA))} {r:Nat->Nat} {gs:List cE} {ofP ofB hZ:List Int} {gS:List dF} (b:iR a jm cV r gs ofP ofB hZ gS)
  (h:fB N a=some (some (a.aK,a.dA,a.aT,a.bD,jm,bH 0 cV,dW a.aT (bH 0 cV),gs,ofP,ofB,hZ,gS),0))
theorem opened {a:iu} (hs:uO a) (hN:4398046511104<=N):H6 N a:=by
 obtain⟨x,hx,hI⟩:=yW (N:=N) hs hN
 rcases hI with ⟨he,rfl⟩ | ⟨_,hg,hcl,jm,cV,D,⟨_,rfl⟩ | ⟨hf,r,gs,ofP,ofB,hZ,gS,hC,rfl⟩⟩
 ·exact .err _ he hx
 ·exact .err 2 (by omega) hx
 ·exact .ok ⟨hg,hcl,D,hf,hC⟩ hx
end
end Go.Gk
namespace Go.Gk
open Go Classical
section
variable {S R:Type}
theorem Ok.Bg {body:S->Option (Fl S R)} {N n:Nat} {s:S} (ι:S->Int) (Inv:Nat->S->Prop) {Go:S->Prop} {Rt:R->Prop}
  (h1: ∀k s,k<n->ι s= ((k:Nat):Int)->Inv k s->Ok (body s) (Hm (fun s'=>ι s'= ((k+1:Nat):Int)/\Inv (k+1) s') Go Rt))
  (h2: ∀s,ι s= ((n:Nat):Int)->Inv n s->Ok (body s) (Hm (fun _=>False) Go Rt))
  {k0:Nat} (hk:k0<=n) (hi:ι s= ((k0:Nat):Int)) (h0:Inv k0 s) (hn:n<N):Ok (Gk.nc body N s) (JY Go Rt):=by
 refine Ok.nc (fun s=>∃k:Nat,k<=n/\ι s= ((k:Nat):Int)/\Inv k s) (fun s=>n - (ι s).toNat) ?_ ⟨k0,hk,hi,h0⟩ (by omega)
 rintro s ⟨k,hk,e,hI⟩
 by_cases hlt:k<n
 ·refine(h1 k s hlt e hI).mono ?_
  rintro(s' | s' | r) hp
  ·have hp1:ι s'= ((k+1:Nat):Int):=hp.1
   exact⟨⟨k+1,hlt,hp.1,hp.2⟩,by rw [e,hp1];simp only [bX];omega⟩
  ·exact hp
  ·exact hp
 ·have:k=n:=by omega
  subst this
  refine(h2 s e hI).mono ?_
  rintro(s' | s' | r) hp
  ·exact hp.elim
  ·exact hp
  ·exact hp
theorem Ka {k n:Nat} (h:k<n):decide (((k:Nat):Int)< ((n:Nat):Int))=true:=cB (by omega)
theorem Kb (n:Nat):decide (((n:Nat):Int)< ((n:Nat):Int))=false:=bE (by omega)
end
section
variable {N:Nat}
theorem z7 (a b:Int): (if a<b then b else a)=max a b:=by split <;> omega
end
end Go.Gk
namespace Go.Gk
open Go Classical
section
variable {α:Type} [DecidableEq α] {N:Nat}
end
section
variable {N:Nat}
end
end Go.Gk
namespace Go.Gk
open Go Classical
theorem xM (n:Nat) (g:Nat->Nat): ((List.range (n+1)).map g).sum= ((List.range n).map g).sum+g n:=by
 rw [List.range_succ,eV,List.sum_append];simp
def Kl (r:aI) (x y:Int):Bool:=(decide (r.X0<=x)&&decide (x<r.X1))&&(decide (r.Y0<=y)&&decide (y<r.Y1))
def Kc (a b:aI):Prop:=∀x y,¬(Kl a x y=true/\Kl b x y=true)
theorem GO {r:aI} {x y:Int}:Kl r x y=true↔(r.X0<=x/\x<r.X1)/\r.Y0<=y/\y<r.Y1:=by unfold Kl;simp
theorem uP: ∀{xs:List Int},lG xs->(yP xs).Pairwise (fun p q=>p.2<q.1)
 | [],_=>kH
 | [a],_=>kH
 | a::b::l,h=>by
  unfold yP
  rw [List.pairwise_cons]
  exact⟨fun q hq=>h.tail.head q.1 (zS q hq).1,uP h.tail.tail⟩
def Cs (a b:aI):Prop:=a.Y1<=b.Y0\/(a.Y0=b.Y0/\a.Y1=b.Y1/\a.X1<b.X0)
theorem Cs.apart {a b:aI} (h:Cs a b):Kc a b:=fun x y ⟨h1,h2⟩=>by
 rw [GO] at h1 h2
 rcases h with h | h <;> omega
theorem uQ: ∀{s:List aA},eA (s.map bM)->(aN s).Pairwise Cs
 | [],_=>kH
 | b::s,h=>by
  rw [lN,List.pairwise_append]
  refine⟨?_,uQ h.tail,fun x hx y hy=>?_⟩
  ·unfold lM
   rw [List.pairwise_map]
   exact List.Pairwise.imp (fun hpq=> .inr ⟨rfl,rfl,hpq⟩) (uP (h.each (bM b) (by simp)).2.2.1)
  ·unfold lM at hx
   obtain⟨p,_,rfl⟩:=cP.1 hx
   obtain⟨c,hc,q,_,rfl⟩:=nD hy
   exact .inl (h.xk (bM c) (cP.2 ⟨c,hc,rfl⟩))
theorem yX {s:List aA} (h:eA (s.map bM)): ∀r∈aN s,r.X0<r.X1/\r.Y0<r.Y1:=fun r hr=>by
 obtain⟨b,hb,p,hp,rfl⟩:=nD hr
 have hc:=h.each (bM b) (cP.2 ⟨b,hb,rfl⟩)
 exact⟨Ch hc.2.2.1 p hp,hc.1⟩
theorem BB {s:List aA} (h:eA (s.map bM)): (aN s).Nodup:=by
 have h1:=uQ h
 have h2:=yX h
 refine List.Pairwise.imp_of_mem (fun{a b} ha hb hab e=>?_) h1
 subst e
 have:=h2 a ha
 rcases hab with h | h <;> omega
def m0 (s:List Bd):Nat:=(s.map (fun b=>b.xs.length / 2)).sum
theorem rD (s t:List Bd):m0 (s++t)=m0 s+m0 t:=by unfold m0;rw [eV,List.sum_append]
theorem Eb (s:List Bd) (b:Bd):m0 (lL s b)<=m0 s+b.xs.length / 2:=by
 unfold lL
 split
 ·omega
 ·split
  ·rename_i c hc
   have hsp:=pV hc
   have e:m0 s=m0 s.dropLast+c.xs.length / 2:=by
    conv=>lhs;rw [hsp,rD]
    simp [m0]
   split
   ·rw [rD,e];simp [m0]
   ·rw [rD];simp [m0]
  ·simp [m0]
structure Lz (t:List Bd):Prop where
 each: ∀b∈t,b.y0<b.y1/\lG b.xs/\b.xs.length % 2=0
 ord:t.Pairwise (fun b c=>b.y1<=c.y0)
theorem fold_push: ∀(t out:List Bd),Lz t->eA out->(∀c∈out,∀b∈t,c.y1<=b.y0)->eA (t.foldl lL out)/\m0 (t.foldl lL out)<=m0 out+m0 t/\
  ∀y,rowAt (t.foldl lL out) y=if (∃b∈t,b.y0<=y/\y<b.y1) then rowAt t y else rowAt out y
 | [],out,_,hc,_=>⟨hc,by simp [m0],fun y=>by simp⟩
 | b::t,out,hl,hc,ho=>by
  have hb:=hl.each b (by simp)
  have hord:=List.pairwise_cons.1 hl.ord
  have ho1: ∀c∈out,c.y1<=b.y0:=fun c h=>ho c h b (by simp)
  have h1:=vk hc ho1 hb.2.1 hb.2.2
  have htop:=vl ho1 (show b.y0<=b.y1 by omega)
  obtain⟨f1,f2,f3⟩:=fold_push t (lL out b) ⟨fun c hcm=>hl.each c (jo _ hcm),hord.2⟩ h1 (fun c hcm d hd=>by have:=htop c hcm;have:=hord.1 d hd;omega)
  refine⟨f1,?_,fun y=>?_⟩
  ·have:=Eb out b
   have e:m0 (b::t)=b.xs.length / 2+m0 t:=by simp [m0]
   rw [List.foldl_cons,e];omega
  ·rw [List.foldl_cons,f3 y,vj ho1 (fun c hcm=>(hc.each c hcm).1) (fun h=>absurd h (by omega)),kB]
   by_cases hy:b.y0<=y/\y<b.y1
   ·have hn: ¬∃c∈t,c.y0<=y/\y<c.y1:=fun⟨c,hcm,h⟩=>by have:=hord.1 c hcm;omega
    rw [aC hn,aD hy,aD ⟨b,by simp,hy⟩,aD hy]
   ·rw [aC hy]
    by_cases h: ∃c∈t,c.y0<=y/\y<c.y1
    ·obtain⟨c,hcm,h⟩:=h
     rw [aD ⟨c,hcm,h⟩,aD ⟨c,jo _ hcm,h⟩,aC hy]
    ·rw [aC h,aC hy,aC (show ¬∃c∈b::t,c.y0<=y/\y<c.y1 from fun⟨c,hcm,h2⟩=>by
      rcases gm.1 hcm with rfl | hcm
      ·exact hy h2
      ·exact h ⟨c,hcm,h2⟩)]
noncomputable def na (C:List aI) (b:aA):Bd:=⟨b.Y0,b.Y1,oF ((yP b.Xs).filter (fun p=>decide ((⟨p.1,b.Y0,p.2,b.Y1⟩:aI)∈C)))⟩
theorem Ec {l m:List (Int×Int)} (h:l.Sublist m): (oF l).Sublist (oF m):=by
 induction h with
 | slnil=>exact List.Sublist.refl _
 | cons a _ ih=>rw [mx];exact(ih.cons _).cons _
 | cons_cons a _ ih=>rw [mx,mx];exact(ih.cons_cons _).cons_cons _
theorem xN (l:List (Int×Int)): (oF l).length % 2=0/\(oF l).length / 2=l.length:=by rw [DV];omega
theorem yY {s p:List aA} {C:List aI} (hs:eA (s.map bM)) (hp:eA (p.map bM)) (hC: ∀r∈C,r∈aN s) (hcov: ∀x y,uy (p.map bM) x y=vO C x y): (aN p).length<=C.length:=by
 have hinc: ∀b∈s,lG (na C b).xs:=fun b hb=>by
  have h1:=C8 hs b hb
  have h2:=Ec (List.filter_sublist (l:=yP b.Xs) (p:=fun p=>decide ((⟨p.1,b.Y0,p.2,b.Y1⟩:aI)∈C)))
  rw [uB (pA hs b hb)] at h2
  exact List.Pairwise.sublist h2 h1
 have hlow:Lz (s.map (na C)):=by
  refine⟨fun b hb=>?_,?_⟩
  ·obtain⟨c,hc,rfl⟩:=cP.1 hb
   exact⟨(hs.each (bM c) (cP.2 ⟨c,hc,rfl⟩)).1,hinc c hc,(xN _).1⟩
  ·have:=hs.ord
   rw [List.pairwise_map] at this ⊢
   exact List.Pairwise.imp (fun h=>h.1) this
 obtain⟨f1,f2,f3⟩:=fold_push (s.map (na C)) [] hlow eA.nil (fun c hc=>by cases hc)
 have hrow: ∀{t:List aA},(∀b∈t,b∈s)->∀x y,l5 (rowAt (t.map (na C)) y) x=true->vO C x y=true:=by
  intro t ht x y h
  induction t with
  | nil=>cases h
  | cons b t ih=>
   rw [eH,kB] at h
   split at h
   ·rename_i hy
    have hbm:=ht b (by simp)
    have h1:=hinc b hbm
    have h:l5 (oF ((yP b.Xs).filter (fun p=>decide ((⟨p.1,b.Y0,p.2,b.Y1⟩:aI)∈C)))) x=true:=h
    rw [uz h1,xo] at h
    obtain⟨q,hq,h2⟩:=h
    have hq:=gE.1 hq
    exact jR.2 ⟨_,of_decide_eq_true hq.2,h2,hy⟩
   ·exact ih (fun c hc=>ht c (jo _ hc)) h
 have hrow2: ∀x y,vO C x y=true->l5 (rowAt (s.map (na C)) y) x=true:=by
  intro x y h
  obtain⟨r,hr,h1,h2⟩:=jR.1 h
  obtain⟨b,hb,q,hq,rfl⟩:=nD (hC r hr)
  dsimp only at h1 h2
  have key: ∀{t:List aA},(∀c∈t,c∈s)->eA (t.map bM)->b∈t->rowAt (t.map (na C)) y= (na C b).xs:=by
   intro t ht hc hbt
   induction t with
   | nil=>cases hbt
   | cons c t ih=>
    rw [eH,kB]
    by_cases hy:c.Y0<=y/\y<c.Y1
    ·rw [aD (show (na C c).y0<=y/\y< (na C c).y1 from hy)]
     rcases gm.1 hbt with rfl | hbt
     ·rfl
     ·have:=hc.xk (bM b) (cP.2 ⟨b,hbt,rfl⟩)
      have e1: (bM c).y1=c.Y1:=rfl
      have e2: (bM b).y0=b.Y0:=rfl
      omega
    ·rw [aC (show ¬((na C c).y0<=y/\y< (na C c).y1) from hy)]
     rcases gm.1 hbt with rfl | hbt
     ·exact absurd h2 hy
     ·exact ih (fun d hd=>ht d (jo _ hd)) hc.tail hbt
  rw [key (fun c hc=>hc) hs hb]
  have h1':=hinc b hb
  show l5 (oF ((yP b.Xs).filter (fun p=>decide ((⟨p.1,b.Y0,p.2,b.Y1⟩:aI)∈C)))) x=true
  rw [uz h1',xo]
  exact⟨q,gE.2 ⟨hq,cB hr⟩,h1⟩
 have hsame:p.map bM= (s.map (na C)).foldl lL []:=xm hp f1 fun x y=>by
  rw [hcov,fX]
  have e:rowAt ((s.map (na C)).foldl lL []) y=rowAt (s.map (na C)) y:=by
   rw [f3]
   by_cases h: ∃b∈s.map (na C),b.y0<=y/\y<b.y1
   ·rw [aD h]
   ·rw [aC h]
    exact(jQ fun b hb=>by
     have: ¬(b.y0<=y/\y<b.y1):=fun h2=>h ⟨b,hb,h2⟩
     omega).symm
  unfold uy
  rw [e]
  exact⟨hrow2 x y,hrow (fun b hb=>hb) x y⟩
 have hc1: (aN p).length=m0 (p.map bM):=by
  have: ∀p:List aA,(aN p).length=m0 (p.map bM):=fun p=>by
   induction p with
   | nil=>rfl
   | cons b p ih=>rw [lN,dS,kU,ih];unfold m0;rw [eH,eH,List.sum_cons];rfl
  exact this p
 have hc2: ∀s:List aA,m0 (s.map (na C))= ((aN s).filter (fun r=>decide (r∈C))).length:=fun s=>by
  induction s with
  | nil=>rfl
  | cons b s ih=>
   rw [lN,iq,dS,<-ih]
   unfold m0
   rw [eH,eH,List.sum_cons]
   congr 1
   show (oF _).length / 2=_
   rw [(xN _).2]
   unfold lM
   rw [List.filter_map,gw];rfl
 have hc3: ((aN s).filter (fun r=>decide (r∈C))).length<=C.length:=eE (List.Nodup.sublist List.filter_sublist (BB hs)) fun r hr=>of_decide_eq_true (gE.1 hr).2
 rw [hc1,hsame]
 have e0:m0 ([]:List Bd)=0:=rfl
 have:=hc2 s
 omega
end Go.Gk
namespace Go.Gk
open Go Classical
section
variable {N:Nat}
theorem sJ {all:List aI} (w:aI->Nat): ∀(c:List Nat),((c.filterMap (fun i=>all[i]?)).map w).sum= (c.map (fun i=>(all[i]?).elim 0 w)).sum
 | []=>rfl
 | i::c=>by
  rw [eH,List.sum_cons,<-sJ w c]
  cases h:all[i]? with
  | none=>rw [List.filterMap_cons_none (f:=fun i=>all[i]?) h];simp
  | some x=>rw [List.filterMap_cons_some (f:=fun i=>all[i]?) h,eH,List.sum_cons];rfl
theorem GP {all:List aI} {u:Nat->Nat} (h: ∀i,i<all.length->u i∈bT all.length u) (w:aI->Nat): ((bT all.length u).map (fun k=>((lR all all.length u k).map w).sum)).sum= (all.map w).sum:=by
 have e: (fun k=>((lR all all.length u k).map w).sum)=fun k=>(((List.range all.length).filter (fun x=>decide (u x=k))).map (fun i=>(all[i]?).elim 0 w)).sum:=by
  funext k;unfold lR;rw [sJ];rfl
 rw [e,Bz (lO _ _) u _ (fun x hx=>h x (kG.1 hx))]
 have: ∀m,m<=all.length->((List.range m).map (fun i=>(all[i]?).elim 0 w)).sum= ((all.take m).map w).sum:=by
  intro m
  induction m with
  | zero=>intro _;rfl
  | succ m ih=>
   intro hm
   rw [xM,ih (by omega),fw (by omega),eV,List.sum_append,aJ (by omega)]
   simp
 rw [this _ (bN _),eW]
theorem xO: ∀{l m:List Nat},l.length=m.length->(∀(j x y:Nat),l[j]? =some x->m[j]? =some y->x<=y)->l.sum<=m.sum
 | [],[],_,_=>bN _
 | [],_::_,h,_=>by simp at h
 | _::_,[],h,_=>by simp at h
 | a::l,b::m,h,hle=>by
  have h1:=hle 0 a b rfl rfl
  have h2:=xO (l:=l) (m:=m) (by simpa using h) fun j x y hx hy=>hle (j+1) x y (by simpa using hx) (by simpa using hy)
  rw [List.sum_cons,List.sum_cons];omega
theorem GQ {r hs:List aI} {s:List aA} (h1: ∀x∈r,cW x=true) (h2: ∀x∈hs,cW x=true) (hc:eA (s.map bM)) (hl:tA (px r++px hs) (lj r++lj hs) (s.map bM)): ∀q∈aN s,cW q=true/\q.X0<q.X1/\q.Y0<q.Y1:=by
 intro q hq
 have hp:=yX hc q hq
 obtain⟨b,hb,p,hpm,rfl⟩:=nD hq
 have hll:=hl (bM b) (cP.2 ⟨b,hb,rfl⟩)
 have hm:=zS p hpm
 have bx: ∀c∈px r++px hs,-1000000<=c/\c<=1000000:=fun c hcm=>by
  rcases cR.1 hcm with h | h
  ·obtain⟨x,hx,h⟩:=py.1 h
   have:=gR (h1 x hx)
   rcases h with rfl | rfl <;> omega
  ·obtain⟨x,hx,h⟩:=py.1 h
   have:=gR (h2 x hx)
   rcases h with rfl | rfl <;> omega
 have by': ∀c∈lj r++lj hs,-1000000<=c/\c<=1000000:=fun c hcm=>by
  rcases cR.1 hcm with h | h
  ·obtain⟨x,hx,h⟩:=kD.1 h
   have:=gR (h1 x hx)
   rcases h with rfl | rfl <;> omega
  ·obtain⟨x,hx,h⟩:=kD.1 h
   have:=gR (h2 x hx)
   rcases h with rfl | rfl <;> omega
 have g1:=bx _ (hll.2.2 p.1 hm.1)
 have g2:=bx _ (hll.2.2 p.2 hm.2)
 have g3:=by' _ hll.1
 have g4:=by' _ hll.2.1
 exact⟨xD ⟨g1,g3,g2,g4⟩,hp⟩
structure qd (r hs:List aI) (s:List aA) (u:Nat->Nat) (ps:List (List aA)):Prop where
 r1: ∀x∈r,cW x=true
 r2: ∀x∈hs,cW x=true
 k1: ∀x∈r,BN x
 k2: ∀x∈hs,BN x
 dr:rX r hs s
 pt:pX s u ps
 zY: (aN s).length<=2000
theorem qd.part {r hs:List aI} {s:List aA} {u:Nat->Nat} {ps:List (List aA)} (h:qd r hs s u ps) {p:List aA} (hp:p∈ps):eA (p.map bM)/\(aN p).length<=2000/\∀q∈aN p,cW q=true/\q.X0<q.X1/\q.Y0<q.Y1:=by
 obtain⟨sx,sy⟩:=h.dr.small h.k1 h.k2
 obtain⟨j,k,g1,g2,g3,g4⟩:=xG h.pt h.dr.can h.dr.lim sx sy hp
 have:=yY h.dr.can g3.can (fun x hx=>by
  obtain⟨i,_,_,hi⟩:=mQ.1 hx
  exact gJ hi) g3.cover
 have h2:=xz (aN s) (aN s).length u k
 have:=h.zY
 exact⟨g3.can,by omega,GQ h.r1 h.r2 g3.can g4⟩
theorem qd.bT {r hs:List aI} {s:List aA} {u:Nat->Nat} {ps:List (List aA)} (h:qd r hs s u ps): ∀i,i< (aN s).length->u i∈Gk.bT (aN s).length u:=fun i hi=>gY.2 ⟨by have:=h.pt.join.le i hi;omega,h.pt.join.rr i hi⟩
theorem qd.total {r hs:List aI} {s:List aA} {u:Nat->Nat} {ps:List (List aA)} (h:qd r hs s u ps): (ps.map (fun p=>(aN p).length)).sum<=(aN s).length:=by
 have h1:=GP h.bT (fun _=>1)
 have one: ∀l:List aI,(l.map (fun _=>1)).sum=l.length:=fun l=>by
  induction l with
  | nil=>rfl
  | cons x l ih=>simp only [eH,List.sum_cons,ih,j9];omega
 simp only [one] at h1
 rw [<-h1]
 refine xO (by simp [h.pt.len]) fun j x y hx hy=>?_
 rw [il,Option.map_eq_some_iff] at hx hy
 obtain⟨p,hp,rfl⟩:=hx
 obtain⟨k,hk,rfl⟩:=hy
 have hs:=h.pt.each j k p hk hp
 exact yY h.dr.can hs.can (fun x hx=>by
  obtain⟨i,_,_,hi⟩:=mQ.1 hx
  exact gJ hi) hs.cover
theorem vR {ps:List (List aA)} {x y:Int}:vO (ps.flatMap aN) x y=true↔∃p∈ps,vO (aN p) x y=true:=by
 rw [jR]
 constructor
 ·rintro⟨r,hr,h⟩
  obtain⟨p,hp,hrp⟩:=List.mem_flatMap.1 hr
  exact⟨p,hp,jR.2 ⟨r,hrp,h⟩⟩
 ·rintro⟨p,hp,h⟩
  obtain⟨r,hr,h⟩:=jR.1 h
  exact⟨r,List.mem_flatMap.2 ⟨p,hp,hr⟩,h⟩
theorem qd.cover {r hs:List aI} {s:List aA} {u:Nat->Nat} {ps:List (List aA)} (h:qd r hs s u ps) (x y:Int):vO (ps.flatMap aN) x y=uy (s.map bM) x y:=by
 rw [<-rR h.dr.can,fX,vR]
 constructor
 ·rintro⟨p,hp,hc⟩
  obtain⟨j,hj⟩:=fY hp
  have hjl:=(aZ.1 hj).1
  have hk: (Gk.bT (aN s).length u)[j]? =some ((Gk.bT (aN s).length u)[j]'(by rw [<-h.pt.len];exact hjl)):=aJ _
  have hs:=h.pt.each j _ _ hk hj
  rw [rR hs.can,hs.cover] at hc
  obtain⟨q,hq,h2⟩:=jR.1 hc
  obtain⟨i,_,_,hi⟩:=mQ.1 hq
  exact jR.2 ⟨q,gJ hi,h2⟩
 ·intro hc
  obtain⟨q,hq,h2⟩:=jR.1 hc
  obtain⟨i,hi⟩:=fY hq
  have hil:=(aZ.1 hi).1
  obtain⟨j,hj⟩:=fY (h.bT i hil)
  have hjl:j<ps.length:=by rw [h.pt.len];exact(aZ.1 hj).1
  have hs:=h.pt.each j _ _ hj (aJ hjl)
  refine⟨_,cI hjl,?_⟩
  rw [rR hs.can,hs.cover]
  exact jR.2 ⟨q,mQ.2 ⟨i,hil,rfl,hi⟩,h2⟩
section
variable {a:iu} {jm:List (List aA)} {cV:List (List (List aA))} {r:Nat->Nat} {gs:List cE} {ofP ofB hZ:List Int} {gS:List dF}
theorem BC (b:iR a jm cV r gs ofP ofB hZ gS) {i:Nat} (hi:i<a.aK.length): ∃s ps u,jm[i]? =some s/\cV[i]? =some ps/\qd a.aK[i] (mR a.aT ((i:Nat):Int)) s u ps:=by
 have hd:jm[i]? =some (jm[i]'(by rw [b.dr.len];exact hi)):=aJ _
 have hp:cV[i]? =some (cV[i]'(by rw [b.dr.zX];exact hi)):=aJ _
 have hdr:=b.dr.dr i _ _ hi (aJ hi) hd
 obtain⟨u,hu⟩:=b.dr.pt i _ _ hi hd hp
 have hreg:=oI.1 (b.BA.Ly _ (cI hi))
 exact⟨_,_,u,hd,hp,fun x hx=>((oY.1 hreg.1).2 x hx).1,fun x hx=>(uG b.BA.gb _ x hx).2,(Cn hreg.1).2,fun x hx=>(uG b.BA.gb _ x hx).1,hdr,hu,b.zY.1 _ (gJ hd)⟩
end
end
end Go.Gk
namespace Go.Gk
open Go Classical
def z8 (f:Int->Int->Bool) (x y:Int):Prop:=f x y=true/\∀x' y',f x' y'=true->y<y'\/(y=y'/\x<=x')
theorem z8.unique {f:Int->Int->Bool} {x y x' y':Int} (h:z8 f x y) (h':z8 f x' y'):x=x'/\y=y':=by
 have h1:=h.2 _ _ h'.1
 have h2:=h'.2 _ _ h.1
 omega
section
variable {N:Nat}
structure BI (all:List aI) (u:Nat->Nat) (i:Nat) (q:List Nat) (done:List Bool) (own:List aI):Prop where
 len:done.length=all.length
 nd:q.Nodup
 lt: ∀k∈q,k<all.length/\u k=i
 hd:i∈q
 dn: ∀k,k<all.length->done[k]? =some (decide (u k<i\/k∈q))
 ow:own.map some=q.map (fun k=>all[k]?)
theorem BI.zY {all:List aI} {u:Nat->Nat} {i:Nat} {q:List Nat} {done:List Bool} {own:List aI} (h:BI all u i q done own):q.length<=all.length:=by
 have:=eE h.nd (m:=List.range all.length) (fun k hk=>by rw [kG];exact(h.lt k hk).1)
 rwa [List.length_range] at this
theorem BI.at_ {all:List aI} {u:Nat->Nat} {i:Nat} {q:List Nat} {done:List Bool} {own:List aI} (h:BI all u i q done own) {p k:Nat} (hk:q[p]? =some k):own[p]? =all[k]? :=by
 have e:=congrArg (fun l=>l[p]?) h.ow
 simp only [il,hk,Option.map_some] at e
 cases ho:own[p]? with
 | none=>rw [ho] at e;cases e
 | some x=>rw [ho] at e;injection e
theorem BI.mem {all:List aI} {u:Nat->Nat} {i:Nat} {q:List Nat} {done:List Bool} {own:List aI} (h:BI all u i q done own) {r:aI}:r∈own↔∃k∈q,all[k]? =some r:=by
 have:r∈own↔some r∈own.map some:=by simp
 rw [this,h.ow,cP]
end
end Go.Gk
namespace Go.Gk
open Go Classical
section
variable {α β:Type}
theorem FP {N:Nat} {l:List α} {s:β} {φ:α->β->Option Int} (c:α->Int) (hφ: ∀x,φ x s=some (c x)) (hs: ∀(i j:Nat) (x y:α),i<j->l[i]? =some x->l[j]? =some y->0<=c x->0<c y)
  (hl:l.length<=1048576) (hN:4194304<=N): ∃r,Ff N l s φ=some r/\r.2=l.any (fun x=>c x==0)/\(r.2=true->r.1=CX l (fun x=>c x==0)):=by
 show Ok (Ff N l s φ) (fun r=>r.2=l.any (fun x=>c x==0)/\(r.2=true->r.1=CX l (fun x=>c x==0)))
 unfold Ff
 refine Ok.bind (Ok.nc (Go:=fun st:Int×Int=>∃a:Nat,st.1= ((a:Nat):Int)/\a<=l.length/\(∀j x,j<a->l[j]? =some x->c x<0)/\(∀j x,a<=j->l[j]? =some x->0<=c x)) (Rt:=fun _=>True)
  (fun st=>∃a b:Nat,st= (((a:Nat):Int),((b:Nat):Int))/\a<=b/\b<=l.length/\(∀j x,j<a->l[j]? =some x->c x<0)/\(∀j x,b<=j->l[j]? =some x->0<=c x))
  (fun st=>(st.2 - st.1).toNat) ?_ ⟨0,l.length,rfl,by omega,bN _,fun j x hj=>by omega,fun j x hj hx=>by have:=(aZ.1 hx).1;omega⟩ (by simp only;omega)) ?_
 ·rintro st ⟨a,b,rfl,hab,hb,h1,h2⟩
  dsimp only
  by_cases hlt:a<b
  ·have hm: (a+b) / 2<l.length:=by omega
   have hx:l[(a+b) / 2]? =some l[(a+b) / 2]:=aJ hm
   rw [show decide (((a:Nat):Int)< ((b:Nat):Int))=true by rw [bK];omega,aR,DO hlt (by omega:b<=4611686018427387904)]
   refine Ok.ix hx (Ok.eq (hφ _) ?_)
   by_cases hc:c l[(a+b) / 2]<0
   ·rw [cB hc,aR,aB]
    refine Ok.nx ⟨⟨(a+b) / 2+1,b,?_,by omega,hb,fun j x hj hx'=>?_,h2⟩,?_⟩
    ·rw [fU (by omega)]
    ·by_cases e:j= (a+b) / 2
     ·subst e;rw [hx] at hx';injection hx' with hx';rw [<-hx'];exact hc
     ·by_cases h0:c x<0
      ·exact h0
      ·have:=hs j _ x _ (by omega) hx' hx (by omega)
       omega
    ·rw [fU (by omega)];simp only;omega
   ·rw [bE hc,aQ,aB]
    refine Ok.nx ⟨⟨a,(a+b) / 2,rfl,by omega,by omega,h1,fun j x hj hx'=>?_⟩,by simp only;omega⟩
    by_cases e:j= (a+b) / 2
    ·subst e;rw [hx] at hx';injection hx' with hx';rw [<-hx'];omega
    ·have:=hs _ j _ x (by omega) hx hx' (by omega)
     omega
  ·rw [show decide (((a:Nat):Int)< ((b:Nat):Int))=false by rw [decide_eq_false_iff_not];omega,aQ]
   exact Ok.br ⟨a,rfl,by omega,h1,fun j x hj hx=>h2 j x (by omega) hx⟩
 intro o ho
 refine Ok.cs ho ?_ (fun r hr=>r.elim)
 rintro⟨st1,st2⟩ ⟨a,ha,hle,h1,h2⟩
 dsimp only at ha ⊢
 subst ha
 by_cases hlt:a<l.length
 ·have hx:l[a]? =some l[a]:=aJ hlt
  rw [show decide (((a:Nat):Int)< ((l.length:Nat):Int))=true by rw [bK];omega,aR,dE hx,aB,hφ,aB,aB]
  refine Ok.ret ?_
  by_cases he:c l[a]=0
  ·have hb: (c l[a]==0)=true:=by rw [beq_iff_eq];exact he
   rw [hb]
   refine⟨(kI.2 ⟨_,cI hlt,hb⟩).symm,fun _=>?_⟩
   rw [Fa hx hb (fun j y hj hy=>by have:=h1 j y hj hy;rw [beq_eq_false_iff_ne];omega)]
  ·have hb: (c l[a]==0)=false:=by rw [beq_eq_false_iff_ne];exact he
   rw [hb]
   refine⟨?_,fun h=>by cases h⟩
   symm
   rw [List.any_eq_false]
   intro x hx'
   obtain⟨j,hj⟩:=fY hx'
   rw [ou,beq_eq_false_iff_ne]
   by_cases hja:j<a
   ·have:=h1 j x hja hj;omega
   ·by_cases e:j=a
    ·subst e;rw [hx] at hj;injection hj with hj;rw [<-hj];exact he
    ·have h3:=h2 a _ (bN _) hx
     have:=hs a j _ x (by omega) hx hj h3
     omega
 ·rw [show decide (((a:Nat):Int)< ((l.length:Nat):Int))=false by rw [decide_eq_false_iff_not];omega,aQ,aB]
  refine Ok.ret ⟨?_,fun h=>by cases h⟩
  symm
  rw [List.any_eq_false]
  intro x hx'
  obtain⟨j,hj⟩:=fY hx'
  have:=(aZ.1 hj).1
  have:=h1 j x (by omega) hj
  rw [ou,beq_eq_false_iff_ne];omega
end
def vS (p q:fN):Prop:=dD.lt p.Part q.Part\/(p.Part=q.Part/\dD.lt p.fN q.fN)
theorem De {p q:fN} (h1:p.Part=q.Part) (h2:p.fN=q.fN):p=q:=by cases p;cases q;simp at h1 h2;subst h1;subst h2;rfl
theorem vS.irrefl (p:fN): ¬vS p p:=fun h=>by
 rcases h with h | ⟨_,h⟩
 ·exact dD.lt_irrefl _ h
 ·exact dD.lt_irrefl _ h
theorem vS.trans {p q r:fN} (h1:vS p q) (h2:vS q r):vS p r:=by
 rcases h1 with h1 | ⟨e1,h1⟩ <;> rcases h2 with h2 | ⟨e2,h2⟩
 ·exact .inl (dD.lt_trans h1 h2)
 ·exact .inl (by rw [<-e2];exact h1)
 ·exact .inl (by rw [e1];exact h2)
 ·exact .inr ⟨e1.trans e2,dD.lt_trans h1 h2⟩
theorem vS.total (p q:fN):vS p q\/p=q\/vS q p:=by
 rcases dD.Bc p.Part q.Part with h | h | h
 ·exact .inl (.inl h)
 ·rcases dD.Bc p.fN q.fN with h' | h' | h'
  ·exact .inl (.inr ⟨h,h'⟩)
  ·exact .inr (.inl (De h h'))
  ·exact .inr (.inr (.inr ⟨h.symm,h'⟩))
 ·exact .inr (.inr (.inl h))
theorem vS.asymm {p q:fN} (h:vS p q): ¬vS q p:=fun h'=>vS.irrefl p (h.trans h')
theorem vS.ne {p q:fN} (h:vS p q):p≠q:=fun e=>by subst e;exact vS.irrefl _ h
theorem pB {a b:dD}:Lib.compareBytes a.cM b.cM=0↔a=b:=⟨fun h=>dD.ext' ((sZ _ _).1 h),fun h=>(sZ _ _).2 (by rw [h])⟩
theorem nz {p q:fN}:gq p q=0↔p=q:=by
 unfold gq
 by_cases h:Lib.compareBytes p.Part.cM q.Part.cM=0
 ·rw [aC (by simpa using h),pB]
  exact⟨fun h'=>De (pB.1 h) h',fun h'=>by rw [h']⟩
 ·rw [aD h]
  exact⟨fun h'=>absurd h' h,fun h'=>absurd (pB.2 (by rw [h'])) h⟩
theorem xP {p q:fN}:gq p q<0↔vS p q:=by
 unfold gq vS
 by_cases h:Lib.compareBytes p.Part.cM q.Part.cM=0
 ·rw [aC (by simpa using h),sY]
  have e:=pB.1 h
  constructor
  ·exact fun h'=> .inr ⟨e,h'⟩
  ·rintro(h' | ⟨_,h'⟩)
   ·rw [e] at h';exact absurd h' (dD.lt_irrefl _)
   ·exact h'
 ·rw [aD h,sY]
  constructor
  ·exact fun h'=> .inl h'
  ·rintro(h' | ⟨e,_⟩)
   ·exact h'
   ·exact absurd (pB.2 e) h
theorem qe {p q:fN}:0<gq p q↔vS q p:=by
 constructor
 ·intro h
  rcases vS.total p q with h' | h' | h'
  ·have:=xP.2 h';omega
  ·have:=nz.2 h';omega
  ·exact h'
 ·intro h
  by_cases h1:gq p q<0
  ·exact absurd (xP.1 h1) h.asymm
  ·by_cases h2:gq p q=0
   ·exact absurd (nz.1 h2).symm h.ne
   ·omega
section
variable {N:Nat}
structure Ct (a:iu) (x:cQ):Prop where
 name:oX x.Part=true/\isWord x.fN=true
 J8:0<=x.cU/\x.cU< ((a.aK.length:Nat):Int)
 at_:sH x.At=true
structure pC (a:iu):Prop where
 zY:a.bD.length<=1000
 each: ∀x∈a.bD,Ct a x
 up:a.bD.Pairwise (fun x y=>vS (kE x) (kE y))
theorem z9 {a:iu} {k:Nat} {x:cQ} (hx:a.bD[k]? =some x) (h:kV a k=none):Ct a x/\∀y,0<k->a.bD[k - 1]? =some y->vS (kE y) (kE x):=by
 unfold kV at h
 rw [hx,Option.bind_some] at h
 split at h
 ·rename_i h1
  split at h
  ·rename_i h2
   split at h
   ·cases h
   ·rename_i h3
    rw [bP] at h1 h2
    unfold gZ at h2
    rw [bP,bK,bK] at h2
    refine⟨⟨h1,⟨by omega,by omega⟩,h2.2⟩,fun y hk hy=>?_⟩
    have h4: ¬gq (kE x) (kE y)<=0:=fun h4=>h3 ⟨hk,y,hy,h4⟩
    exact qe.1 (by omega)
  ·cases h
 ·cases h
theorem Cu {a:iu} {k:Nat} {e:Int} (h:kV a k=some e):e≠0:=by
 unfold kV at h
 cases hx:a.bD[k]? with
 | none=>rw [hx] at h;cases h
 | some x=>
  rw [hx,Option.bind_some] at h
  repeat' split at h
  all_goals first | (injection h with h;omega) | cases h
theorem Ed {a:iu} (h:kF a=0):pC a:=by
 unfold kF at h
 split at h
 ·omega
 rename_i hl
 have hn:mJ a.bD.length (kV a)=none:=by
  cases hf:mJ a.bD.length (kV a) with
  | none=>rfl
  | some e=>
   rw [hf] at h
   obtain⟨k,_,hk,_⟩:=iU.1 hf
   exact absurd h (Cu hk)
 rw [gX] at hn
 have hg: ∀(k:Nat) x,a.bD[k]? =some x->Ct a x/\∀y,0<k->a.bD[k - 1]? =some y->vS (kE y) (kE x):=fun k x hx=>z9 hx (hn k (aZ.1 hx).1)
 refine⟨by omega,fun x hx=>?_,?_⟩
 ·obtain⟨k,hk⟩:=fY hx
  exact(hg k x hk).1
 ·have hstep: ∀(n i:Nat) x y,a.bD[i]? =some x->a.bD[i+n+1]? =some y->vS (kE x) (kE y):=by
   intro n
   induction n with
   | zero=>intro i x y hx hy;exact(hg (i+1) y hy).2 x (by omega) hx
   | succ n ih=>
    intro i x y hx hy
    have hz:i+n+1<a.bD.length:=by have:=(aZ.1 hy).1;omega
    have h1:=ih i x _ hx (aJ hz)
    exact h1.trans ((hg (i+ (n+1)+1) y hy).2 _ (by omega) (by rw [show i+ (n+1)+1 - 1=i+n+1 by omega];exact aJ hz))
  rw [mC]
  intro i j hi hj hij
  exact hstep (j - i - 1) i _ _ (aJ hi) (by rw [show i+ (j - i - 1)+1=j by omega];exact aJ hj)
theorem pC.inj {a:iu} (h:pC a) {i j:Nat} {x y:cQ} (hx:a.bD[i]? =some x) (hy:a.bD[j]? =some y) (e:kE x=kE y):i=j:=by
 obtain⟨h1,rfl⟩:=aZ.1 hx
 obtain⟨h2,rfl⟩:=aZ.1 hy
 have hp:=mC.1 h.up
 rcases Nat.lt_trichotomy i j with h3 | h3 | h3
 ·exact absurd e (hp i j h1 h2 h3).ne
 ·exact h3
 ·exact absurd e.symm (hp j i h2 h1 h3).ne
theorem BD {l:List cQ} {p:fN} (hu:l.Pairwise (fun x y=>vS (kE x) (kE y))) (hl:l.length<=1048576) (hN:4194304<=N) {φ:cQ->fN->Option Int} (hφ: ∀x,φ x p=some (gq (kE x) p)):
  ∃r,Ff N l p φ=some r/\(bif (!r.2) then (some (-1)) else (some r.1))=some (CX l (fun x=>decide (kE x=p))):=by
 obtain⟨r,h1,h2,h3⟩:=FP (N:=N) (l:=l) (s:=p) (φ:=φ) (fun x=>gq (kE x) p) hφ (fun i j x y hij hx hy hc=>by
  obtain⟨g1,rfl⟩:=aZ.1 hx
  obtain⟨g2,rfl⟩:=aZ.1 hy
  have hlt:=mC.1 hu i j g1 g2 hij
  refine qe.2 ?_
  by_cases h0:gq (kE l[i]) p=0
  ·rw [<-nz.1 h0];exact hlt
  ·exact(qe.1 (by omega)).trans hlt) hl hN
 have e: (fun x=>gq (kE x) p==0)= (fun x=>decide (kE x=p)):=by
  funext x
  rw [fX,beq_iff_eq,bK,nz]
 rw [e] at h2 h3
 refine⟨r,h1,?_⟩
 cases hr:r.2 with
 | true=>simp only [lv,aQ];rw [h3 hr]
 | false=>
  simp only [mD,aR]
  rw [hr] at h2
  rw [E9 h2.symm]
def kg (a:iu) (p:fN):Int:=CX a.bD (fun x=>decide (kE x=p))
theorem vT (a:iu) (p:fN): (kg a p = -1/\∀x∈a.bD,kE x≠p)\/∃(k:Nat) (x:cQ),kg a p= ((k:Nat):Int)/\a.bD[k]? =some x/\kE x=p:=by
 rcases rO a.bD (fun x=>decide (kE x=p)) with ⟨h1,h2⟩ | ⟨k,x,h1,h2,h3,_⟩
 ·exact .inl ⟨h1,fun x hx=>of_decide_eq_false (h2 x hx)⟩
 ·exact .inr ⟨k,x,h1,h2,of_decide_eq_true h3⟩
end
end Go.Gk
namespace Go.Gk
open Go Classical
section
variable {N:Nat}
end
end Go.Gk
namespace Go.Gk
open Go Classical
section
variable {N:Nat}
end
section
variable {N:Nat} {a:iu} {jm:List (List aA)} {cV:List (List (List aA))} {r:Nat->Nat} {gs:List cE} {ofP ofB hZ:List Int} {gS:List dF}
theorem BE (b:iR a jm cV r gs ofP ofB hZ gS) {p:aH} (hp:p∈bH 0 cV):p.iO.length<=2000/\(∀q∈p.iO,cW q=true/\q.X0<q.X1/\q.Y0<q.Y1)/\∃i:Nat,p.cU= ((i:Nat):Int)/\∀x y,vO p.iO x y=true->vO (mR a.aT ((i:Nat):Int)) x y=false:=by
 obtain⟨i,ps,q,h1,h2,rfl⟩:=vz hp
 have hil:i<a.aK.length:=by have:=(aZ.1 h1).1;rw [b.dr.zX] at this;exact this
 obtain⟨s,ps',u,g1,g2,L⟩:=BC b hil
 rw [h1] at g2;injection g2 with g2;subst g2
 obtain⟨k1,k2,k3⟩:=L.part h2
 refine⟨k2,k3,i,by simp,fun x y h=>?_⟩
 have h3:vO (ps.flatMap aN) x y=true:=vR.2 ⟨q,h2,h⟩
 rw [L.cover,L.dr.cover,bP,Bool.not_eq_true'] at h3
 exact h3.2
end
end Go.Gk
namespace Go.Gk
open Go Classical
structure PS (n:Nat) (r:Nat->Nat) (h:Nat) (q:List Nat) (seen:List Bool) (pieces todo:List Int):Prop where
 sl:seen.length=n
 sn: ∀p,p<n->seen[p]? =some (decide (r p<h\/p∈q))
 qn:q.Nodup
 qi: ∀p∈q,p<n/\r p=h
 q0:h∈q
 td:todo=ints q
 pi:lG pieces
 pm: ∀x,x∈pieces↔∃p∈q,x= ((p:Nat):Int)
structure QS (n m:Nat) (tch:List (List Int)) (r:Nat->Nat) (h:Nat) (q qb:List Nat) (uL:List Int) (used:List Bool):Prop where
 ul:used.length=m
 un: ∀k,k<m->used[k]? =some (decide (k∈qb))
 bi:lG uL
 bm: ∀x,x∈uL↔∃k∈qb,x= ((k:Nat):Int)
 bk: ∀k∈qb,k<m/\r (n+k)=h/\∀l,tch[k]? =some l->∀p:Nat,((p:Nat):Int)∈l->p∈q
theorem PS.zY {n:Nat} {r:Nat->Nat} {h:Nat} {q:List Nat} {seen:List Bool} {pieces todo:List Int} (H:PS n r h q seen pieces todo):q.length<=n/\pieces.length<=n:=by
 have h1:=eE H.qn (m:=List.range n) (fun k hk=>by rw [kG];exact(H.qi k hk).1)
 rw [List.length_range] at h1
 have h2:=eE H.pi.nodup (m:=ints q) (fun x hx=>xH.2 ((H.pm x).1 hx))
 rw [l3] at h2
 exact⟨h1,by omega⟩
theorem QS.zY {n m:Nat} {tch:List (List Int)} {r:Nat->Nat} {h:Nat} {q qb:List Nat} {uL:List Int} {used:List Bool} (H:QS n m tch r h q qb uL used):uL.length<=m:=by
 have h2:=eE H.bi.nodup (m:=ints (List.range m)) (fun x hx=>by
  obtain⟨k,hk,e⟩:=(H.bm x).1 hx
  exact xH.2 ⟨k,kG.2 (H.bk k hk).1,e⟩)
 rwa [l3,List.length_range] at h2
section
variable {N:Nat}
end
end Go.Gk
namespace Go.Gk
open Go Classical
structure LN (G G':List cE):Prop where
 len:G'.length=G.length
 each: ∀(g:Nat) x,G[g]? =some x->∃y,G'[g]? =some y/\y.mT=x.mT/\y.aT=x.aT
section
variable {N:Nat}
end
section
variable {N:Nat} {a:iu} {jm:List (List aA)} {cV:List (List (List aA))} {r:Nat->Nat} {gs:List cE} {ofP ofB hZ:List Int} {gS:List dF}
theorem iR.uM (b:iR a jm cV r gs ofP ofB hZ gS):pC a:=Ed b.BA.uM
end
end Go.Gk
namespace Go.Gk
open Go Classical
section
variable {N:Nat} {a:iu} {jm:List (List aA)} {cV:List (List (List aA))} {r:Nat->Nat} {gs:List cE} {ofP ofB hZ:List Int} {gS:List dF}
end
section
variable {N:Nat}
end
end Go.Gk
namespace Go.Gk
open Go Classical
section
variable {bs:List bQ} {ls:List cQ} {pcs:List aH} {r:Nat->Nat} {gs:List cE} {ofP ofB hZ:List Int} {gS:List dF}
theorem FQ (hc:xI bs ls pcs r gs ofP ofB hZ gS):gs.length= (live bs pcs.length (pcs.length+bs.length) r (bT (pcs.length+bs.length) r)).length/\gs.length<=pcs.length+bs.length:=by
 have e:gs.length= (live bs pcs.length (pcs.length+bs.length) r (bT (pcs.length+bs.length) r)).length:=by
  rw [hc.gs,uK,rC]
 refine⟨e,?_⟩
 rw [e]
 have:=qc bs pcs.length (pcs.length+bs.length) r (bT (pcs.length+bs.length) r)
 have:=mz (pcs.length+bs.length) r
 omega
theorem Kd (hc:xI bs ls pcs r gs ofP ofB hZ gS) {k:Nat} (hk:k<pcs.length):
  ∃g:Nat,ofP[k]? =some ((g:Nat):Int)/\g<gs.length/\(live bs pcs.length (pcs.length+bs.length) r (bT (pcs.length+bs.length) r))[g]? =some (r k):=by
 have hm:r k∈bT (pcs.length+bs.length) r:=gY.2 ⟨by have:=hc.conn.le k (by omega);omega,hc.conn.rr k (by omega)⟩
 obtain⟨g1,g2⟩:=Bv (bs:=bs) (n:=pcs.length) hm (FK hk (by omega))
 exact⟨_,hc.of.pc k hk hm,by rw [(FQ hc).1];exact g1,g2⟩
end
section
variable {N:Nat} {a:iu} {jm:List (List aA)} {cV:List (List (List aA))} {r:Nat->Nat} {gs:List cE} {ofP ofB hZ:List Int} {gS:List dF}
end
section
variable {N:Nat}
end
end Go.Gk
namespace Go.Gk
open Go Classical
section
variable {N:Nat} {a:iu} {jm:List (List aA)} {cV:List (List (List aA))} {r:Nat->Nat} {gs:List cE} {ofP ofB hZ:List Int} {gS:List dF}
theorem pD (g:pC a) (p:fN) (hN:4398046511104<=N):dP N a p=some (kg a p):=by
 obtain⟨r,h1,h2⟩:=BD (N:=N) (p:=p) g.up (by have:=g.zY;omega) (by omega) (φ:=gz N) (fun x=>by unfold gz;rw [vv,aB,jX,aB])
 unfold dP
 have e:eI N a.bD p (gz N)=Ff N a.bD p (gz N):=rfl
 rw [e,h1,aB];exact h2
end
section
variable {N:Nat}
end
end Go.Gk
namespace Go.Gk
open Go Classical
theorem yg.uniq {n m:Nat} {tch:List (List Int)} {r1 r2:Nat->Nat} (h1:yg n m tch r1) (h2:yg n m tch r2) {i j:Nat} (hi:i<n+m) (hj:j<n+m):r1 i=r1 j↔r2 i=r2 j:=by
 have key: ∀{r1 r2:Nat->Nat},yg n m tch r1->yg n m tch r2->r1 i=r1 j->r2 i=r2 j:=fun{r1 r2} h1 h2 e=>
  (h1.fi (fun x=>r2 i=r2 x) (fun a b hab=>by rw [h2.co a b hab]) i j hi hj e) rfl
 exact⟨key h1 h2,key h2 h1⟩
section
variable {N:Nat} {a:iu} {jm:List (List aA)} {cV:List (List (List aA))} {r:Nat->Nat} {gs:List cE} {ofP ofB hZ:List Int} {gS:List dF}
theorem H7 (x y:Int) (u:List Int):gC N x y [] u=dC N u x y:=by
 show (((dC N u x y).bind fun x38=>some x38).bind fun s36=>some s36)=_
 cases dC N u x y <;> rfl
theorem Aa {bs:List bQ} {pcs:List aH} {l:cQ} {h:dF} (hh:mZ bs pcs l=some h) (hn:pcs.length+bs.length<=1000000000):
  fR N h ((pcs.length:Nat):Int)=some ((eN pcs.length h:Nat):Int)/\eN pcs.length h<pcs.length+bs.length:=by
 obtain⟨k,e,h1,h2⟩:=(Cr hh).num
 unfold fR eN
 cases hB:h.bQ with
 | true=>
  have:=(h1 hB).1
  rw [aR,aD rfl,e,bX,wrap_add (by omega)]
  exact⟨rfl,by omega⟩
 | false=>
  have:=h2 hB
  rw [aQ,aC iX,e,bX]
  exact⟨rfl,by omega⟩
structure GR (bs:List bQ) (pcs:List aH) (ls:List cQ) (r2:Nat->Nat) (j:Nat) (up:List Int) (fm:List (Int×Int)) (out:List Int):Prop where
 uf:UF (pcs.length+bs.length) up r2
 len:out.length=ls.length
 no: ∀i l,i<j->ls[i]? =some l->mZ bs pcs l=none->out[i]? =some (-1)
 yes: ∀i l h,i<j->ls[i]? =some l->mZ bs pcs l=some h->iM fm ((r2 (eN pcs.length h):Nat):Int)=true/\out[i]? =some (dK fm ((r2 (eN pcs.length h):Nat):Int) 0)
 low: ∀x,iM fm x=true->∃v:Nat,dK fm x 0= ((v:Nat):Int)/\v<j
 inj: ∀x y,iM fm x=true->iM fm y=true->dK fm x 0=dK fm y 0->x=y
theorem Cv {bs:List bQ} {pcs:List aH} {ls:List cQ} (hn:pcs.length+bs.length<=1000000000) (hp:pcs.length<=1073741824) (hbl:bs.length<=1073741824) (hl:ls.length<=1073741824) (hof:hZ=ls.map (Ah bs pcs r)) (hat:gS=ls.map (fun l=>(mZ bs pcs l).getD ⟨false,0⟩)) (hN:4398046511104<=N):
  ∃r2 c up fm,dH N bs ls pcs (dW bs pcs) hZ gS []=some c/\yg pcs.length bs.length (dW bs pcs) r2/\GR bs pcs ls r2 ls.length up fm c:=by
 suffices h:Ok (dH N bs ls pcs (dW bs pcs) hZ gS []) (fun c=>∃r2 up fm,yg pcs.length bs.length (dW bs pcs) r2/\GR bs pcs ls r2 ls.length up fm c) by
  obtain⟨c,h1,r2,up,fm,h2,h3⟩:=h
  exact⟨r2,c,up,fm,h1,h2,h3⟩
 unfold dH
 refine Ok.eq (x:=[]) rfl ?_
 rw [wrap_add (by omega)]
 obtain⟨up0,u1,u2⟩:=rm (N:=N) (n:=pcs.length+bs.length) (by omega)
 refine Ok.eq u1 ?_
 simp only [H7]
 refine Ok.bind (yU (n:=pcs.length) (m:=bs.length) (by unfold dW;simp) (xJ (by omega)) (by omega) (by omega) u2 hN) ?_
 rintro up1 ⟨r2,v1,v2⟩
 refine Ok.eq (x:=up1) rfl (Ok.eq (pT 0 (by omega)) ?_)
 have jT:gS.length=ls.length:=by rw [hat,gw]
 refine Ok.bind (Ok.iY (fun j (st:List Int×List (Int×Int)×List Int)=>GR bs pcs ls r2 j st.1 st.2.1 st.2.2) (by omega) ⟨v1,by simp,fun i l h=>by omega,fun i l h h1=>by omega,fun x hx=>(by cases hx),fun x y hx=>(by cases hx)⟩ ?_) (fun st I=>Ok.ret ⟨r2,st.1,st.2.1,v2,by rw [<-jT];exact I⟩)
 rintro j ⟨up,fm,out⟩ hj I
 rw [jT] at hj
 dsimp only at I ⊢
 have hx:ls[j]? =some ls[j]:=aJ hj
 have h1:gS[j]? =some ((mZ bs pcs ls[j]).getD ⟨false,0⟩):=by rw [hat,il,hx];rfl
 have h2:hZ[j]? =some (Ah bs pcs r ls[j]):=by rw [hof,il,hx];rfl
 have h3:out[j]? =some (out[j]'(by rw [I.len];exact hj)):=aJ _
 have hjo:j<out.length:=by rw [I.len];exact hj
 refine Ok.ix h1 ?_
 cases hh:mZ bs pcs ls[j] with
 | none=>
  have e1:Ah bs pcs r ls[j] = -1:=by unfold Ah tt;rw [hh];rfl
  refine Ok.eq (x:=0) rfl (Ok.eq (x:=true) (by rw [dE h2,aB,e1];rfl) ?_)
  refine Ok.ix h3 (Ok.ret ?_)
  dsimp only
  rw [bX]
  refine⟨I.uf,by rw [gG];exact I.len,fun i l hi hil hn=>?_,fun i l h hi hil hs=>?_,fun x hx=>?_,I.inj⟩
  ·by_cases e:i=j
   ·subst e;rw [List.getElem?_set_self hjo]
   ·rw [List.getElem?_set_ne (Ne.symm e)];exact I.no i l (by omega) hil hn
  ·by_cases e:i=j
   ·subst e;rw [hx] at hil;injection hil with hil;subst hil;rw [hh] at hs;cases hs
   ·rw [List.getElem?_set_ne (Ne.symm e)];exact I.yes i l h (by omega) hil hs
  ·obtain⟨v,q1,q2⟩:=I.low x hx;exact⟨v,q1,by omega⟩
 | some h=>
  obtain⟨c1,c2⟩:=Aa (N:=N) hh hn
  have e1: ∃g:Nat,Ah bs pcs r ls[j]= ((g:Nat):Int):=by unfold Ah tt;rw [hh];exact⟨_,rfl⟩
  obtain⟨g,e1⟩:=e1
  refine Ok.eq c1 (Ok.eq (x:=false) (by rw [dE h2,aB,e1,bE (show ¬((g:Nat):Int)<0 by omega),aQ];rfl) ?_)
  rw [aQ]
  obtain⟨up2,t1,t2⟩:=mY (N:=N) I.uf c2 (by omega)
  refine Ok.eq t1 ?_
  dsimp only
  have fin: ∀(up3:List Int) (fm2:List (Int×Int)),UF (pcs.length+bs.length) up3 r2->(∀x,iM fm x=true->iM fm2 x=true/\dK fm2 x 0=dK fm x 0)->iM fm2 ((r2 (eN pcs.length h):Nat):Int)=true->(∀x,iM fm2 x=true->∃v:Nat,dK fm2 x 0= ((v:Nat):Int)/\v<j+1)->(∀x y,iM fm2 x=true->iM fm2 y=true->dK fm2 x 0=dK fm2 y 0->x=y)->
    GR bs pcs ls r2 (j+1) up3 fm2 (out.set j (dK fm2 ((r2 (eN pcs.length h):Nat):Int) 0)):=fun up3 fm2 g1 g2 g3 g4 g5=>by
   refine⟨g1,by rw [gG];exact I.len,fun i l hi hil hn=>?_,fun i l h' hi hil hs=>?_,g4,g5⟩
   ·by_cases e:i=j
    ·subst e;rw [hx] at hil;injection hil with hil;subst hil;rw [hh] at hn;cases hn
    ·rw [List.getElem?_set_ne (Ne.symm e)];exact I.no i l (by omega) hil hn
   ·by_cases e:i=j
    ·subst e;rw [hx] at hil;injection hil with hil;subst hil;rw [hh] at hs;injection hs with hs;subst hs
     exact⟨g3,by rw [List.getElem?_set_self hjo]⟩
    ·obtain⟨q1,q2⟩:=I.yes i l h' (by omega) hil hs
     rw [List.getElem?_set_ne (Ne.symm e),q2,(g2 _ q1).2]
     exact⟨(g2 _ q1).1,rfl⟩
  cases hm:iM fm ((r2 (eN pcs.length h):Nat):Int) with
  | true=>
   rw [lv,aQ]
   obtain⟨up3,t3,t4⟩:=mY (N:=N) t2 c2 (by omega)
   refine Ok.eq (x:=(up2,fm)) rfl (Ok.eq t3 (Ok.ix h3 (Ok.ret ?_)))
   dsimp only
   rw [bX]
   exact fin up3 fm t4 (fun x hx=>⟨hx,rfl⟩) hm (fun x hx=>by obtain⟨v,q1,q2⟩:=I.low x hx;exact⟨v,q1,by omega⟩) I.inj
  | false=>
   rw [mD,aR]
   obtain⟨up3,t3,t4⟩:=mY (N:=N) t2 c2 (by omega)
   obtain⟨up4,t5,t6⟩:=mY (N:=N) t4 c2 (by omega)
   refine Ok.eq (x:=(up3,oM fm ((r2 (eN pcs.length h):Nat):Int) ((j:Nat):Int))) (by rw [t3,aB]) (Ok.eq t5 (Ok.ix h3 (Ok.ret ?_)))
   dsimp only
   rw [bX]
   refine fin up4 _ t6 (fun x hx=>?_) (by rw [kT];simp) (fun x hx=>?_) (fun x y hx hy e=>?_)
   ·have hne:x≠((r2 (eN pcs.length h):Nat):Int):=fun e=>by rw [e,hm] at hx;cases hx
    rw [kT,iV,aC hne,hx]
    exact⟨by simp,rfl⟩
   ·rw [iV]
    by_cases e:x= ((r2 (eN pcs.length h):Nat):Int)
    ·rw [aD e];exact⟨j,rfl,by omega⟩
    ·rw [aC e]
     rw [kT,bE e,Bool.false_or] at hx
     obtain⟨v,q1,q2⟩:=I.low x hx;exact⟨v,q1,by omega⟩
   ·rw [iV,iV] at e
    rw [kT] at hx hy
    by_cases ex:x= ((r2 (eN pcs.length h):Nat):Int)
    ·by_cases ey:y= ((r2 (eN pcs.length h):Nat):Int)
     ·rw [ex,ey]
     ·rw [aD ex,aC ey] at e
      rw [bE ey,Bool.false_or] at hy
      obtain⟨v,q1,q2⟩:=I.low y hy
      omega
    ·rw [bE ex,Bool.false_or] at hx
     by_cases ey:y= ((r2 (eN pcs.length h):Nat):Int)
     ·rw [aC ex,aD ey] at e
      obtain⟨v,q1,q2⟩:=I.low x hx
      omega
     ·rw [aC ex,aC ey] at e
      rw [bE ey,Bool.false_or] at hy
      exact I.inj x y hx hy e
theorem GS (b:iR a jm cV r gs ofP ofB hZ gS) {x y:cQ} {h h':dF} (hx:mZ a.aT (bH 0 cV) x=some h) (hy:mZ a.aT (bH 0 cV) y=some h'): (tt a.aT (bH 0 cV) r x=tt a.aT (bH 0 cV) r y)↔r (eN (bH 0 cV).length h)=r (eN (bH 0 cV).length h'):=by
 have gp: ∀{z:cQ} {h:dF},mZ a.aT (bH 0 cV) z=some h->(live a.aT (bH 0 cV).length ((bH 0 cV).length+a.aT.length) r (bT ((bH 0 cV).length+a.aT.length) r))[gi a.aT (bH 0 cV).length ((bH 0 cV).length+a.aT.length) r (r (eN (bH 0 cV).length h))]? =some (r (eN (bH 0 cV).length h)):=by
  intro z h hz
  obtain⟨k,e,g1,g2⟩:=(Cr hz).num
  have hle:=b.Ai.conn.le
  have hrr:=b.Ai.conn.rr
  have hd: ∀i,i< (bH 0 cV).length+a.aT.length->r i∈bT ((bH 0 cV).length+a.aT.length) r:=fun i hi=>gE.2 ⟨kG.2 (by have:=hle i hi;omega),by rw [bK];exact hrr i hi⟩
  unfold eN
  cases hB:h.bQ with
  | true=>
   obtain⟨k1,k2⟩:=g1 hB
   rw [aD rfl,e,bX]
   exact(Bv (hd _ (by omega)) (FL k2 (by omega))).2
  | false=>
   have k1:=g2 hB
   rw [aC iX,e,bX]
   exact(Bv (hd _ (by omega)) (FK k1 (by omega))).2
 unfold tt
 rw [hx,hy]
 constructor
 ·intro e
  simp only [Option.map_some,Option.some.injEq] at e
  have h1:=gp hx
  have h2:=gp hy
  rw [e,h2] at h1
  injection h1 with h1;exact h1.symm
 ·intro e
  simp only [Option.map_some,Option.some.injEq]
  rw [e]
theorem Ab (b:iR a jm cV r gs ofP ofB hZ gS) (h1:fB N a=some (some (a.aK,a.dA,a.aT,a.bD,jm,bH 0 cV,dW a.aT (bH 0 cV),gs,ofP,ofB,hZ,gS),0)) {p q:fN} {i k:Nat} {x y:cQ} (ep:kg a p= ((i:Nat):Int)) (hx:a.bD[i]? =some x) (eq:kg a q= ((k:Nat):Int)) (hy:a.bD[k]? =some y) (hN:4398046511104<=N):
  hU N a [] p q=some ((tt a.aT (bH 0 cV) r x).isSome&&decide (tt a.aT (bH 0 cV) r x=tt a.aT (bH 0 cV) r y),0):=by
 have hf:=b.zY.2
 have hbl:=b.BA.gb.len
 have hlf:=b.uM.zY
 obtain⟨r2,c,up,fm,c1,c2,c3⟩:=Cv (N:=N) (r:=r) (hZ:=hZ) (gS:=gS) (bs:=a.aT) (pcs:=bH 0 cV) (ls:=a.bD) (by omega) (by omega) (by omega) (by omega) b.Ai.hZ b.Ai.gS hN
 have hil:=(aZ.1 hx).1
 have hkl:=(aZ.1 hy).1
 unfold hU
 rw [h1,aB,pD b.uM p hN,pD b.uM q hN]
 simp only [AF,bne_self_eq_false,aQ,aB]
 have hz: ∀(p0:List (List aI)) (p1:List aI) (p2:List bQ) (p3:List cQ) (p4:List (List aA)) (p5:List aH) (p6:List (List Int)) (p7:List cE) (p8 p9 p10:List Int) (p11:List dF),gA N p0 p1 p2 p3 p4 p5 p6 p7 p8 p9 p10 p11 []=some 0:=fun _ _ _ _ _ _ _ _ _ _ _ _=>rfl
 rw [hz,aB,bne_self_eq_false,aQ,ep,eq,bE (show ¬((i:Nat):Int)<0 by omega),bE (show ¬((k:Nat):Int)<0 by omega),Bool.or_false,aQ,c1,aB]
 cases hhx:mZ a.aT (bH 0 cV) x with
 | none=>
  have e1:tt a.aT (bH 0 cV) r x=none:=by unfold tt;rw [hhx];rfl
  rw [dE (c3.no i x hil hx hhx),aB,e1];rfl
 | some h=>
  obtain⟨q1,q2⟩:=c3.yes i x h hil hx hhx
  obtain⟨v,v1,_⟩:=c3.low _ q1
  have e1: (tt a.aT (bH 0 cV) r x).isSome=true:=by unfold tt;rw [hhx];rfl
  rw [dE q2,aB,v1,cB (show ((v:Nat):Int)>=0 by omega),aR,aB,e1,Bool.true_and]
  cases hhy:mZ a.aT (bH 0 cV) y with
  | none=>
   have e2:tt a.aT (bH 0 cV) r y=none:=by unfold tt;rw [hhy];rfl
   rw [dE (c3.no k y hkl hy hhy),aB,aB,bE (fun e=>by rw [e,e2] at e1;cases e1),show ((((v:Nat):Int))== -1)=false from by rw [beq_eq_false_iff_ne];omega]
  | some h'=>
   obtain⟨s1,s2⟩:=c3.yes k y h' hkl hy hhy
   obtain⟨w,w1,_⟩:=c3.low _ s1
   rw [dE s2,aB,w1,aB]
   have t1:=(Aa (N:=N) hhx (by omega)).2
   have t2:=(Aa (N:=N) hhy (by omega)).2
   have key: (((v:Nat):Int)= ((w:Nat):Int))↔tt a.aT (bH 0 cV) r x=tt a.aT (bH 0 cV) r y:=by
    rw [GS b hhx hhy,yg.uniq b.Ai.conn c2 t1 t2]
    constructor
    ·intro e
     have:=c3.inj _ _ q1 s1 (by rw [v1,w1];exact e)
     omega
    ·intro e
     rw [e,w1] at v1;exact v1.symm
   congr 2
   rw [fX,beq_iff_eq,bK];exact key
end
def ot:iu:=⟨[[⟨0,0,1,1⟩]],[],[],[⟨⟨[97]⟩,⟨[49]⟩,0,⟨0,0⟩⟩]⟩
def GU:fN:=⟨⟨[97]⟩,⟨[49]⟩⟩
def qp:aA:=⟨0,1,[0,1]⟩
theorem GV:oG [⟨0,0,1,1⟩] [qp] where
 can:=⟨fun b hb=>by
  have e:b=bM qp:=by simpa using hb
  subst e
  exact⟨by decide,by decide,by unfold lG;decide,by decide⟩,List.pairwise_singleton _ _⟩
 cover:=fun x y=>by
  show l5 (if (0:Int)<=y/\y<1 then [0,1] else []) x= ((decide ((0:Int)<=x)&&decide (x<1))&&(decide ((0:Int)<=y)&&decide (y<1))||false)
  by_cases h: (0:Int)<=y/\y<1
  ·rw [aD h,cB h.1,cB h.2]
   unfold l5
   rw [lh,lh,zP]
   by_cases h0: (0:Int)<=x
   ·by_cases h1: (1:Int)<=x
    ·rw [aD h0,aD h1,bE (show ¬x<1 by omega)];simp
    ·rw [aD h0,aC h1,cB h0,cB (show x<1 by omega)];rfl
   ·rw [aC h0,aC (show ¬(1:Int)<=x by omega),bE h0];rfl
  ·rw [aC h]
   have: (decide ((0:Int)<=y)&&decide (y<1))=false:=by
    rw [Bool.eq_false_iff];intro h';rw [bP,bK,bK] at h';exact h h'
   rw [this,Bool.and_false];rfl
 lim:=fun b hb=>by
  have e:b=bM qp:=by simpa using hb
  subst e
  exact⟨by decide,by decide,by decide⟩
theorem Lm:oG [] []:=⟨eA.nil,fun _ _=>rfl,fun b hb=>by cases hb⟩
theorem Ln:iQ [⟨0,0,1,1⟩]=0:=oI.2 ⟨by decide,fun k a b h1 h2=>(by cases k <;> simp at h2),⟨_,GV,rfl⟩⟩
theorem Lo:iQ []=0:=oI.2 ⟨by decide,fun k a b h1 h2=>(by simp at h2),⟨_,Lm,rfl⟩⟩
theorem H8:uO ot:=⟨by decide,by decide,by decide,by decide,by decide,by
 intro x hx
 have e:x= ⟨⟨[97]⟩,⟨[49]⟩,0,⟨0,0⟩⟩:=by simpa [ot] using hx
 subst e;decide⟩
theorem H9:jd ot=0:=by
 have e1:ot.aK.findSome? yi=none:=by
  show [[(⟨0,0,1,1⟩:aI)]].findSome? yi=none
  have:yi [⟨0,0,1,1⟩]=none:=by unfold yi;rw [Ln];simp
  simp [this]
 have e2:lq ot=0:=by decide
 have e3:kF ot=0:=by
  unfold kF
  have:mJ ot.bD.length (kV ot)=none:=gX.2 fun k hk=>by
   have hk:k<1:=hk
   obtain rfl:k=0:=by omega
   unfold kV
   have hx0:ot.bD[0]? =some ⟨⟨[97]⟩,⟨[49]⟩,0,⟨0,0⟩⟩:=rfl
   rw [hx0,Option.bind_some,aD (by decide),aD (by decide),aC (by rintro⟨h,_⟩;omega)]
  rw [this,aC (by decide)];rfl
 have e4: ¬vQ ot:=by
  rintro⟨i,k,x,y,_,h,_⟩
  simp [ot] at h
 unfold jd
 rw [aC (by decide),aC (by decide)]
 unfold FO
 rw [e1]
 show (if iQ []≠0 then iQ [] else z6 ot)=0
 rw [Lo,aC (by simp)]
 unfold z6
 rw [aC (by decide),e2,aC (by simp),e3,aC (by simp),aC e4]
theorem Ke {jm:List (List aA)} {cV:List (List (List aA))} (D:tp ot.aK ot.aT ot.aK.length jm cV):jm= [[qp]]/\cV= [[[qp]]]:=by
 obtain⟨s,rfl⟩:=List.length_eq_one_iff.1 D.len
 obtain⟨ps,rfl⟩:=List.length_eq_one_iff.1 D.zX
 have hd:=D.dr 0 [⟨0,0,1,1⟩] s (by decide) rfl rfl
 have hs:s= [qp]:=Bq hd.can GV.can fun x y=>by
  rw [hd.cover,GV.cover]
  show (_&& !vO [] x y)=_
  simp [vO]
 subst hs
 obtain⟨u,hu⟩:=D.pt 0 [qp] ps (by decide) rfl rfl
 have u0:u 0=0:=Nat.le_zero.1 (hu.join.le 0 (by decide))
 have hh:bT (aN [qp]).length u= [0]:=by
  show (List.range 1).filter (fun k=>decide (u k=k))= [0]
  simp [List.range_succ,u0]
 obtain⟨p,rfl⟩:=List.length_eq_one_iff.1 (show ps.length=1 by rw [hu.len,hh];rfl)
 have hp:=hu.each 0 0 p (by rw [hh];rfl) rfl
 have hc:lR (aN [qp]) (aN [qp]).length u 0= [⟨0,0,1,1⟩]:=by
  show ((List.range 1).filter (fun i=>decide (u i=0))).filterMap (fun i=>(aN [qp])[i]?)=_
  simp [List.range_succ,u0];rfl
 rw [hc] at hp
 exact⟨rfl,by rw [hp.unique GV]⟩
section
variable {N:Nat}
theorem GW (hN:4398046511104<=N):eQ N=some true:=by
 have key:hU N ot [] GU GU=some (true,0):=by
  obtain⟨x,hx,hI⟩:=yW (N:=N) H8 hN
  rcases hI with ⟨he,_⟩ | ⟨_,hg,hcl,jm,cV,D,⟨hf,_⟩ | ⟨hf,r,gs,ofP,ofB,hZ,gS,hC,rfl⟩⟩
  ·exact absurd H9 he
  ·obtain⟨rfl,rfl⟩:=Ke D
   exact absurd ⟨by decide,by decide⟩ hf
  ·have b:iR ot jm cV r gs ofP ofB hZ gS:=⟨hg,hcl,D,hf,hC⟩
   have e:kg ot GU= ((0:Nat):Int):=by
    rcases vT ot GU with ⟨_,h⟩ | ⟨k,x,h,hk,_⟩
    ·exact absurd rfl (h ⟨⟨[97]⟩,⟨[49]⟩,0,⟨0,0⟩⟩ (by simp [ot]))
    ·have:k<1:=(aZ.1 hk).1
     rw [h];omega
   have hl:ot.bD[0]? =some ⟨⟨[97]⟩,⟨[49]⟩,0,⟨0,0⟩⟩:=rfl
   rw [Ab b hx e hl e hl hN]
   obtain⟨rfl,rfl⟩:=Ke D
   have hh:mZ ot.aT (bH 0 [[[qp]]]) ⟨⟨[97]⟩,⟨[49]⟩,0,⟨0,0⟩⟩=some ⟨false,0⟩:=by decide
   unfold tt
   rw [hh];simp
 unfold eQ
 have e:hU N (⟨([([(⟨0,0,1,1⟩:aI)]: (List aI))]: (List (List aI))),([]: (List aI)),([]: (List bQ)),([(⟨⟨[97]⟩,⟨[49]⟩,0,⟨0,0⟩⟩:cQ)]: (List cQ))⟩:iu) ([]: (List bS)) (⟨⟨[97]⟩,⟨[49]⟩⟩:fN) (⟨⟨[97]⟩,⟨[49]⟩⟩:fN)=some (true,0):=key
 rw [e,aB];rfl
end
end Go.Gk
namespace Go.Gk
open Go Classical
def uR (n:Nat) (fl:List bS) (v:Nat):Prop:=∃x∈fl,x.Open=true/\eN n x.dF=v
structure Kf (bs:List bQ) (n m:Nat) (fl:List bS):Prop where
 op: ∀x∈fl,x.Open=true->FJ bs n m x.dF
 br: ∀x∈fl,x.Open=false->∃i k:Nat,x.A= ((i:Nat):Int)/\x.B= ((k:Nat):Int)/\i<k/\k<n
def Kg (n:Nat) (tch:List (List Int)) (fl:List bS) (i j:Nat):Prop:=Lk n tch i j\/∃x∈fl,x.Open=false/\x.A= ((i:Nat):Int)/\x.B= ((j:Nat):Int)
def Km (n:Nat) (tch:List (List Int)) (fl:List bS) (i j:Nat):Prop:=Kg n tch fl i j/\¬uR n fl i/\¬uR n fl j
structure uS (t:Nat) (L:Nat->Nat->Prop) (r:Nat->Nat):Prop where
 le: ∀i,i<t->r i<=i
 rr: ∀i,i<t->r (r i)=r i
 co: ∀i j,L i j->r i=r j
 fi: ∀S:Nat->Prop,(∀i j,L i j->(S i↔S j))->∀i j,i<t->j<t->r i=r j->S i->S j
theorem uS.uniq {t:Nat} {L:Nat->Nat->Prop} {r1 r2:Nat->Nat} (h1:uS t L r1) (h2:uS t L r2) {i j:Nat} (hi:i<t) (hj:j<t):r1 i=r1 j↔r2 i=r2 j:=by
 have key: ∀{r1 r2:Nat->Nat},uS t L r1->uS t L r2->r1 i=r1 j->r2 i=r2 j:=fun{r1 r2} h1 h2 e=>
  (h1.fi (fun x=>r2 i=r2 x) (fun a b hab=>by rw [h2.co a b hab]) i j hi hj e) rfl
 exact⟨key h1 h2,key h2 h1⟩
noncomputable def nY (bs:List bQ) (pcs:List aH) (fl:List bS) (l:cQ):Option Nat:=(mZ bs pcs l).bind fun h=>if uR pcs.length fl (eN pcs.length h) then none else some (eN pcs.length h)
section
variable {N:Nat} {r:Nat->Nat} {hZ:List Int} {gS:List dF}
theorem Ia {bs:List bQ} {n m:Nat} {h:dF} (hh:FJ bs n m h) (hn:n+m<=1000000000):fR N h ((n:Nat):Int)=some ((eN n h:Nat):Int)/\eN n h<n+m:=by
 obtain⟨k,e,h1,h2⟩:=hh.num
 unfold fR eN
 cases hB:h.bQ with
 | true=>
  have:=(h1 hB).1
  rw [aR,aD rfl,e,bX,wrap_add (by omega)]
  exact⟨rfl,by omega⟩
 | false=>
  have:=h2 hB
  rw [aQ,aC iX,e,bX]
  exact⟨rfl,by omega⟩
def F9 (t:Nat) (L:Nat->Nat->Prop) (op:Nat->Prop) (done:Nat->Nat->Prop) (u:List Int):Prop:=
 ∃r E,UF t u r/\my r E/\vq t r E/\(∀p∈E,L p.1 p.2/\¬op p.1/\¬op p.2)/\∀i j,done i j->¬op i->¬op j->(i,j)∈E
theorem F9.mono {t:Nat} {L:Nat->Nat->Prop} {op:Nat->Prop} {d d':Nat->Nat->Prop} {u:List Int} (h:F9 t L op d u) (hd: ∀i j,d' i j->d i j):F9 t L op d' u:=by
 obtain⟨r,E,h1,h2,h3,h4,h5⟩:=h
 exact⟨r,E,h1,h2,h3,h4,fun i j hij=>h5 i j (hd i j hij)⟩
theorem FR {t:Nat} {L:Nat->Nat->Prop} {op:Nat->Prop} {done:Nat->Nat->Prop} {u:List Int} {om:List (Int×Bool)} (hom: ∀v:Nat,dK om ((v:Nat):Int) false=true↔op v) (hI:F9 t L op done u) {i k:Nat} (hi:i<t) (hk:k<t) (ht:t<N) (hL:L i k):
  Ok (gC N ((i:Nat):Int) ((k:Nat):Int) om u) (F9 t L op (fun a b=>done a b\/(a=i/\b=k))):=by
 obtain⟨r,E,h1,h2,h3,h4,h5⟩:=hI
 have skip:op i\/op k->F9 t L op (fun a b=>done a b\/(a=i/\b=k)) u:=fun ho=>⟨r,E,h1,h2,h3,h4,fun a b hab ha hb=>by
  rcases hab with hab | ⟨rfl,rfl⟩
  ·exact h5 a b hab ha hb
  ·rcases ho with ho | ho
   ·exact absurd ho ha
   ·exact absurd ho hb⟩
 unfold gC
 by_cases ho:op i
 ·refine Ok.eq (x:=false) (by rw [(hom i).2 ho];rfl) (Ok.ret (skip (.inl ho)))
 ·have e1:dK om ((i:Nat):Int) false=false:=by rw [Bool.eq_false_iff];exact fun h=>ho ((hom i).1 h)
  by_cases hp:op k
  ·refine Ok.eq (x:=false) (by rw [e1,(hom k).2 hp];rfl) (Ok.ret (skip (.inr hp)))
  ·have e2:dK om ((k:Nat):Int) false=false:=by rw [Bool.eq_false_iff];exact fun h=>hp ((hom k).1 h)
   refine Ok.eq (x:=true) (by rw [e1,e2];rfl) ?_
   obtain⟨u2,a1,a2⟩:=C5 (N:=N) h1 hi hk ht
   rw [aR,a1]
   refine Ok.ret ⟨_,_,a2,h2.join i k (h1.rr i hi),h3.join hi hk,fun p hp'=>?_,fun a b hab ha hb=>?_⟩
   ·rcases cR.1 hp' with h | h
    ·exact h4 p h
    ·simp at h;subst h;exact⟨hL,ho,hp⟩
   ·rcases hab with hab | ⟨rfl,rfl⟩
    ·exact List.mem_append_left _ (h5 a b hab ha hb)
    ·simp
structure yj (bs:List bQ) (pcs:List aH) (fl:List bS) (ls:List cQ) (r2:Nat->Nat) (j:Nat) (up:List Int) (fm:List (Int×Int)) (out:List Int):Prop where
 uf:UF (pcs.length+bs.length) up r2
 len:out.length=ls.length
 no: ∀i l,i<j->ls[i]? =some l->nY bs pcs fl l=none->out[i]? =some (-1)
 yes: ∀i l v,i<j->ls[i]? =some l->nY bs pcs fl l=some v->iM fm ((r2 v:Nat):Int)=true/\out[i]? =some (dK fm ((r2 v:Nat):Int) 0)
 low: ∀x,iM fm x=true->∃(v:Nat) (l:cQ) (u:Nat),dK fm x 0= ((v:Nat):Int)/\v<j/\ls[v]? =some l/\nY bs pcs fl l=some u/\((r2 u:Nat):Int)=x
 inj: ∀x y,iM fm x=true->iM fm y=true->dK fm x 0=dK fm y 0->x=y
theorem BF {bs:List bQ} {pcs:List aH} {ls:List cQ} {fl:List bS} (hfl:Kf bs pcs.length bs.length fl) (hfn:fl.length<=1073741824) (hn:pcs.length+bs.length<=1000000000) (hp:pcs.length<=1073741824) (hbl:bs.length<=1073741824) (hl:ls.length<=1073741824) (hof:hZ=ls.map (Ah bs pcs r)) (hat:gS=ls.map (fun l=>(mZ bs pcs l).getD ⟨false,0⟩)) (hN:4398046511104<=N):
  ∃r2 c up fm,dH N bs ls pcs (dW bs pcs) hZ gS fl=some c/\uS (pcs.length+bs.length) (Km pcs.length (dW bs pcs) fl) r2/\yj bs pcs fl ls r2 ls.length up fm c:=by
 suffices h:Ok (dH N bs ls pcs (dW bs pcs) hZ gS fl) (fun c=>∃r2 up fm,uS (pcs.length+bs.length) (Km pcs.length (dW bs pcs) fl) r2/\yj bs pcs fl ls r2 ls.length up fm c) by
  obtain⟨c,h1,r2,up,fm,h2,h3⟩:=h
  exact⟨r2,c,up,fm,h1,h2,h3⟩
 unfold dH
 refine Ok.bind (Ok.iY (fun q om=>∀v:Nat,dK om ((v:Nat):Int) false=true↔uR pcs.length (fl.take q) v) (by omega) (fun v=>⟨fun h=>(by cases h),fun⟨x,hx,_⟩=>(by simp at hx)⟩) (fun q om hq hI=>?_)) ?_
 ·have hx:fl[q]? =some fl[q]:=aJ hq
  have hts:=fw hq
  refine Ok.ix hx ?_
  cases ho:fl[q].Open with
  | true=>
   obtain⟨c1,_⟩:=Ia (N:=N) (hfl.op _ (cI hq) ho) hn
   refine Ok.eq (x:=oM om ((eN pcs.length fl[q].dF:Nat):Int) true) (by rw [aR,c1,aB]) (Ok.ret fun v=>?_)
   rw [iV,hts]
   by_cases e: ((v:Nat):Int)= ((eN pcs.length fl[q].dF:Nat):Int)
   ·rw [aD e]
    exact⟨fun _=>⟨fl[q],List.mem_append_right _ (List.mem_singleton.2 rfl),ho,by omega⟩,fun _=>rfl⟩
   ·rw [aC e,hI v]
    constructor
    ·rintro⟨x,hx,h1,h2⟩;exact⟨x,List.mem_append_left _ hx,h1,h2⟩
    ·rintro⟨x,hx,h1,h2⟩
     rcases cR.1 hx with hx | hx
     ·exact⟨x,hx,h1,h2⟩
     ·simp at hx;subst hx;exact absurd (by rw [h2]) e
  | false=>
   refine Ok.eq (x:=om) rfl (Ok.ret fun v=>?_)
   rw [hI v,hts]
   constructor
   ·rintro⟨x,hx,h1,h2⟩;exact⟨x,List.mem_append_left _ hx,h1,h2⟩
   ·rintro⟨x,hx,h1,h2⟩
    rcases cR.1 hx with hx | hx
    ·exact⟨x,hx,h1,h2⟩
    ·simp at hx;subst hx;rw [ho] at h1;cases h1
 intro om hom
 rw [eW] at hom
 rw [wrap_add (by omega)]
 obtain⟨up0,u1,u2⟩:=rm (N:=N) (n:=pcs.length+bs.length) (by omega)
 refine Ok.eq u1 ?_
 have htl: (dW bs pcs).length=bs.length:=by unfold dW;simp
 have hto:=xJ (bs:=bs) (pcs:=pcs) (by omega)
 refine Ok.bind (Ok.iY (fun q u=>F9 (pcs.length+bs.length) (Kg pcs.length (dW bs pcs) fl) (uR pcs.length fl) (fun a b=>∃k l,k<q/\(dW bs pcs)[k]? =some l/\((a:Nat):Int)∈l/\b=pcs.length+k) u) (by omega)
  ⟨_,_,u2,my.id,vq.id _,fun p hp=>(by cases hp),fun i j ⟨k,l,hk,_⟩=>by omega⟩ (fun q u hq hI=>?_)) ?_
 ·have hqx: (dW bs pcs)[q]? =some (dW bs pcs)[q]:=aJ hq
  obtain⟨hl1,hl2⟩:=hto _ (cI hq)
  refine Ok.ix hqx ?_
  rw [wrap_add (by omega)]
  refine Ok.bind (Ok.iY (fun t u=>F9 (pcs.length+bs.length) (Kg pcs.length (dW bs pcs) fl) (uR pcs.length fl) (fun a b=>(∃k l,k<q/\(dW bs pcs)[k]? =some l/\((a:Nat):Int)∈l/\b=pcs.length+k)\/(((a:Nat):Int)∈(dW bs pcs)[q].take t/\b=pcs.length+q)) u) (by omega)
   (hI.mono fun i j h=>by rcases h with h | ⟨h,_⟩;exact h;simp at h) (fun t u ht hJ=>?_)) (fun u hJ=>Ok.ret (hJ.mono fun i j ⟨k,l,hk,h1,h2,h3⟩=>?_))
  ·have htx: (dW bs pcs)[q][t]? =some (dW bs pcs)[q][t]:=aJ ht
   obtain⟨i,hi,e⟩:=hl2 _ (cI ht)
   refine Ok.ix htx ?_
   rw [e]
   refine Ok.bind (FR hom hJ (i:=i) (k:=pcs.length+q) (by omega) (by omega) (by omega) (.inl ⟨q,_,hqx,by rw [<-e];exact cI ht,rfl⟩)) (fun u2 hu2=>Ok.ret (hu2.mono fun a b h=>?_))
   rw [fw ht] at h
   rcases h with h | ⟨h,hb⟩
   ·exact .inl (.inl h)
   ·rcases cR.1 h with h | h
    ·exact .inl (.inr ⟨h,hb⟩)
    ·rw [List.mem_singleton,e] at h;exact .inr ⟨by omega,hb⟩
  ·by_cases hkq:k<q
   ·exact .inl ⟨k,l,hkq,h1,h2,h3⟩
   ·have:k=q:=by omega
    subst this
    rw [hqx] at h1;injection h1 with h1;subst h1
    exact .inr ⟨by rw [eW];exact h2,h3⟩
 intro u3 h3
 refine Ok.bind (Ok.iY (fun q u=>F9 (pcs.length+bs.length) (Kg pcs.length (dW bs pcs) fl) (uR pcs.length fl) (fun a b=>Lk pcs.length (dW bs pcs) a b\/∃x∈fl.take q,x.Open=false/\x.A= ((a:Nat):Int)/\x.B= ((b:Nat):Int)) u) (by omega)
  (h3.mono fun i j h=>by
   rcases h with ⟨k,l,h1,h2,h3⟩ | ⟨x,hx,_⟩
   ·exact⟨k,l,(aZ.1 h1).1,h1,h2,h3⟩
   ·simp at hx) (fun q u hq hI=>?_)) ?_
 ·have hx:fl[q]? =some fl[q]:=aJ hq
  have hts:=fw hq
  refine Ok.ix hx ?_
  cases ho:fl[q].Open with
  | true=>
   refine Ok.eq (x:=u) rfl (Ok.ret (hI.mono fun a b h=>?_))
   rw [hts] at h
   rcases h with h | ⟨x,hx,h1,h2⟩
   ·exact .inl h
   ·rcases cR.1 hx with hx | hx
    ·exact .inr ⟨x,hx,h1,h2⟩
    ·simp at hx;subst hx;rw [ho] at h1;cases h1
  | false=>
   obtain⟨i,k,e1,e2,e3,e4⟩:=hfl.br _ (cI hq) ho
   rw [mD,aR,e1,e2]
   refine Ok.bind (P:=F9 (pcs.length+bs.length) (Kg pcs.length (dW bs pcs) fl) (uR pcs.length fl) (fun a b=>(Lk pcs.length (dW bs pcs) a b\/∃x∈fl.take q,x.Open=false/\x.A= ((a:Nat):Int)/\x.B= ((b:Nat):Int))\/(a=i/\b=k))) (Ok.bind (FR hom hI (i:=i) (k:=k) (by omega) (by omega) (by omega) (.inr ⟨fl[q],cI hq,ho,e1,e2⟩)) (fun u2 hu2=>Ok.ret hu2)) (fun u2 hu2=>Ok.ret (hu2.mono fun a b h=>?_))
   rw [hts] at h
   rcases h with h | ⟨x,hx,h1,h2,h3⟩
   ·exact .inl (.inl h)
   ·rcases cR.1 hx with hx | hx
    ·exact .inl (.inr ⟨x,hx,h1,h2,h3⟩)
    ·simp at hx;subst hx
     rw [e1] at h2;rw [e2] at h3
     exact .inr ⟨by omega,by omega⟩
 rintro up1 ⟨r2,E,v1,v2,v3,v4,v5⟩
 rw [eW] at v5
 have hC:uS (pcs.length+bs.length) (Km pcs.length (dW bs pcs) fl) r2:=
  ⟨v1.le,v1.rr,fun i j h=>v2 (i,j) (v5 i j h.1 h.2.1 h.2.2),fun S hS i j hi hj=>v3 S (fun p hp=>hS p.1 p.2 (v4 p hp)) i j hi hj⟩
 refine Ok.eq (pT 0 (by omega)) ?_
 have jT:gS.length=ls.length:=by rw [hat,gw]
 refine Ok.bind (Ok.iY (fun j (st:List Int×List (Int×Int)×List Int)=>yj bs pcs fl ls r2 j st.1 st.2.1 st.2.2) (by omega) ⟨v1,by simp,fun i l h=>by omega,fun i l h h1=>by omega,fun x hx=>(by cases hx),fun x y hx=>(by cases hx)⟩ ?_) (fun st I=>Ok.ret ⟨r2,st.1,st.2.1,hC,by rw [<-jT];exact I⟩)
 rintro j ⟨up,fm,out⟩ hj I
 rw [jT] at hj
 dsimp only at I ⊢
 have hx:ls[j]? =some ls[j]:=aJ hj
 have h1:gS[j]? =some ((mZ bs pcs ls[j]).getD ⟨false,0⟩):=by rw [hat,il,hx];rfl
 have h2:hZ[j]? =some (Ah bs pcs r ls[j]):=by rw [hof,il,hx];rfl
 have h3:out[j]? =some (out[j]'(by rw [I.len];exact hj)):=aJ _
 have hjo:j<out.length:=by rw [I.len];exact hj
 have hx0:=hx
 have dead:nY bs pcs fl ls[j]=none->yj bs pcs fl ls r2 (j+1) up fm (out.set j (-1)):=fun hnd=>by
  refine⟨I.uf,by rw [gG];exact I.len,fun i l hi hil hn=>?_,fun i l v hi hil hs=>?_,fun x hx=>?_,I.inj⟩
  ·by_cases e:i=j
   ·subst e;rw [List.getElem?_set_self hjo]
   ·rw [List.getElem?_set_ne (Ne.symm e)];exact I.no i l (by omega) hil hn
  ·by_cases e:i=j
   ·subst e;rw [hx] at hil;injection hil with hil;subst hil;rw [hnd] at hs;cases hs
   ·rw [List.getElem?_set_ne (Ne.symm e)];exact I.yes i l v (by omega) hil hs
  ·obtain⟨v,l,u,q1,q2,q3⟩:=I.low x hx;exact⟨v,l,u,q1,by omega,q3⟩
 refine Ok.ix h1 ?_
 cases hh:mZ bs pcs ls[j] with
 | none=>
  have e1:Ah bs pcs r ls[j] = -1:=by unfold Ah tt;rw [hh];rfl
  refine Ok.eq (x:=0) rfl (Ok.eq (x:=true) (by rw [dE h2,aB,e1];rfl) ?_)
  refine Ok.ix h3 (Ok.ret ?_)
  dsimp only
  rw [bX]
  exact dead (by unfold nY;rw [hh];rfl)
 | some h=>
  obtain⟨c1,c2⟩:=Aa (N:=N) hh hn
  have e1: ∃g:Nat,Ah bs pcs r ls[j]= ((g:Nat):Int):=by unfold Ah tt;rw [hh];exact⟨_,rfl⟩
  obtain⟨g,e1⟩:=e1
  refine Ok.eq c1 ?_
  by_cases hop:uR pcs.length fl (eN pcs.length h)
  ·refine Ok.eq (x:=true) (by rw [dE h2,aB,e1,bE (show ¬((g:Nat):Int)<0 by omega),aQ,(hom _).2 hop]) ?_
   refine Ok.ix h3 (Ok.ret ?_)
   dsimp only
   rw [bX]
   exact dead (by unfold nY;rw [hh,Option.bind_some,aD hop])
  have hnd:nY bs pcs fl ls[j]=some (eN pcs.length h):=by unfold nY;rw [hh,Option.bind_some,aC hop]
  refine Ok.eq (x:=false) (by rw [dE h2,aB,e1,bE (show ¬((g:Nat):Int)<0 by omega),aQ];rw [Bool.eq_false_iff.2 fun h=>hop ((hom _).1 h)]) ?_
  rw [aQ]
  obtain⟨up2,t1,t2⟩:=mY (N:=N) I.uf c2 (by omega)
  refine Ok.eq t1 ?_
  dsimp only
  have fin: ∀(up3:List Int) (fm2:List (Int×Int)),UF (pcs.length+bs.length) up3 r2->(∀x,iM fm x=true->iM fm2 x=true/\dK fm2 x 0=dK fm x 0)->iM fm2 ((r2 (eN pcs.length h):Nat):Int)=true->(∀x,iM fm2 x=true->∃(v:Nat) (l:cQ) (u:Nat),dK fm2 x 0= ((v:Nat):Int)/\v<j+1/\ls[v]? =some l/\nY bs pcs fl l=some u/\((r2 u:Nat):Int)=x)->(∀x y,iM fm2 x=true->iM fm2 y=true->dK fm2 x 0=dK fm2 y 0->x=y)->
    yj bs pcs fl ls r2 (j+1) up3 fm2 (out.set j (dK fm2 ((r2 (eN pcs.length h):Nat):Int) 0)):=fun up3 fm2 g1 g2 g3 g4 g5=>by
   refine⟨g1,by rw [gG];exact I.len,fun i l hi hil hn=>?_,fun i l h' hi hil hs=>?_,g4,g5⟩
   ·by_cases e:i=j
    ·subst e;rw [hx] at hil;injection hil with hil;subst hil;rw [hnd] at hn;cases hn
    ·rw [List.getElem?_set_ne (Ne.symm e)];exact I.no i l (by omega) hil hn
   ·by_cases e:i=j
    ·subst e;rw [hx] at hil;injection hil with hil;subst hil;rw [hnd] at hs;injection hs with hs;subst hs
     exact⟨g3,by rw [List.getElem?_set_self hjo]⟩
    ·obtain⟨q1,q2⟩:=I.yes i l h' (by omega) hil hs
     rw [List.getElem?_set_ne (Ne.symm e),q2,(g2 _ q1).2]
     exact⟨(g2 _ q1).1,rfl⟩
  cases hm:iM fm ((r2 (eN pcs.length h):Nat):Int) with
  | true=>
   rw [lv,aQ]
   obtain⟨up3,t3,t4⟩:=mY (N:=N) t2 c2 (by omega)
   refine Ok.eq (x:=(up2,fm)) rfl (Ok.eq t3 (Ok.ix h3 (Ok.ret ?_)))
   dsimp only
   rw [bX]
   exact fin up3 fm t4 (fun x hx=>⟨hx,rfl⟩) hm (fun x hx=>by obtain⟨v,l,u,q1,q2,q3⟩:=I.low x hx;exact⟨v,l,u,q1,by omega,q3⟩) I.inj
  | false=>
   rw [mD,aR]
   obtain⟨up3,t3,t4⟩:=mY (N:=N) t2 c2 (by omega)
   obtain⟨up4,t5,t6⟩:=mY (N:=N) t4 c2 (by omega)
   refine Ok.eq (x:=(up3,oM fm ((r2 (eN pcs.length h):Nat):Int) ((j:Nat):Int))) (by rw [t3,aB]) (Ok.eq t5 (Ok.ix h3 (Ok.ret ?_)))
   dsimp only
   rw [bX]
   refine fin up4 _ t6 (fun x hx=>?_) (by rw [kT];simp) (fun x hx=>?_) (fun x y hx hy e=>?_)
   ·have hne:x≠((r2 (eN pcs.length h):Nat):Int):=fun e=>by rw [e,hm] at hx;cases hx
    rw [kT,iV,aC hne,hx]
    exact⟨by simp,rfl⟩
   ·rw [iV]
    by_cases e:x= ((r2 (eN pcs.length h):Nat):Int)
    ·rw [aD e];exact⟨j,ls[j],_,rfl,by omega,hx0,hnd,e.symm⟩
    ·rw [aC e]
     rw [kT,bE e,Bool.false_or] at hx
     obtain⟨v,l,u,q1,q2,q3⟩:=I.low x hx;exact⟨v,l,u,q1,by omega,q3⟩
   ·rw [iV,iV] at e
    rw [kT] at hx hy
    by_cases ex:x= ((r2 (eN pcs.length h):Nat):Int)
    ·by_cases ey:y= ((r2 (eN pcs.length h):Nat):Int)
     ·rw [ex,ey]
     ·rw [aD ex,aC ey] at e
      rw [bE ey,Bool.false_or] at hy
      obtain⟨v,_,_,q1,q2,_⟩:=I.low y hy
      omega
    ·rw [bE ex,Bool.false_or] at hx
     by_cases ey:y= ((r2 (eN pcs.length h):Nat):Int)
     ·rw [aC ex,aD ey] at e
      obtain⟨v,_,_,q1,q2,_⟩:=I.low x hx
      omega
     ·rw [aC ex,aC ey] at e
      rw [bE ey,Bool.false_or] at hy
      exact I.inj x y hx hy e
def Aj (n:Nat) (k:Int):Bool:=decide (k>=0)&&decide (k<=((n:Nat):Int) - 1)
def o0 (bs:List bQ) (n:Nat) (x:bS):Bool:=bif x.Open then (bif x.dF.bQ then Aj bs.length x.dF.Number&&tr bs x.dF.Number.toNat else Aj n x.dF.Number) else Aj n x.A&&Aj n x.B
def BG (x:bS):Bool:=bif x.Open then x.A != 0||x.B != 0 else !decide (x.dF= ⟨false,0⟩)
def sK (bs:List bQ) (n:Nat) (fl:List bS) (k:Nat):Option Int:=(fl[k]?).bind fun x=>
 if BG x=true then some 3 else if o0 bs n x=false then some 9 else if (!x.Open&&decide (x.B<=x.A))=true then some 8 else if x∈fl.take k then some 7 else none
def mB (bs:List bQ) (n:Nat) (fl:List bS):Int:=if 20<fl.length then 2 else (mJ fl.length (sK bs n fl)).getD 0
theorem yk {l:List bS} {x:bS} (hl:l.length<=1048576):dV N l x=some (decide (x∈l)):=by
 have e:dV N l x=rP l x:=rfl
 rw [e,t9 (by omega)]
theorem yl {a1:List (List aI)} {a2:List aI} {bs:List bQ} {a4:List cQ} {a5:List (List aA)} {pcs:List aH} {a7:List (List Int)} {a8:List cE} {a9 a10 a11:List Int} {a12:List dF} {fl:List bS} (hp:pcs.length<=1073741824) (hb:bs.length<=1073741824) (hf:fl.length<=1048576):
  gA N a1 a2 bs a4 a5 pcs a7 a8 a9 a10 a11 a12 fl=some (mB bs pcs.length fl):=by
 unfold gA mB
 by_cases h20:20<fl.length
 ·rw [cB (show ((fl.length:Nat):Int)>20 by omega),aR,aD h20]
 rw [bE (show ¬((fl.length:Nat):Int)>20 by omega),aQ,aC h20]
 have w: ∀(n:Nat) (k:Int),n<=1073741824->jL N k 0 (IntKind.wrap .i64 (((n:Nat):Int) - 1))=some (Aj n k):=fun n k hn=>by
  rw [eO (by omega) (by omega)];rfl
 have w1: ∀k:Int,fy N k pcs=some (Aj pcs.length k):=fun k=>by
  unfold fy;rw [w _ _ hp];rfl
 have assoc: ∀{β:Type} (a:Option Bool) (b c:Bool->Option Bool) (g:Bool->Option β),(a.bind fun s=>(b s).bind fun t=>(c t).bind g)= (a.bind fun s=>(b s).bind c).bind g:=fun a b c g=>by
  cases a with
  | none=>rfl
  | some s=>show (b s).bind _= ((b s).bind c).bind g;cases b s <;> rfl
 rw [lY (sK bs pcs.length fl) (by omega) (fun k hk _=>by
  have hx:fl[k]? =some fl[k]:=aJ hk
  have hs:qC fl 0 ((k:Nat):Int)=some (fl.take k):=by
   unfold qC
   rw [aD ⟨by omega,by omega,by omega⟩];simp
  rw [dE hx,aB]
  unfold sK
  rw [hx,Option.bind_some]
  have e1: (bif (fl[k].Open&&((fl[k].A != 0)||(fl[k].B != 0))) then (some true) else (bif (!fl[k].Open) then (some (!(decide (fl[k].dF= (⟨false,0⟩:dF))))) else (some false)))=some (BG fl[k]):=by
   unfold BG
   cases fl[k].Open with
   | true=>cases (fl[k].A != 0||fl[k].B != 0) <;> rfl
   | false=>rfl
  rw [e1,aB]
  cases hfm:BG fl[k] with
  | true=>rw [aR,aD rfl];rfl
  | false=>
   rw [aQ,aC iX,w1,w1,w1,w _ _ hb]
   have e2: (((some (Aj pcs.length fl[k].A)).bind fun x117=>bif x117 then ((some (Aj pcs.length fl[k].B)).bind fun x119=>some x119) else (some false)).bind fun s116=>(bif fl[k].Open then ((some (Aj pcs.length fl[k].dF.Number)).bind fun x122=>some x122) else (some s116)).bind fun s121=>(bif (fl[k].Open&&fl[k].dF.bQ) then (((some (Aj bs.length fl[k].dF.Number)).bind fun x143=>bif x143 then ((idx bs fl[k].dF.Number).bind fun x145=>some x145.gL) else (some false)).bind fun s142=>some s142) else (some s121)):Option Bool)=some (o0 bs pcs.length fl[k]):=by
    unfold o0
    simp only [aB]
    cases fl[k].Open with
    | false=>
     cases Aj pcs.length fl[k].A <;> rfl
    | true=>
     simp only [aR,Bool.true_and]
     cases hA:Aj pcs.length fl[k].A <;> simp only [aR,aQ,aB]
     all_goals
      cases fl[k].dF.bQ with
      | false=>rfl
      | true=>
       simp only [aR]
       cases hB:Aj bs.length fl[k].dF.Number with
       | false=>rfl
       | true=>
        unfold Aj at hB
        rw [bP,bK,bK] at hB
        have hlt:fl[k].dF.Number.toNat<bs.length:=by omega
        have hbx:bs[fl[k].dF.Number.toNat]? =some bs[fl[k].dF.Number.toNat]:=aJ hlt
        have hi:=dE hbx
        rw [Int.toNat_of_nonneg hB.1] at hi
        rw [aR,hi,aB,aB,Bool.true_and]
        unfold tr
        rw [hbx];rfl
   refine(assoc _ _ _ _).trans ((congrArg (fun o=>Option.bind o _) e2).trans ?_)
   rw [aB]
   cases o0 bs pcs.length fl[k] with
   | false=>rfl
   | true=>
    rw [lv,aQ,aC (by decide)]
    cases (!fl[k].Open&&decide (fl[k].B<=fl[k].A)) with
    | true=>rfl
    | false=>
     rw [aQ,aC iX,hs,aB,yk (by rw [cZ];omega),aB]
     by_cases hm:fl[k]∈fl.take k
     ·rw [cB hm,aR,aD hm];rfl
     ·rw [bE hm,aQ,aC hm];rfl),aB]
 cases mJ fl.length (sK bs pcs.length fl) <;> rfl
theorem vU {bs:List bQ} {n:Nat} {fl:List bS} (h:mB bs n fl=0):fl.length<=20/\Kf bs n bs.length fl:=by
 unfold mB at h
 split at h
 ·cases h
 rename_i h20
 have hn: ∀k,k<fl.length->sK bs n fl k=none:=by
  cases hf:mJ fl.length (sK bs n fl) with
  | none=>exact gX.1 hf
  | some e=>
   rw [hf] at h
   obtain⟨k,hk,he,_⟩:=iU.1 hf
   have h:e=0:=h
   subst h
   unfold sK at he
   rw [aJ hk,Option.bind_some] at he
   repeat' split at he
   all_goals (first | (injection he with he;omega) | cases he)
 have hx: ∀x∈fl,o0 bs n x=true/\(x.Open=false->x.A<x.B):=fun x hx=>by
  obtain⟨k,hk,rfl⟩:=List.mem_iff_getElem.1 hx
  have:=hn k hk
  unfold sK at this
  rw [aJ hk,Option.bind_some] at this
  split at this
  ·cases this
  ·split at this
   ·cases this
   ·rename_i h2
    split at this
    ·cases this
    ·rename_i h3
     refine⟨by simpa using h2,fun ho=>?_⟩
     rw [ho,mD,Bool.true_and,bK] at h3
     omega
 have inp: ∀{n:Nat} {k:Int},Aj n k=true->∃j:Nat,k= ((j:Nat):Int)/\j<n:=fun{n k} h=>by
  unfold Aj at h
  rw [bP,bK,bK] at h
  exact⟨k.toNat,by omega,by omega⟩
 refine⟨by omega,fun x hm ho=>?_,fun x hm ho=>?_⟩
 ·obtain⟨h1,_⟩:=hx x hm
  unfold o0 at h1
  rw [ho,aR] at h1
  cases hB:x.dF.bQ with
  | true=>
   rw [hB,aR,bP] at h1
   obtain⟨j,e,hj⟩:=inp h1.1
   refine⟨j,e,fun _=>⟨hj,?_⟩,fun h=>(by rw [hB] at h;cases h)⟩
   rw [e,bX] at h1;exact h1.2
  | false=>
   rw [hB,aQ] at h1
   obtain⟨j,e,hj⟩:=inp h1
   exact⟨j,e,fun h=>(by rw [hB] at h;cases h),fun _=>hj⟩
 ·obtain⟨h1,h2⟩:=hx x hm
  unfold o0 at h1
  rw [ho,aQ,bP] at h1
  obtain⟨i,e1,hi⟩:=inp h1.1
  obtain⟨k,e2,hk⟩:=inp h1.2
  have:=h2 ho
  exact⟨i,k,e1,e2,by omega,hk⟩
end
end Go.Gk
namespace Go.Gk
open Go Classical
structure FT (c:List Int):Prop where
 neg: ∀(i:Nat) (x:Int),c[i]? =some x->x<0->x = -1
 own: ∀(i v:Nat),c[i]? =some ((v:Nat):Int)->c[v]? =some ((v:Nat):Int)
def BH (c:List Int) (i k:Nat):Bool:=decide (c.getD i (-1)>=0)&&c.getD i (-1)==c.getD k (-1)
section
variable {r:Nat->Nat}
theorem yj.first {bs:List bQ} {pcs:List aH} {fl:List bS} {ls:List cQ} {r2:Nat->Nat} {up:List Int} {fm:List (Int×Int)} {c:List Int} (h:yj bs pcs fl ls r2 ls.length up fm c):FT c where
 neg:=fun i x hx h0=>by
  have hi:=(aZ.1 hx).1
  rw [h.len] at hi
  have hl:ls[i]? =some ls[i]:=aJ hi
  cases hn:nY bs pcs fl ls[i] with
  | none=>have:=h.no i _ hi hl hn;rw [hx] at this;injection this
  | some u=>
   obtain⟨q1,q2⟩:=h.yes i _ u hi hl hn
   obtain⟨v,_,_,q3,_⟩:=h.low _ q1
   rw [hx,q3] at q2;injection q2 with q2;omega
 own:=fun i v hx=>by
  have hi:=(aZ.1 hx).1
  rw [h.len] at hi
  have hl:ls[i]? =some ls[i]:=aJ hi
  cases hn:nY bs pcs fl ls[i] with
  | none=>have:=h.no i _ hi hl hn;rw [hx] at this;injection this with this;omega
  | some u=>
   obtain⟨q1,q2⟩:=h.yes i _ u hi hl hn
   obtain⟨v',l',u',q3,q4,q5,q6,q7⟩:=h.low _ q1
   have e:v=v':=by rw [hx,q3] at q2;injection q2 with q2;omega
   subst e
   obtain⟨s1,s2⟩:=h.yes v l' u' q4 q5 q6
   rw [q7,q3] at s2;exact s2
theorem yj.conn {bs:List bQ} {pcs:List aH} {fl:List bS} {ls:List cQ} {r2:Nat->Nat} {up:List Int} {fm:List (Int×Int)} {c:List Int} (h:yj bs pcs fl ls r2 ls.length up fm c) {i k:Nat} {x y:cQ} (hx:ls[i]? =some x) (hy:ls[k]? =some y):
  BH c i k=true↔∃u v,nY bs pcs fl x=some u/\nY bs pcs fl y=some v/\r2 u=r2 v:=by
 have hi:=(aZ.1 hx).1
 have hk:=(aZ.1 hy).1
 unfold BH
 rw [bP,bK,beq_iff_eq,List.getD_eq_getElem?_getD,List.getD_eq_getElem?_getD]
 cases hn:nY bs pcs fl x with
 | none=>
  rw [h.no i x hi hx hn,Option.getD_some]
  exact⟨fun h=>absurd h.1 (by decide),fun⟨u,v,e,_⟩=>(by cases e)⟩
 | some u=>
  obtain⟨q1,q2⟩:=h.yes i x u hi hx hn
  obtain⟨a,_,_,q3,_⟩:=h.low _ q1
  rw [q2,Option.getD_some,q3]
  cases hm:nY bs pcs fl y with
  | none=>
   rw [h.no k y hk hy hm,Option.getD_some]
   exact⟨fun h=>absurd h.2 (by omega),fun⟨u,v,_,e,_⟩=>(by cases e)⟩
  | some v=>
   obtain⟨s1,s2⟩:=h.yes k y v hk hy hm
   obtain⟨b,_,_,s3,_⟩:=h.low _ s1
   rw [s2,Option.getD_some,s3]
   constructor
   ·rintro⟨_,e⟩
    have:=h.inj _ _ q1 s1 (by rw [q3,s3];exact e)
    exact⟨u,v,rfl,rfl,by omega⟩
   ·rintro⟨u',v',e1,e2,e3⟩
    injection e1 with e1;injection e2 with e2
    subst e1;subst e2
    rw [e3,s3] at q3
    exact⟨by omega,q3.symm⟩
end
end Go.Gk
namespace Go.Gk
open Go Classical
section
variable {N:Nat} {a:iu} {jm:List (List aA)} {cV:List (List (List aA))} {r:Nat->Nat} {gs:List cE} {ofP ofB hZ:List Int} {gS:List dF}
theorem FU (b:iR a jm cV r gs ofP ofB hZ gS) {fl:List bS} (h0:mB a.aT (bH 0 cV).length fl=0) (hN:4398046511104<=N):
  ∃r2 c up fm,dH N a.aT a.bD (bH 0 cV) (dW a.aT (bH 0 cV)) hZ gS fl=some c/\uS ((bH 0 cV).length+a.aT.length) (Km (bH 0 cV).length (dW a.aT (bH 0 cV)) fl) r2/\yj a.aT (bH 0 cV) fl a.bD r2 a.bD.length up fm c:=by
 have hf:=b.zY.2
 have hbl:=b.BA.gb.len
 have hlf:=b.uM.zY
 obtain⟨h20,hok⟩:=vU h0
 exact BF (N:=N) (r:=r) hok (by omega) (by omega) (by omega) (by omega) (by omega) b.Ai.hZ b.Ai.gS hN
end
end Go.Gk
namespace Go.Gk
open Go Classical
def Cw (a0 a1 b0 b1:Int):Int:=max (max 0 (b0 - a1+1)) (a0 - b1+1)
def vB (a b:aI):Int:=max (Cw a.X0 a.X1 b.X0 b.X1) (Cw a.Y0 a.Y1 b.Y0 b.Y1)
def ym (s:Int) (x:aI) (b:List aI):Int:=b.foldl (fun s y=>if s<0\/vB x y<s then vB x y else s) s
def tu (a b:List aI):Int:=a.foldl (fun s x=>ym s x b) (-1)
theorem FV {a0 a1 b0 b1:Int} (h0: -1000000<=a0/\a0<=1000000) (h1: -1000000<=a1/\a1<=1000000) (h2: -1000000<=b0/\b0<=1000000) (h3: -1000000<=b1/\b1<=1000000):0<=Cw a0 a1 b0 b1/\Cw a0 a1 b0 b1<=2000001:=by
 unfold Cw;omega
theorem Ib {a b:aI} (ha:cW a=true) (hb:cW b=true):0<=vB a b/\vB a b<=2000001:=by
 obtain⟨a1,a2,a3,a4⟩:=gR ha
 obtain⟨b1,b2,b3,b4⟩:=gR hb
 have:=FV a1 a3 b1 b3
 have:=FV a2 a4 b2 b4
 unfold vB;omega
theorem Df {x:aI} {s:Int} (hx:cW x=true): ∀(b:List aI),(∀y∈b,cW y=true)->∀{s:Int},-1<=s/\s<=2000001-> -1<=ym s x b/\ym s x b<=2000001
 | [],_,s,h=>h
 | y::b,hb,s,h=>by
  have hf:=Ib hx (hb y (List.mem_cons_self ..))
  unfold ym
  rw [List.foldl_cons]
  refine Df (s:=s) hx b (fun z hz=>hb z (jo _ hz)) ?_
  split <;> omega
theorem GX {a b:List aI} (ha: ∀y∈a,cW y=true) (hb: ∀y∈b,cW y=true): -1<=tu a b/\tu a b<=2000001:=by
 have key: ∀(a:List aI),(∀y∈a,cW y=true)->∀{s:Int},-1<=s/\s<=2000001-> -1<=a.foldl (fun s x=>ym s x b) s/\a.foldl (fun s x=>ym s x b) s<=2000001:=by
  intro a
  induction a with
  | nil=>intro _ s h;exact h
  | cons x a ih=>
   intro ha s h
   rw [List.foldl_cons]
   exact ih (fun z hz=>ha z (jo _ hz)) (Df (s:=s) (ha x (List.mem_cons_self ..)) b hb h)
 exact key a ha ⟨by omega,by omega⟩
section
variable {N:Nat}
theorem xQ {a0 a1 b0 b1:Int} (h0: -1000000<=a0/\a0<=1000000) (h1: -1000000<=a1/\a1<=1000000) (h2: -1000000<=b0/\b0<=1000000) (h3: -1000000<=b1/\b1<=1000000):iw N a0 a1 b0 b1=some (Cw a0 a1 b0 b1):=by
 unfold iw Cw
 rw [mG (n:=b0 - a1) (by omega),mG (n:=b0 - a1+1) (by omega),mG (n:=a0 - b1) (by omega),mG (n:=a0 - b1+1) (by omega),z7,z7]
theorem FW {a b:aI} (ha:cW a=true) (hb:cW b=true):jv N a b=some (vB a b):=by
 obtain⟨a1,a2,a3,a4⟩:=gR ha
 obtain⟨b1,b2,b3,b4⟩:=gR hb
 unfold jv vB
 rw [xQ a1 a3 b1 b3,aB,xQ a2 a4 b2 b4,aB,z7]
theorem FX (a b:aI): ∃n,jv N a b=some n:=⟨_,rfl⟩
theorem yZ (a b:aI) (n:Int): ∃p,nG N a b n=some p:=⟨_,rfl⟩
theorem y4 (p q:eK): ∃c,nH N p q=some c:=⟨_,rfl⟩
theorem FY {a b:List aI} (jT:a.length<=1000000) (hbl:b.length<=1000000) (ha: ∀y∈a,cW y=true) (hb: ∀y∈b,cW y=true): ∃g,lH N a b=some g/\g.ij=tu a b - 1:=by
 have hd:=GX ha hb
 suffices h:Ok (lH N a b) (fun g=>g.ij=tu a b - 1) from h
 unfold lH
 refine Ok.bind (Ok.iY (fun k s=>s= (a.take k).foldl (fun s x=>ym s x b) (-1)) (by omega) rfl (fun k s hk e=>?_)) (fun s e=>?_)
 ·have hx:a[k]? =some a[k]:=aJ hk
  refine Ok.ix hx (Ok.bind (Ok.iY (fun j t=>t=ym s a[k] (b.take j)) (by omega) rfl (fun j t hj et=>?_)) (fun t et=>Ok.ret ?_))
  ·have hy:b[j]? =some b[j]:=aJ hj
   refine Ok.ix hy (Ok.eq (FW (ha _ (cI hk)) (hb _ (cI hj))) ?_)
   have e2:ym s a[k] (b.take (j+1))=if t<0\/vB a[k] b[j]<t then vB a[k] b[j] else t:=by
    unfold ym at et ⊢
    rw [fw hj,List.foldl_append,<-et];rfl
   rw [e2]
   by_cases hc:t<0\/vB a[k] b[j]<t
   ·rw [aD hc,show (decide (t<0)||decide (vB a[k] b[j]<t))=true by rw [dQ,bK,bK];exact hc]
    exact Ok.ret rfl
   ·rw [aC hc,show (decide (t<0)||decide (vB a[k] b[j]<t))=false by rw [Bool.or_eq_false_iff,decide_eq_false_iff_not,decide_eq_false_iff_not];omega]
    exact Ok.ret rfl
  ·rw [et,eW,fw hk,List.foldl_append,<-e];rfl
 rw [eW] at e
 have e:s=tu a b:=e
 subst e
 rw [mG (by omega)]
 refine Ok.bind (Ok.iY (fun k (st:pG×Bool)=>st.1.ij=tu a b - 1) (by omega) rfl (fun k st hk I=>?_)) (fun st I=>?_)
 ·have hx:a[k]? =some a[k]:=aJ hk
  refine Ok.ix hx (Ok.bind (Ok.iY (fun j (st:pG×Bool)=>st.1.ij=tu a b - 1) (by omega) I (fun j st hj I=>?_)) (fun st I=>Ok.ret I))
  have hy:b[j]? =some b[j]:=aJ hj
  obtain⟨p,hp⟩:=yZ (N:=N) a[k] b[j] (tu a b)
  refine Ok.ix hy (Ok.eq hp ?_)
  refine Ok.bind (P:=fun _=>True) ?_ (fun c _=>?_)
  ·refine Ok.eq (FW (ha _ (cI hk)) (hb _ (cI hj))) ?_
   cases (vB a[k] b[j]==tu a b) with
   | false=>exact Ok.ret trivial
   | true=>
    rw [aR]
    cases st.2 with
    | false=>exact Ok.ret trivial
    | true=>
     obtain⟨c,hc⟩:=y4 (N:=N) p st.1.bR
     exact Ok.eq hc (Ok.ret trivial)
  ·refine Ok.bind (P:=fun(st:pG×Bool)=>st.1.ij=tu a b - 1) ?_ (fun st I=>Ok.ret I)
   cases c with
   | true=>exact Ok.ret I
   | false=>exact Ok.ret I
 refine Ok.bind (Ok.iY (fun k (st:pG×Bool)=>st.1.ij=tu a b - 1) (by omega) I (fun k st' hk I=>?_)) (fun st I=>Ok.ret I)
 have hx:b[k]? =some b[k]:=aJ hk
 obtain⟨p,hp⟩:=yZ (N:=N) b[k] (⟨st.1.bR.X,st.1.bR.Y,(IntKind.wrap .i64 (st.1.bR.X+1)),(IntKind.wrap .i64 (st.1.bR.Y+1))⟩:aI) (tu a b)
 obtain⟨f,hf⟩:=FX (N:=N) b[k] (⟨st.1.bR.X,st.1.bR.Y,(IntKind.wrap .i64 (st.1.bR.X+1)),(IntKind.wrap .i64 (st.1.bR.Y+1))⟩:aI)
 refine Ok.ix hx (Ok.eq hp ?_)
 refine Ok.bind (P:=fun _=>True) ?_ (fun c _=>?_)
 ·refine Ok.eq hf ?_
  cases (f==tu a b) with
  | false=>exact Ok.ret trivial
  | true=>
   rw [aR]
   cases st'.2 with
   | false=>exact Ok.ret trivial
   | true=>
    obtain⟨c,hc⟩:=y4 (N:=N) p st'.1.To
    exact Ok.eq hc (Ok.ret trivial)
 ·refine Ok.bind (P:=fun(st:pG×Bool)=>st.1.ij=tu a b - 1) ?_ (fun st I=>Ok.ret I)
  cases c with
  | true=>exact Ok.ret I
  | false=>exact Ok.ret I
end
def Ga (gs:List cE) (g:Int):Bool:=decide (g>=0)&&(gs[g.toNat]?).elim false fun G=>decide (((G.gM.length:Nat):Int)>1)
def qB (gs:List cE) (B:Bool) (of:List Int) (n:Nat):List bS:=((List.range n).filter (fun k=>(of[k]?).elim false (Ga gs))).map (fun k=>⟨true,⟨B,((k:Nat):Int)⟩,0,0⟩)
def nZ (pcs:List aH) (ofP:List Int) (near:Int) (i k:Nat):Bool:=(pcs[i]?).elim false fun p=>(pcs[k]?).elim false fun q=>decide (i<k)&&(q.cU==p.cU&&(decide (ofP[i]? ≠ofP[k]?)&&decide (tu p.iO q.iO - 1<near)))
def n0 (pcs:List aH) (ofP:List Int) (near:Int) (i m:Nat):List bS:=((List.range m).filter (nZ pcs ofP near i)).map (fun k=>⟨false,⟨false,0⟩,((i:Nat):Int),((k:Nat):Int)⟩)
def sA (pcs:List aH) (ofP:List Int) (near:Int) (m:Nat):List bS:=(List.range m).flatMap (fun i=>n0 pcs ofP near i pcs.length)
def y5 (pcs:List aH) (gs:List cE) (ofP ofB:List Int) (near:Int):List bS:=qB gs false ofP ofP.length++qB gs true ofB ofB.length++sA pcs ofP near pcs.length
theorem y6 (gs:List cE) (B:Bool) (of:List Int) (k:Nat):qB gs B of (k+1)=if (of[k]?).elim false (Ga gs)=true then qB gs B of k++[⟨true,⟨B,((k:Nat):Int)⟩,0,0⟩] else qB gs B of k:=by
 unfold qB
 rw [List.range_succ,iq,eV]
 by_cases h: (of[k]?).elim false (Ga gs)=true
 ·rw [aD h,List.filter_cons_of_pos (p:=fun k=>(of[k]?).elim false (Ga gs)) h];rfl
 ·rw [aC h,List.filter_cons_of_neg (p:=fun k=>(of[k]?).elim false (Ga gs)) h];simp
theorem rE (gs:List cE) (B:Bool) (of:List Int) (k:Nat): (qB gs B of k).length<=k:=by
 unfold qB
 rw [gw]
 have:=ka (fun k=>(of[k]?).elim false (Ga gs)) (List.range k)
 rw [List.length_range] at this;exact this
theorem tv (pcs:List aH) (ofP:List Int) (near:Int) (i m:Nat):n0 pcs ofP near i (m+1)=if nZ pcs ofP near i m=true then n0 pcs ofP near i m++[⟨false,⟨false,0⟩,((i:Nat):Int),((m:Nat):Int)⟩] else n0 pcs ofP near i m:=by
 unfold n0
 rw [List.range_succ,iq,eV]
 by_cases h:nZ pcs ofP near i m=true
 ·rw [aD h,List.filter_cons_of_pos h];rfl
 ·rw [aC h,List.filter_cons_of_neg h];simp
theorem y7 (pcs:List aH) (ofP:List Int) (near:Int) (i m:Nat): (n0 pcs ofP near i m).length<=m:=by
 unfold n0
 rw [gw]
 have:=ka (nZ pcs ofP near i) (List.range m)
 rw [List.length_range] at this;exact this
theorem tw {pcs:List aH} {ofP:List Int} {near:Int} {i m:Nat}: ∀{d:Nat},(∀k,m<=k->k<m+d->nZ pcs ofP near i k=false)->n0 pcs ofP near i (m+d)=n0 pcs ofP near i m
 | 0,_=>rfl
 | d+1,h=>by
  rw [show m+ (d+1)=m+d+1 by omega,tv,h (m+d) (by omega) (by omega),aC iX]
  exact tw (fun k h1 h2=>h k h1 (by omega))
theorem vC (pcs:List aH) (ofP:List Int) (near:Int) (m:Nat):sA pcs ofP near (m+1)=sA pcs ofP near m++n0 pcs ofP near m pcs.length:=by
 unfold sA
 rw [List.range_succ,List.flatMap_append];simp
theorem BJ (pcs:List aH) (ofP:List Int) (near:Int): ∀(m:Nat),(sA pcs ofP near m).length<=m*pcs.length
 | 0=>by simp [sA]
 | m+1=>by
  rw [vC,dS,Nat.add_mul,Nat.one_mul]
  have:=BJ pcs ofP near m
  have:=y7 pcs ofP near m pcs.length
  omega
theorem FZ: ∀(cV:List (List (List aA))) (k:Nat),(bH k cV).Pairwise (fun p q=>p.cU<=q.cU)/\∀p∈bH k cV,((k:Nat):Int)<=p.cU
 | [],k=>⟨kH,fun p h=>by cases h⟩
 | ps::r,k=>by
  obtain⟨h1,h2⟩:=FZ r (k+1)
  unfold bH
  refine⟨List.pairwise_append.2 ⟨?_,h1,fun p hp q hq=>?_⟩,fun p hp=>?_⟩
  ·rw [List.pairwise_map]
   exact List.Pairwise.imp (fun _=>Int.le_refl _) (List.pairwise_of_forall (R:=fun _ _=>True) (fun _ _=>trivial))
  ·obtain⟨p',_,rfl⟩:=cP.1 hp
   have:=h2 q hq
   show ((k:Nat):Int)<=q.cU;omega
  ·rcases cR.1 hp with hp | hp
   ·obtain⟨p',_,rfl⟩:=cP.1 hp;exact Int.le_refl _
   ·have:=h2 p hp;omega
section
variable {N:Nat} {a:iu} {jm:List (List aA)} {cV:List (List (List aA))} {r:Nat->Nat} {gs:List cE} {ofP ofB hZ:List Int} {gS:List dF}
theorem uT {h:dF} {g:Int} {s:List bS} (hg:0<=g->g.toNat<gs.length) (hs:s.length<=100000000):gl N h g s gs=some (if Ga gs g=true then s++[⟨true,h,0,0⟩] else s):=by
 unfold gl Ga
 by_cases h0:0<=g
 ·have hlt:=hg h0
  have hx:gs[g.toNat]? =some gs[g.toNat]:=aJ hlt
  have hi:=dE hx
  rw [Int.toNat_of_nonneg h0] at hi
  rw [cB (show g>=0 from h0),aR,hi,aB,aB,hx,Option.elim_some,Bool.true_and]
  cases decide (((gs[g.toNat].gM.length:Nat):Int)>1) with
  | true=>rw [aR,gQ (by simp;omega)];rfl
  | false=>rfl
 ·rw [bE (show ¬g>=0 from h0),aQ,aB,aQ,Bool.false_and,aC iX];rfl
theorem Cx (b:iR a jm cV r gs ofP ofB hZ gS) {k:Nat} (hk:k<ofP.length): ∃g:Nat,ofP[k]? =some ((g:Nat):Int)/\g<gs.length:=by
 have hl:=b.Ai.of.lp
 obtain⟨g,h1,h2,_⟩:=Kd b.Ai (k:=k) (by omega)
 exact⟨g,h1,h2⟩
theorem F0 (b:iR a jm cV r gs ofP ofB hZ gS) {j:Nat} (hj:j<ofB.length): (tr a.aT j=true/\∃g:Nat,ofB[j]? =some ((g:Nat):Int)/\g<gs.length)\/(tr a.aT j=false/\ofB[j]? =some (-1)):=by
 have hl:=b.Ai.of.lb
 have hm:r ((bH 0 cV).length+j)∈bT ((bH 0 cV).length+a.aT.length) r:=gY.2 ⟨by have:=b.Ai.conn.le ((bH 0 cV).length+j) (by omega);omega,b.Ai.conn.rr _ (by omega)⟩
 have:=b.Ai.of.bo j (by omega) hm
 cases hp:tr a.aT j with
 | true=>
  rw [hp,aD rfl] at this
  exact .inl ⟨rfl,_,this,by rw [(FQ b.Ai).1];exact(Bv hm (FL hp (by omega))).1⟩
 | false=>
  rw [hp,aC iX] at this
  exact .inr ⟨rfl,this⟩
theorem y8 (b:iR a jm cV r gs ofP ofB hZ gS) {near:Int} {q1:List (List aI)} {q2:List aI} {q3:List bQ} {q4:List cQ} {q5:List (List aA)} {q6:List (List Int)} {q7:List Int} {q8:List dF} (hN:4398046511104<=N):
  kQ N q1 q2 q3 q4 q5 (bH 0 cV) q6 gs ofP ofB q7 q8 near=some (if near<0\/100000<near then ([],1) else if 20000< (y5 (bH 0 cV) gs ofP ofB near).length then ([],2) else (y5 (bH 0 cV) gs ofP ofB near,0)):=by
 have hf:=b.zY.2
 have hbl:=b.BA.gb.len
 have hlp:=b.Ai.of.lp
 have hlb:=b.Ai.of.lb
 have hup:=(FZ cV 0).1
 generalize hpcs:bH 0 cV=pcs at *
 unfold kQ
 have w:jL N near 0 100000=some (decide (near>=0)&&decide (near<=100000)):=rfl
 rw [w,aB]
 by_cases hn:near<0\/100000<near
 ·rw [aD hn,show (decide (near>=0)&&decide (near<=100000))=false by rw [Bool.and_eq_false_iff,decide_eq_false_iff_not,decide_eq_false_iff_not];omega];rfl
 rw [aC hn,show (decide (near>=0)&&decide (near<=100000))=true by rw [bP,bK,bK];omega,lv,aQ]
 have s1:iY ofP.length (fun(k34:Nat) (s35: (List bS))=>((idx ofP (k34:Int)).bind fun x51=>(gl N (⟨false,(k34:Int)⟩:dF) x51 s35 gs).bind fun x54=>some x54:Option ((List bS)))) ([]: (List bS))=some (qB gs false ofP ofP.length):=
  wx (fun k=>qB gs false ofP k) (by omega) rfl (fun k hk=>by
   obtain⟨g,h1,h2⟩:=Cx b hk
   have:=rE gs false ofP k
   rw [dE h1,aB,uT (fun _=>by rw [bX];exact h2) (by omega),aB,y6,h1];rfl)
 have s2:iY ofB.length (fun(k57:Nat) (s58: (List bS))=>((idx ofB (k57:Int)).bind fun x74=>(gl N (⟨true,(k57:Int)⟩:dF) x74 s58 gs).bind fun x77=>some x77:Option ((List bS)))) (qB gs false ofP ofP.length)=some (qB gs false ofP ofP.length++qB gs true ofB ofB.length):=
  wx (fun k=>qB gs false ofP ofP.length++qB gs true ofB k) (by omega) (by simp [qB]) (fun k hk=>by
   have:=rE gs false ofP ofP.length
   have:=rE gs true ofB k
   have e: ∃g,ofB[k]? =some g/\(0<=g->g.toNat<gs.length):=by
    rcases F0 b hk with ⟨_,g,h1,h2⟩ | ⟨_,h1⟩
    ·exact⟨_,h1,fun _=>by rw [bX];exact h2⟩
    ·exact⟨_,h1,fun h=>by omega⟩
   obtain⟨g,h1,h2⟩:=e
   rw [dE h1,aB,uT h2 (by rw [dS];omega),aB,y6,h1,Option.elim_some]
   cases Ga gs g with
   | true=>rw [aD rfl,aD rfl,iW]
   | false=>rw [aC iX,aC iX])
 rw [s1,aB,s2,aB]
 have hb1:=rE gs false ofP ofP.length
 have hb2:=rE gs true ofB ofB.length
 generalize hB:qB gs false ofP ofP.length++qB gs true ofB ofB.length=base
 have hbase:base.length<=2500:=by rw [<-hB,dS];omega
 have hs:y5 pcs gs ofP ofB near=base++sA pcs ofP near pcs.length:=by unfold y5;rw [hB]
 refine Ok.get ?_
 refine Ok.bind (Ok.iY (fun i s=>s=base++sA pcs ofP near i) (by omega) (by simp [sA]) (fun i s hi e=>?_)) (fun s e=>?_)
 ·subst e
  have hx:pcs[i]? =some pcs[i]:=aJ hi
  have hpl:=BJ pcs ofP near i
  have hpl: (sA pcs ofP near i).length<=2000*2000:=Nat.le_trans hpl (Nat.mul_le_mul (by omega) hf)
  have hri:pcs[i].iO.length<=2000/\∀q∈pcs[i].iO,cW q=true:=by
   obtain⟨p1,p2,_⟩:=BE b (p:=pcs[i]) (by rw [hpcs];exact cI hi)
   exact⟨p1,fun q hq=>(p2 q hq).1⟩
  obtain⟨gi_,hgi,_⟩:=Cx b (k:=i) (by omega)
  refine Ok.ix hx ?_
  rw [fU (by omega)]
  have hskip:n0 pcs ofP near i (i+1)= []:=by
   have e0:n0 pcs ofP near i 0= []:=by simp [n0]
   have:=tw (pcs:=pcs) (ofP:=ofP) (near:=near) (i:=i) (m:=0) (d:=i+1) (fun k _ hk=>by
    unfold nZ
    rw [hx,Option.elim_some]
    cases pcs[k]? with
    | none=>rfl
    | some q=>rw [Option.elim_some,bE (show ¬i<k by omega),Bool.false_and])
   rw [fV] at this
   rw [this,e0]
  refine Ok.bind (Ok.Bg (n:=pcs.length) (fun st=>st.2) (fun k st=>i+1<=k/\st.1=base++sA pcs ofP near i++n0 pcs ofP near i k) (Go:=fun st=>st.1=base++sA pcs ofP near (i+1)) (Rt:=fun _=>False) ?_ ?_ (k0:=i+1) (by omega) rfl ⟨bN _,by dsimp only;rw [hskip,lu]⟩ (by omega)) ?_
  ·rintro k ⟨s,j⟩ hk e ⟨hik,hI⟩
   dsimp only at e hI ⊢
   subst e;subst hI
   have hy:pcs[k]? =some pcs[k]:=aJ hk
   have h1l:=y7 pcs ofP near i k
   have hrk:pcs[k].iO.length<=2000/\∀q∈pcs[k].iO,cW q=true:=by
    obtain⟨p1,p2,_⟩:=BE b (p:=pcs[k]) (by rw [hpcs];exact cI hk)
    exact⟨p1,fun q hq=>(p2 q hq).1⟩
   obtain⟨gk_,hgk,_⟩:=Cx b (k:=k) (by omega)
   have hmono: ∀u v:Nat,(hv:v<pcs.length)->(huv:u<v)->pcs[u].cU<=pcs[v].cU:=fun u v hv huv=>mC.1 hup u v (by omega) hv huv
   rw [Ka hk,aR]
   refine Ok.eq (x:=pcs[k].cU==pcs[i].cU) (by rw [dE hy,aB]) ?_
   cases hL: (pcs[k].cU==pcs[i].cU) with
   | false=>
    rw [aQ]
    refine Ok.br ?_
    dsimp only
    have hne:pcs[k].cU≠pcs[i].cU:=fun e=>by rw [e,BEq.rfl] at hL;cases hL
    have h1:=hmono i k hk (by omega)
    have hsk:=tw (pcs:=pcs) (ofP:=ofP) (near:=near) (i:=i) (m:=k) (d:=pcs.length - k) (fun j h2 h3=>by
     have hj:j<pcs.length:=by omega
     have h4:pcs[k].cU<=pcs[j].cU:=by
      by_cases e:k=j
      ·subst e;exact Int.le_refl _
      ·exact hmono k j hj (by omega)
     unfold nZ
     rw [hx,aJ hj,Option.elim_some,Option.elim_some,show (pcs[j].cU==pcs[i].cU)=false by rw [beq_eq_false_iff_ne];omega,Bool.false_and,Bool.and_false])
    rw [show k+ (pcs.length - k)=pcs.length by omega] at hsk
    rw [vC,hsk,iW]
   | true=>
    rw [aR]
    refine Ok.eq (x:=nZ pcs ofP near i k) ?_ ?_
    ·rw [dE hgi,aB,dE hgk,aB]
     unfold nZ
     rw [hx,hy,Option.elim_some,Option.elim_some,hL,cB (show i<k by omega),Bool.true_and,Bool.true_and,hgi,hgk]
     by_cases e:gi_=gk_
     ·subst e
      rw [bne_self_eq_false,aQ,show decide (some ((gi_:Nat):Int)≠some ((gi_:Nat):Int))=false by simp,Bool.false_and]
     ·obtain⟨g,g1,g2⟩:=FY (N:=N) (a:=pcs[i].iO) (b:=pcs[k].iO) (by omega) (by omega) hri.2 hrk.2
      rw [show (((gi_:Nat):Int) != ((gk_:Nat):Int))=true by rw [bne_iff_ne];omega,aR,dE hy,aB,g1,aB,g2,show decide (some ((gi_:Nat):Int)≠some ((gk_:Nat):Int))=true by rw [bK];intro h;injection h with h;omega,Bool.true_and]
    ·cases hsP:nZ pcs ofP near i k with
     | true=>
      rw [aR]
      refine Ok.bind (P:=fun s=>s=base++sA pcs ofP near i++n0 pcs ofP near i (k+1)) (Ok.app (by simp only [dS,j9,List.length_nil];omega) (Ok.ret ?_)) (fun s hs=>Ok.nx ⟨fU (by omega),by omega,hs⟩)
      rw [tv,hsP,aD rfl,iW]
     | false=>
      rw [aQ,aB]
      refine Ok.nx ⟨fU (by omega),by omega,?_⟩
      dsimp only
      rw [tv,hsP,aC iX]
  ·rintro⟨s,j⟩ e ⟨_,hI⟩
   dsimp only at e hI ⊢
   subst e;subst hI
   rw [Kb,aQ]
   refine Ok.eq (x:=false) rfl ?_
   rw [aQ]
   exact Ok.br (by dsimp only;rw [vC,iW])
  ·intro o ho
   refine Ok.cs ho (fun st hst=>Ok.ret hst) (fun r hr=>hr.elim)
 ·subst e
  rw [hs]
  by_cases hl:20000< (base++sA pcs ofP near pcs.length).length
  ·rw [aD hl,cB (show (((base++sA pcs ofP near pcs.length).length:Nat):Int)>20000 by omega)]
   exact Ok.ret rfl
  ·rw [aC hl,bE (show ¬(((base++sA pcs ofP near pcs.length).length:Nat):Int)>20000 by omega)]
   exact Ok.ret rfl
end
end Go.Gk
namespace Go.Gk
open Go Classical
theorem tx {bs:List bQ} {n:Nat} {x:bS} (h1:BG x=false) (h2:o0 bs n x=true) (h3:x.Open=false->x.A<x.B):mB bs n [x]=0:=by
 unfold mB
 have e:sK bs n [x] 0=none:=by
  unfold sK
  rw [show ([x]:List bS)[0]? =some x from rfl,Option.bind_some,h1,aC iX,h2,aC (by decide)]
  cases ho:x.Open with
  | true=>rfl
  | false=>
   have:=h3 ho
   rw [mD,Bool.true_and,bE (by omega),aC iX,aC (by simp)]
 rw [aC (by simp),gX.2 (fun k hk=>by
  have:k=0:=by simp at hk;omega
  subst this;exact e)];rfl
noncomputable def Ee (N:Nat) (a:iu) (cV:List (List (List aA))) (hZ:List Int) (gS:List dF) (fl:List bS):List Int:=(dH N a.aT a.bD (bH 0 cV) (dW a.aT (bH 0 cV)) hZ gS fl).getD []
section
variable {N:Nat} {a:iu} {jm:List (List aA)} {cV:List (List (List aA))} {r:Nat->Nat} {gs:List cE} {ofP ofB hZ:List Int} {gS:List dF}
theorem F1 (b:iR a jm cV r gs ofP ofB hZ gS) {fl:List bS} (h0:mB a.aT (bH 0 cV).length fl=0) (hN:4398046511104<=N):
  dH N a.aT a.bD (bH 0 cV) (dW a.aT (bH 0 cV)) hZ gS fl=some (Ee N a cV hZ gS fl)/\(Ee N a cV hZ gS fl).length=a.bD.length/\FT (Ee N a cV hZ gS fl):=by
 obtain⟨r2,c,up,fm,c1,c2,c3⟩:=FU b h0 hN
 have e:Ee N a cV hZ gS fl=c:=by unfold Ee;rw [c1];rfl
 rw [e]
 exact⟨c1,c3.len,c3.first⟩
theorem vD (b:iR a jm cV r gs ofP ofB hZ gS) {near:Int} {x:bS} (hx:x∈y5 (bH 0 cV) gs ofP ofB near):mB a.aT (bH 0 cV).length [x]=0:=by
 have hlp:=b.Ai.of.lp
 have hlb:=b.Ai.of.lb
 have inp: ∀{n k:Nat},k<n->Aj n ((k:Nat):Int)=true:=fun{n k} h=>by
  unfold Aj
  rw [bP,bK,bK];omega
 unfold y5 at hx
 rcases cR.1 hx with hx | hx
 ·rcases cR.1 hx with hx | hx
  ·obtain⟨k,hk,rfl⟩:=cP.1 hx
   have hk:=kG.1 (gE.1 hk).1
   exact tx rfl (inp (by omega)) (fun h=>by cases h)
  ·obtain⟨k,hk,rfl⟩:=cP.1 hx
   obtain⟨h1,h2⟩:=gE.1 hk
   have h1:=kG.1 h1
   refine tx rfl ?_ (fun h=>by cases h)
   rcases F0 b h1 with ⟨hp,_⟩ | ⟨_,e⟩
   ·unfold o0
    simp only [aR]
    rw [inp (by omega),bX,hp];rfl
   ·rw [e,Option.elim_some] at h2
    unfold Ga at h2
    simp at h2
 ·obtain⟨i,hi,hx⟩:=List.mem_flatMap.1 hx
  obtain⟨k,hk,rfl⟩:=cP.1 hx
  obtain⟨h1,h2⟩:=gE.1 hk
  have h1:=kG.1 h1
  have hi:=kG.1 hi
  unfold nZ at h2
  rw [aJ hi,aJ h1,Option.elim_some,Option.elim_some,bP,bK] at h2
  refine tx rfl ?_ (fun _=>?_)
  ·unfold o0
   simp only [aQ]
   rw [inp hi,inp h1];rfl
  ·show ((i:Nat):Int)< ((k:Nat):Int);omega
end
section
variable {N:Nat}
end
end Go.Gk
namespace Go.Gk
open Go Classical
def pE (t u:Test):Int:=if gq t.A u.A≠0 then gq t.A u.A else gq t.B u.B
def n7 (a:iu) (l:List Test) (k:Nat):Option Int:=(l[k]?).bind fun t=>
 if kg a t.A<0\/kg a t.B<0 then some 9 else if gq t.B t.A<=0 then some 8 else if 0<k/\((l[k - 1]?).elim false fun u=>decide (pE t u<=0))=true then some 8 else none
def lC (a:iu) (l:List Test):Int:=if 2000<l.length then 2 else (mJ l.length (n7 a l)).getD 0
structure y9 (a:iu) (t:Test):Prop where
 la:0<=kg a t.A
 lb:0<=kg a t.B
 lt:vS t.A t.B
theorem BK {a:iu} {p:fN} (h:0<=kg a p): ∃(k:Nat) (x:cQ),kg a p= ((k:Nat):Int)/\a.bD[k]? =some x/\kE x=p/\k<a.bD.length:=by
 rcases vT a p with ⟨e,_⟩ | ⟨k,x,e,hx,hp⟩
 ·rw [e] at h;omega
 ·exact⟨k,x,e,hx,hp,(aZ.1 hx).1⟩
theorem Ac {a:iu} {l:List Test} (h:lC a l=0):l.length<=2000/\(∀t∈l,y9 a t)/\∀(k:Nat) t u,0<k->l[k]? =some t->l[k - 1]? =some u->0<pE t u:=by
 unfold lC at h
 split at h
 ·omega
 rename_i hl
 have hn: ∀k,k<l.length->n7 a l k=none:=by
  cases hf:mJ l.length (n7 a l) with
  | none=>exact gX.1 hf
  | some e=>
   rw [hf] at h
   obtain⟨k,hk,he,_⟩:=iU.1 hf
   have h:e=0:=h
   subst h
   unfold n7 at he
   rw [aJ hk,Option.bind_some] at he
   repeat' split at he
   all_goals (first | (injection he with he;omega) | cases he)
 refine⟨by omega,fun t ht=>?_,fun k t u hk ht hu=>?_⟩
 ·obtain⟨k,hk,rfl⟩:=List.mem_iff_getElem.1 ht
  have:=hn k hk
  unfold n7 at this
  rw [aJ hk,Option.bind_some] at this
  split at this
  ·cases this
  rename_i h1
  split at this
  ·cases this
  rename_i h2
  exact⟨by omega,by omega,qe.1 (by omega)⟩
 ·have hlt:=(aZ.1 ht).1
  have:=hn k hlt
  unfold n7 at this
  rw [ht,Option.bind_some] at this
  split at this
  ·cases this
  split at this
  ·cases this
  split at this
  ·cases this
  rename_i h3
  rw [hu] at h3
  simp only [Option.elim_some,bK] at h3
  omega
def oL (a:iu) (c:List Int) (l:List Test):List Bool:=l.map (fun t=>BH c (kg a t.A).toNat (kg a t.B).toNat)
section
variable {N:Nat}
theorem Ic (u v:Int):nI N [u,v]=some (if u≠0 then u else v):=by
 unfold nI
 rw [t8 (l:=[u,v]) (fun x=>if x≠0 then some x else none) (by simp) (fun k x hx=>by
  rw [dE hx,aB]
  by_cases h:x=0
  ·subst h;rfl
  ·rw [show (x != 0)=true by simpa using h,aR,aD h];rfl),aB]
 by_cases h:u=0
 ·subst h
  by_cases h':v=0
  ·subst h';rfl
  ·simp [h',zJ,Fo.cs]
 ·simp [h,zJ,Fo.cs]
theorem wh (t u:Test):fL N t u=some (pE t u):=by
 unfold fL pE
 rw [jX,aB,jX,aB,Ic,aB]
end
section
variable {N:Nat} {a:iu} {jm:List (List aA)} {cV:List (List (List aA))} {r:Nat->Nat} {gs:List cE} {ofP ofB hZ:List Int} {gS:List dF}
theorem GY (b:iR a jm cV r gs ofP ofB hZ gS) (h1:fB N a=some (some (a.aK,a.dA,a.aT,a.bD,jm,bH 0 cV,dW a.aT (bH 0 cV),gs,ofP,ofB,hZ,gS),0)) {l:List Test} (hl:l.length<=1048576) (hN:4398046511104<=N):
  (lC a l≠0/\hQ N a l=some (none,lC a l))\/(lC a l=0/\hQ N a l=some (some (a.aK,a.dA,a.aT,a.bD,jm,bH 0 cV,dW a.aT (bH 0 cV),gs,ofP,ofB,hZ,gS),0)):=by
 unfold hQ
 rw [h1,aB]
 simp only [AF,bne_self_eq_false,aQ]
 by_cases h2:2000<l.length
 ·have e:lC a l=2:=by unfold lC;rw [aD h2]
  rw [cB (show ((l.length:Nat):Int)>2000 by omega),aR,e]
  exact .inl ⟨by decide,rfl⟩
 rw [bE (show ¬((l.length:Nat):Int)>2000 by omega),aQ]
 rw [lY (fun k=>(n7 a l k).map (fun c=>(none,c))) (by omega) (fun k hk _=>by
  have hx:l[k]? =some l[k]:=aJ hk
  have e1: ((dP N a l[k].A).bind fun x149=>bif (decide (x149<0)) then (some true) else ((dP N a l[k].B).bind fun x153=>some (decide (x153<0))))=some (decide (kg a l[k].A<0)||decide (kg a l[k].B<0)):=by
   rw [pD b.uM _ hN,pD b.uM _ hN,aB,aB]
   cases decide (kg a l[k].A<0) <;> rfl
  have e2: (bif (decide ((k:Int)>0)) then ((idx l (IntKind.wrap .i64 ((k:Int) - 1))).bind fun x208=>(fL N l[k] x208).bind fun x211=>some (decide (x211<=0))) else (some false))=some (decide (0<k/\((l[k - 1]?).elim false fun u=>decide (pE l[k] u<=0))=true)):=by
   by_cases h0:0<k
   ·have hp:k - 1<l.length:=by omega
    have hy:l[k - 1]? =some l[k - 1]:=aJ hp
    rw [cB (show ((k:Nat):Int)>0 by omega),aR,lJ h0 (by omega),dE hy,aB,wh,aB,hy]
    simp only [Option.elim_some,h0,true_and,bK]
   ·rw [bE (show ¬((k:Nat):Int)>0 by omega),aQ,bE (fun h=>h0 h.1)]
  rw [dE hx,aB,e1,aB]
  unfold n7
  rw [hx,Option.bind_some]
  by_cases hA:kg a l[k].A<0\/kg a l[k].B<0
  ·rw [aD hA,show (decide (kg a l[k].A<0)||decide (kg a l[k].B<0))=true by rw [dQ,bK,bK];exact hA]
   rfl
  rw [aC hA,show (decide (kg a l[k].A<0)||decide (kg a l[k].B<0))=false by rw [Bool.or_eq_false_iff,decide_eq_false_iff_not,decide_eq_false_iff_not];omega,aQ,jX,aB]
  by_cases hB:gq l[k].B l[k].A<=0
  ·rw [aD hB,cB hB];rfl
  rw [aC hB,bE hB,aQ,e2,aB]
  by_cases hC:0<k/\((l[k - 1]?).elim false fun u=>decide (pE l[k] u<=0))=true
  ·rw [aD hC,cB hC];rfl
  ·rw [aC hC,bE hC];rfl),aB,<-E4]
 have hz:lC a l= (mJ l.length (n7 a l)).getD 0:=by unfold lC;rw [aC h2]
 cases hf:mJ l.length (n7 a l) with
 | none=>
  rw [hf] at hz
  exact .inr ⟨hz,rfl⟩
 | some e=>
  rw [hf] at hz
  have hz:lC a l=e:=hz
  refine .inl ⟨?_,by rw [hz];rfl⟩
  obtain⟨k,hk,he,_⟩:=iU.1 hf
  rw [hz]
  unfold n7 at he
  rw [aJ hk,Option.bind_some] at he
  repeat' split at he
  all_goals (first | (injection he with he;omega) | cases he)
theorem BL (b:iR a jm cV r gs ofP ofB hZ gS) {fl:List bS} {c:List Int} (hc:dH N a.aT a.bD (bH 0 cV) (dW a.aT (bH 0 cV)) hZ gS fl=some c) (hcl:c.length=a.bD.length) {l:List Test} (hl:l.length<=1048576) (ht: ∀t∈l,y9 a t) (hN:4398046511104<=N):
  kq N a.aK a.dA a.aT a.bD (bH 0 cV) (dW a.aT (bH 0 cV)) hZ gS l fl=some (oL a c l):=by
 have hA: ∀p,dP N (⟨a.aK,a.dA,a.aT,a.bD⟩:iu) p=some (kg a p):=fun p=>pD b.uM p hN
 unfold kq
 rw [hc,aB]
 rw [wx (s:=([]:List Bool)) (fun k=>oL a c (l.take k)) (by omega) rfl (fun k hk=>by
  have hx:l[k]? =some l[k]:=aJ hk
  obtain⟨t1,t2,_⟩:=ht _ (cI hk)
  obtain⟨i,_,e1,_,_,hi⟩:=BK t1
  obtain⟨j,_,e2,_,_,hj⟩:=BK t2
  have ei:c[i]? =some (c[i]'(by omega)):=aJ _
  have ej:c[j]? =some (c[j]'(by omega)):=aJ _
  have hlen: (oL a c (l.take k)).length=k:=by unfold oL;rw [gw,cZ];omega
  have hap: ∀x:Bool,app 1 (oL a c (l.take k)) [x]=some (oL a c (l.take k)++[x]):=fun x=>gQ (by rw [hlen];simp;omega)
  have hs:oL a c (l.take (k+1))=oL a c (l.take k)++[BH c i j]:=by
   unfold oL
   rw [fw hk,eV,eH,List.map_nil,e1,e2,bX,bX]
  rw [dE hx,aB,hA,aB,hA,aB,e1,e2,dE ei,dE ej,aB,hs]
  unfold BH
  rw [List.getD_eq_getElem?_getD,List.getD_eq_getElem?_getD,ei,ej,Option.getD_some,Option.getD_some]
  cases decide (c[i]'(by omega)>=0) with
  | true=>rw [aR,aB,aB,hap,aB,aB,Bool.true_and]
  | false=>rw [aQ,hap,aB,aB,Bool.false_and]),aB,eW]
theorem F2 (b:iR a jm cV r gs ofP ofB hZ gS) {l:List Test} (h1:hQ N a l=some (some (a.aK,a.dA,a.aT,a.bD,jm,bH 0 cV,dW a.aT (bH 0 cV),gs,ofP,ofB,hZ,gS),0)) {fl:List bS} (h0:mB a.aT (bH 0 cV).length fl=0)
  {c:List Int} (hc:dH N a.aT a.bD (bH 0 cV) (dW a.aT (bH 0 cV)) hZ gS fl=some c) (hcl:c.length=a.bD.length) (hl:l.length<=1048576) (ht: ∀t∈l,y9 a t) (hN:4398046511104<=N):
  ja N a l fl=some (oL a c l,0):=by
 have hf:=b.zY.2
 have hbl:=b.BA.gb.len
 obtain⟨h20,_⟩:=vU h0
 unfold ja
 rw [h1,aB]
 simp only [AF,bne_self_eq_false,aQ]
 rw [yl (by omega) (by omega) (by omega),h0,aB,bne_self_eq_false,aQ,BL b hc hcl hl ht hN,aB]
end
inductive Lp (N:Nat) (a:iu) (l:List Test) (fl:List bS):Prop
 | err (e:Int) (he:e≠0) (h:ja N a l fl=some ([],e))
 | ok {jm:List (List aA)} {cV:List (List (List aA))} {r:Nat->Nat} {gs:List cE} {ofP ofB hZ:List Int} {gS:List dF} (b:iR a jm cV r gs ofP ofB hZ gS)
  (h1:fB N a=some (some (a.aK,a.dA,a.aT,a.bD,jm,bH 0 cV,dW a.aT (bH 0 cV),gs,ofP,ofB,hZ,gS),0))
  (ht:lC a l=0) (hf:mB a.aT (bH 0 cV).length fl=0) {c:List Int} (hc:dH N a.aT a.bD (bH 0 cV) (dW a.aT (bH 0 cV)) hZ gS fl=some c) (hcl:c.length=a.bD.length) (h:ja N a l fl=some (oL a c l,0))
section
variable {N:Nat}
end
end Go.Gk
namespace Go.Gk
open Go Classical
section
variable {N:Nat}
theorem xR {l m:List Bool} (hl:l.length<=1000000000):gW N l m=some (decide (l=m)):=by
 unfold gW
 by_cases hn:l.length=m.length
 rotate_left
 ·rw [show (((l.length:Nat):Int) != ((m.length:Nat):Int))=true by rw [bne_iff_ne];omega,aR,bE (fun e=>hn (by rw [e]))]
 rw [show (((l.length:Nat):Int) != ((m.length:Nat):Int))=false by rw [hn,bne_self_eq_false],aQ]
 rw [lY (fun k=>if l[k]? =m[k]? then none else some false) (by omega) (fun k hk _=>by
  have h1:l[k]? =some l[k]:=aJ hk
  have h2:m[k]? =some (m[k]'(by omega)):=aJ _
  rw [dE h1,aB,dE h2,aB,h1,h2]
  by_cases h:l[k]=m[k]'(by omega)
  ·rw [aD (by rw [h]),h,bne_self_eq_false];rfl
  ·rw [aC (fun e=>h (by injection e)),show (l[k] != m[k]'(by omega))=true by rw [bne_iff_ne];exact h];rfl),aB]
 cases hf:mJ l.length (fun k=>if l[k]? =m[k]? then none else some false) with
 | none=>
  have e:l=m:=List.ext_getElem? fun k=>by
   by_cases hk:k<l.length
   ·have:=gX.1 hf k hk
    split at this
    ·assumption
    ·cases this
   ·rw [List.getElem?_eq_none (by omega),List.getElem?_eq_none (by omega)]
  rw [cB e];rfl
 | some e=>
  obtain⟨k,hk,he,_⟩:=iU.1 hf
  split at he
  ·cases he
  rename_i hne
  injection he with he
  subst he
  rw [bE (fun e=>hne (by rw [e]))];rfl
theorem Dg {α:Type} {l:List α} {n:Nat} {x:α} (h:l[n]? =some x) (hn:n<=1000000000):qC l ((n:Nat):Int) (IntKind.wrap .i64 (((n:Nat):Int)+1))=some [x]:=by
 have hlt:=(aZ.1 h).1
 rw [fU (by omega)]
 unfold qC
 rw [aD ⟨by omega,by omega,by omega⟩]
 have e: (((n+1:Nat):Int) - ((n:Nat):Int)).toNat=1:=by omega
 rw [e,bX,pH hlt]
 have:=aJ hlt
 rw [h] at this;injection this with this
 rw [<-this];simp
theorem xS {l:List bS} {x:bS} (hl:l.length<=1000000000):dV N l x=some (decide (x∈l)):=by
 have e:dV N l x=rP l x:=rfl
 rw [e,t9 (by omega)]
end
noncomputable def n8 (N:Nat) (a:iu) (cV:List (List (List aA))) (hZ:List Int) (gS:List dF) (l:List Test) (fl:List bS):List Bool:=oL a (Ee N a cV hZ gS fl) l
theorem Ef (a:iu) (c:List Int) (l:List Test): (oL a c l).length=l.length:=by unfold oL;rw [gw]
theorem vE {N:Nat} {a:iu} {cV:List (List (List aA))} {hZ:List Int} {gS:List dF} {l:List Test} {fl:List bS}: (n8 N a cV hZ gS l fl).length=l.length:=Ef _ _ _
section
variable {N:Nat} {a:iu} {jm:List (List aA)} {cV:List (List (List aA))} {r:Nat->Nat} {gs:List cE} {ofP ofB hZ:List Int} {gS:List dF}
theorem Eg (b:iR a jm cV r gs ofP ofB hZ gS) (h1:fB N a=some (some (a.aK,a.dA,a.aT,a.bD,jm,bH 0 cV,dW a.aT (bH 0 cV),gs,ofP,ofB,hZ,gS),0)) (near:Int) (hN:4398046511104<=N):
  i9 N a near=some (if near<0\/100000<near then ([],1) else if 20000< (y5 (bH 0 cV) gs ofP ofB near).length then ([],2) else (y5 (bH 0 cV) gs ofP ofB near,0)):=by
 unfold i9
 rw [h1,aB]
 simp only [AF,bne_self_eq_false,aQ]
 rw [y8 b hN,aB]
theorem Cy {e:Int} (he:e≠0) (h:fB N a=some (none,e)) (near:Int):i9 N a near=some ([],e):=by
 unfold i9
 rw [h,aB]
 simp only [AF,show (e != 0)=true by simpa using he,aR]
theorem sL {l:List Test} {o:Option ((List (List aI))×(List aI)×(List bQ)×(List cQ)×(List (List aA))×(List aH)×(List (List Int))×(List cE)×(List Int)×(List Int)×(List Int)×(List dF))} {e:Int} (h:hQ N a l=some (o,e)):jz N a l=some e:=by
 unfold jz
 rw [h,aB]
 cases o <;> rfl
theorem Eh (b:iR a jm cV r gs ofP ofB hZ gS) {fl:List bS} (h0:mB a.aT (bH 0 cV).length fl=0) {l:List Test} (hl:l.length<=1048576) (ht: ∀t∈l,y9 a t) (hN:4398046511104<=N):
  kq N a.aK a.dA a.aT a.bD (bH 0 cV) (dW a.aT (bH 0 cV)) hZ gS l fl=some (n8 N a cV hZ gS l fl):=by
 obtain⟨c1,c2,_⟩:=F1 b h0 hN
 exact BL b c1 c2 hl ht hN
theorem za (b:iR a jm cV r gs ofP ofB hZ gS) {l:List Test} (h1:hQ N a l=some (some (a.aK,a.dA,a.aT,a.bD,jm,bH 0 cV,dW a.aT (bH 0 cV),gs,ofP,ofB,hZ,gS),0)) {fl:List bS} (h0:mB a.aT (bH 0 cV).length fl=0)
  (hl:l.length<=1048576) (ht: ∀t∈l,y9 a t) (hN:4398046511104<=N):ja N a l fl=some (n8 N a cV hZ gS l fl,0):=by
 obtain⟨c1,c2,_⟩:=F1 b h0 hN
 exact F2 b h1 h0 c1 c2 hl ht hN
theorem Ie (b:iR a jm cV r gs ofP ofB hZ gS) {l:List Test} (h1:hQ N a l=some (some (a.aK,a.dA,a.aT,a.bD,jm,bH 0 cV,dW a.aT (bH 0 cV),gs,ofP,ofB,hZ,gS),0)) (hl:l.length<=1048576) (ht: ∀t∈l,y9 a t) (shown:List Bool) (near:Int) (hN:4398046511104<=N):
  o5 N a l shown near=some (if near<0\/100000<near then ([],1) else if 20000< (y5 (bH 0 cV) gs ofP ofB near).length then ([],2) else if shown.length≠l.length then ([],3) else ((y5 (bH 0 cV) gs ofP ofB near).filter (fun x=>decide (n8 N a cV hZ gS l [x]=shown)),0)):=by
 unfold o5
 rw [h1,aB]
 simp only [AF,bne_self_eq_false,aQ]
 rw [y8 b hN,aB]
 by_cases hn:near<0\/100000<near
 ·rw [aD hn,aD hn];rfl
 rw [aC hn,aC hn]
 by_cases hs:20000< (y5 (bH 0 cV) gs ofP ofB near).length
 ·rw [aD hs,aD hs];rfl
 rw [aC hs,aC hs]
 simp only [bne_self_eq_false,aQ]
 by_cases hq:shown.length≠l.length
 ·rw [aD hq,show (((shown.length:Nat):Int) != ((l.length:Nat):Int))=true by rw [bne_iff_ne];omega];rfl
 have hq':shown.length=l.length:=by simpa using hq
 rw [aC hq,show (((shown.length:Nat):Int) != ((l.length:Nat):Int))=false by rw [hq',bne_self_eq_false],aQ]
 generalize hS:y5 (bH 0 cV) gs ofP ofB near=S at *
 rw [wx (s:=([]:List bS)) (fun k=>(S.take k).filter (fun x=>decide (n8 N a cV hZ gS l [x]=shown))) (by omega) rfl (fun k hk=>by
  have hx:S[k]? =some S[k]:=aJ hk
  have hr:=vD b (near:=near) (x:=S[k]) (by rw [hS];exact cI hk)
  have hlen: ((S.take k).filter (fun x=>decide (n8 N a cV hZ gS l [x]=shown))).length<=k:=Nat.le_trans (ka _ _) (List.length_take_le _ _)
  rw [dE hx,aB,Eh b hr hl ht hN,aB,xR (by rw [vE];omega),aB,fw hk,iq]
  by_cases hh:n8 N a cV hZ gS l [S[k]]=shown
  ·rw [cB hh,aR,gQ (by simp only [j9,List.length_nil];omega),aB,aB,List.filter_cons_of_pos (by rw [bK];exact hh),List.filter_nil]
  ·rw [bE hh,aQ,aB,List.filter_cons_of_neg (by rw [bK];exact hh),List.filter_nil,lu]),aB,eW]
end
section
variable {N:Nat}
theorem vF {a:iu} {l:List Test} {near n:Int} (ha:bk a<=1048576) (hl:bk l<=1048576) (_hn:bk near<=1048576) (_hm:bk n<=1048576) (hN:4398046511104<=N):dL N a l near n=some true:=by
 have hs:=Bx ha
 have hll:l.length<=1048576:=by have:=s8 l;omega
 have aw:=GW hN
 have bad: ∀{e:Int},e≠0->i9 N a near=some ([],e)->dL N a l near n=some true:=fun{e} he h=>by
  unfold dL
  rw [h,aB,aw]
  simp only [show (e != 0)=true by simpa using he,show (e==0)=false by simpa using he,Bool.true_or,aR,aQ,aB]
  rfl
 rcases opened (N:=N) hs hN with ⟨e,he,h⟩ | ⟨b,h⟩
 ·exact bad he (Cy he h near)
 rename_i jm cV r gs ofP ofB hZ gS
 have hH:=Eg b h near hN
 by_cases hn:near<0\/100000<near
 ·rw [aD hn] at hH;exact bad (by decide) hH
 rw [aC hn] at hH
 by_cases hsl:20000< (y5 (bH 0 cV) gs ofP ofB near).length
 ·rw [aD hsl] at hH;exact bad (by decide) hH
 rw [aC hsl] at hH
 unfold dL
 rw [hH,aB,aw]
 simp only [bne_self_eq_false,Bool.false_or,BEq.rfl,aR,aB]
 by_cases h0:n<0
 ·rw [cB h0];rfl
 rw [bE h0,aQ]
 by_cases h1:n>=(((y5 (bH 0 cV) gs ofP ofB near).length:Nat):Int)
 ·rw [cB h1];rfl
 rw [bE h1,aQ]
 rcases GY b h hll hN with ⟨e1,e2⟩ | ⟨e1,e2⟩
 ·rw [sL e2,aB,show (lC a l != 0)=true by simpa using e1];rfl
 obtain⟨_,t2,_⟩:=Ac e1
 rw [sL e2,aB,bne_self_eq_false,aB,aQ]
 obtain⟨m,rfl⟩: ∃m:Nat,n= ((m:Nat):Int):=⟨n.toNat,by omega⟩
 have hm:m< (y5 (bH 0 cV) gs ofP ofB near).length:=by omega
 have hx: (y5 (bH 0 cV) gs ofP ofB near)[m]? =some (y5 (bH 0 cV) gs ofP ofB near)[m]:=aJ hm
 have hmem: (y5 (bH 0 cV) gs ofP ofB near)[m]∈y5 (bH 0 cV) gs ofP ofB near:=cI hm
 have hr:=vD b hmem
 rw [Dg hx (by omega),aB,za b e2 hr hll t2 hN,aB]
 simp only [bne_self_eq_false,aQ]
 rw [Ie b e2 hll t2 _ near hN,aC hn,aC hsl,aC (by rw [vE];simp),aB]
 simp only [bne_self_eq_false,aQ]
 generalize hS:y5 (bH 0 cV) gs ofP ofB near=S at *
 generalize hF:S.filter (fun x=>decide (n8 N a cV hZ gS l [x]=n8 N a cV hZ gS l [S[m]]))=F
 have hFl:F.length<=20000:=by
  have:=ka (fun x=>decide (n8 N a cV hZ gS l [x]=n8 N a cV hZ gS l [S[m]])) S
  rw [hF] at this;omega
 have hin:S[m]∈F:=by rw [<-hF];exact gE.2 ⟨hmem,by simp⟩
 rw [dE hx,aB,xS (by omega),aB,cB hin,aB]
 simp only [lv,aQ]
 refine Ok.get ?_
 refine Ok.bind (Ok.Bg (n:=F.length) (fun st=>st) (fun _ _=>True) (Go:=fun _=>True) (Rt:=fun _=>False) ?_ ?_ (nb _) rfl trivial (by omega)) ?_
 ·rintro j i hj e _
  subst e
  have hy:F[j]? =some F[j]:=aJ hj
  have hyF:F[j]∈S.filter (fun x=>decide (n8 N a cV hZ gS l [x]=n8 N a cV hZ gS l [S[m]])):=by rw [hF];exact cI hj
  obtain⟨y1,y2⟩:=gE.1 hyF
  have y2:n8 N a cV hZ gS l [F[j]]=n8 N a cV hZ gS l [S[m]]:=by simpa using y2
  have hr2:=vD b (near:=near) (x:=F[j]) (by rw [hS];exact y1)
  rw [Ka hj,aR]
  refine Ok.eq (Dg hy (by omega)) (Ok.eq (za b e2 hr2 hll t2 hN) ?_)
  dsimp only
  rw [bne_self_eq_false,aQ,xR (by rw [vE];omega),y2,cB rfl]
  exact Ok.nx ⟨fU (by omega),trivial⟩
 ·rintro i e _
  subst e
  rw [Kb,aQ]
  exact Ok.br trivial
 intro o ho
 refine Ok.cs ho (fun _ _=>Ok.ret rfl) (fun r hr=>hr.elim)
end
end Go.Gk
