/-
  Helping texts: plain functions and plain laws. No statement of the seed is proved here.
-/
import Derived.Test.YtjocleflknekmaaGreatDoorE1
import Derived.Test.YtjocleflknekmaaGreatDoorA2
set_option linter.unusedVariables false
set_option linter.unusedSimpArgs false
set_option linter.unusedSectionVars false
namespace Go.Gk
open Go Classical
section
variable {N:Nat}
theorem yh {p:aH}: ∀{bP:List (List (List aA))} {k:Nat},p∈aJ k bP->∃(i:Nat) (ps:List (List aA)) (q:List aA),bP[i]? =some ps/\q∈ps/\p= ⟨((k+i:Nat):Int),q,aP q⟩
 | [],k,h=>by cases h
 | ps::bP,k,h=>by
  rcases cQ.1 h with h | h
  ·obtain⟨q,hq,rfl⟩:=cI.1 h
   exact⟨0,ps,q,rfl,hq,rfl⟩
  ·obtain⟨i,ps',q,h1,h2,h3⟩:=yh h
   refine⟨i+1,ps',q,by simpa using h1,h2,?_⟩
   rw [h3,show k+1+i=k+ (i+1) by omega]
structure nD (a:iW):Prop where
 xJ:0<a.aN.length/\a.aN.length<=16
 KH: ∀r∈a.aN,i6 r=0
 out:i6 a.dH=0
 many:a.dH.length+ (a.aN.map List.length).sum<=2000
 um:l8 a=0
 yi:ma a=0
theorem nD.gb {a:iW} (h:nD a):mB a.aL:=⟨(oU h.um).1,fun b hb=>⟨((oU h.um).2 b hb).1,((oU h.um).2 b hb).2.1⟩⟩
theorem nD.cs {a:iW} (h:nD a): ∀r∈a.aN,r.length<=2000/\∀x∈r,AR x:=fun r hr=>BD (rf.1 (h.KH r hr)).1
structure uo (a:iW) (kb:List (List aA)) (bP:List (List (List aA))) (p:aH) (i:Nat) (r:List aI) (s:List aA) (ps:List (List aA)) (u:Nat->Nat) (j k:Nat):Prop where
 KI:a.aN[i]? =some r
 kb:kb[i]? =some s
 bP:bP[i]? =some ps
 dr:rJ r (oc a.aL ((i:Nat):Int)) s
 pt:pV s u ps
 at_:ps[j]? =some p.Set
 head: (bZ (aP s).length u)[j]? =some k
 set:pq (l7 (aP s) (aP s).length u k) p.Set
 lim:tc (po r++po (oc a.aL ((i:Nat):Int))) (kZ r++kZ (oc a.aL ((i:Nat):Int))) (p.Set.map bN)
 IF:p.eQ= ((i:Nat):Int)
 IG:p.m6=aP p.Set
theorem ES {a:iW} {kb:List (List aA)} {bP:List (List (List aA))} (hg:nD a) (hD:vj a.aN a.aL a.aN.length kb bP) {p:aH} (hp:p∈aJ 0 bP): ∃i r s ps u j k,uo a kb bP p i r s ps u j k:=by
 obtain⟨i,ps,q,h1,h2,rfl⟩:=yh hp
 have hil:i<a.aN.length:=by have:=(aY.1 h1).1;rw [hD.Dt] at this;exact this
 have hc:a.aN[i]? =some a.aN[i]:=aK hil
 have hd:kb[i]? =some (kb[i]'(by rw [hD.len];exact hil)):=aK _
 have hdr:=hD.dr i _ _ hil hc hd
 obtain⟨u,hu⟩:=hD.pt i _ ps hil hd h1
 obtain⟨sx,sy⟩:=hdr.small (hg.cs _ (cM hil)).2 (fun x hx=>(Aw hg.gb _ x hx).1)
 obtain⟨j,k,g1,g2,g3,g4⟩:=w6 hu hdr.can hdr.lim sx sy h2
 exact⟨i,_,_,ps,u,j,k,hc,hd,h1,hdr,hu,g1,g2,g3,g4,by rw [ga],rfl⟩
theorem uo.EK {a:iW} {kb:List (List aA)} {bP:List (List (List aA))} (hg:nD a) {p:aH} {i:Nat} {r:List aI} {s:List aA} {ps:List (List aA)} {u:Nat->Nat} {j k:Nat} (h:uo a kb bP p i r s ps u j k):
  p.Set.length<=5000/\(∀b∈p.Set,b.Xs.length<=5000)/\p.m6.length<=5000*5000:=by
 have h1:=(hg.cs r (fz h.KI)).1
 have h2:=yf hg.gb ((i:Nat):Int)
 rw [h.IG]
 exact vh (A:=5000) h.set.can h.lim (by rw [dR,k6,k6];omega) (by rw [dR,jm,jm];omega)
def Cx (a0 a1 b0 b1:Int):Bool:=decide (b0<a1)&&decide (a0<b1)
def ET (a b:aI):Bool:=Cx a.X0 a.X1 b.X0 b.X1&&Cx a.Y0 a.Y1 b.Y0 b.Y1
theorem w9 {a0 a1 b0 b1:Int} (h1: -1000000<=a0/\a0<=1000000) (h2: -1000000<=a1/\a1<=1000000) (h3: -1000000<=b0/\b0<=1000000) (h4: -1000000<=b1/\b1<=1000000): ∃n,jQ N a0 a1 b0 b1=some n/\0<=n/\(n=0↔Cx a0 a1 b0 b1=true):=by
 unfold jQ Cx
 have e1:IntKind.wrap .i64 (b0 - a1)=b0 - a1:=eP (by omega) (by omega)
 have e2:IntKind.wrap .i64 (a0 - b1)=a0 - b1:=eP (by omega) (by omega)
 have e3:IntKind.wrap .i64 (b0 - a1+1)=b0 - a1+1:=eP (by omega) (by omega)
 have e4:IntKind.wrap .i64 (a0 - b1+1)=a0 - b1+1:=eP (by omega) (by omega)
 rw [e1,e2,e3,e4]
 refine⟨_,rfl,?_,?_⟩
 ·repeat' split
  all_goals omega
 ·rw [bV,bT,bT]
  repeat' split
  all_goals omega
theorem G3 {a b:aI} (h1:eM a=true) (h2:eM b=true): ∃n,oX N a b=some n/\(n=0↔ET a b=true):=by
 have b1:=kr h1
 have b2:=kr h2
 obtain⟨n,n1,n2,n3⟩:=w9 (N:=N) (a0:=a.X0) (a1:=a.X1) (b0:=b.X0) (b1:=b.X1) (by omega) (by omega) (by omega) (by omega)
 obtain⟨m,m1,m2,m3⟩:=w9 (N:=N) (a0:=a.Y0) (a1:=a.Y1) (b0:=b.Y0) (b1:=b.Y1) (by omega) (by omega) (by omega) (by omega)
 unfold oX ET
 rw [n1,aB,m1,aB]
 refine⟨_,rfl,?_⟩
 rw [bV,<-n3,<-m3]
 split <;> omega
def vl (x y:bW):Bool:=(decide (x.cZ<=y.To)&&decide (y.cZ<=x.To))&&ET (vT x) (vT y)
def xc (a:iW):Prop:=∃(i k:Nat) (x y:bW),k<i/\a.aL[i]? =some x/\a.aL[k]? =some y/\vl x y=true
noncomputable def Dy (r:List aI):Option Int:=if i6 r≠0 then some (i6 r) else none
noncomputable def BL (a:iW):Int:=if 2000<a.dH.length+ (a.aN.map List.length).sum then 2 else if l8 a≠0 then l8 a else if ma a≠0 then ma a else if xc a then 12 else 0
noncomputable def FW (a:iW):Int:=match a.aN.findSome? Dy with | some e=>e | none=>if i6 a.dH≠0 then i6 a.dH else BL a
noncomputable def jM (a:iW):Int:=if a.aN.length=0 then 9 else if 16<a.aN.length then 2 else FW a
def IQ (kb:List (List aA)) (bP:List (List (List aA))):Prop:=(∀s∈kb,(aP s).length<=2000)/\(aJ 0 bP).length<=2000
abbrev xd:=(List (List aI))×(List aI)×(List bW)×(List dL)×(List (List aA))×(List aH)×(List (List Int))×(List cU)×(List Int)×(List Int)×(List Int)×(List bE)
def Gq (a:iW) (x:Option xd×Int):Prop:=
 (jM a≠0/\x= (none,jM a))\/(jM a=0/\nD a/\¬xc a/\∃kb bP,vj a.aN a.aL a.aN.length kb bP/\
  ((¬IQ kb bP/\x= (none,2))\/(IQ kb bP/\∃r gs ofP ofB jI jH,BK a.aL a.bD (aJ 0 bP) r gs ofP ofB jI jH/\
   x= (some (a.aN,a.dH,a.aL,a.bD,kb,aJ 0 bP,cK a.aL (aJ 0 bP),gs,ofP,ofB,jI,jH),0))))
structure uq (a:iW):Prop where
 cs:a.aN.length<=1048576
 each: ∀r∈a.aN,r.length<=1048576
 out:a.dH.length<=1048576
 bs:a.aL.length<=1048576
 ls:a.bD.length<=1048576
 nm:w4 a
theorem AA {a:iW} (h:bk a<=1048576):uq a:=by
 rw [Et] at h
 have h1:=uS a.aN
 have h2:=uS a.dH
 have h3:=uS a.aL
 have h4:=uS a.bD
 refine⟨by omega,fun r hr=>?_,by omega,by omega,by omega,fun x hx=>?_⟩
 ·have:=Bn hr
  have:=uS r;omega
 ·have:=Bn hx
  rw [Cj,El,El] at this;omega
theorem Dz {a:iW} (hs:uq a) (hN:4398046511104<=N):Ok (gu N a) (Gq a):=by
 unfold gu
 have pe: ∀e:Int,e≠0->jM a=e->Ok (some ((none:Option xd),e)) (Gq a):=fun e he h=>Ok.ret (.inl ⟨by rw [h];exact he,by rw [h]⟩)
 have c1:=hs.cs
 refine Ok.bif (fun h=>?_) (fun h=>?_)
 ·have:a.aN.length=0:=by have:=beq_iff_eq.1 h;omega
  exact pe 9 (by omega) (by unfold jM;rw [aD this])
 have h0: ¬a.aN.length=0:=by rw [beq_eq_false_iff_ne] at h;omega
 refine Ok.bif (fun h=>?_) (fun h=>?_)
 ·have h1:16<a.aN.length:=by have:=of_decide_eq_true h;omega
  exact pe 2 (by omega) (by unfold jM;rw [aC h0,aD h1])
 have h1: ¬16<a.aN.length:=by have:=of_decide_eq_false h;omega
 have pe1:jM a=FW a:=by unfold jM;rw [aC h0,aC h1]
 have hso:=hs.out
 have sumle: ∀k,k<=a.aN.length->((a.aN.take k).map List.length).sum<=k*1048576:=by
  intro k
  induction k with
  | zero=>intro _;simp
  | succ k ih=>
   intro hk
   have:=ih (by omega)
   have h2:=hs.each _ (cM (show k<a.aN.length by omega))
   rw [fH (by omega),dV,List.sum_append]
   simp only [dG,List.map_nil,List.sum_cons,List.sum_nil]
   rw [Nat.add_mul];omega
 refine Ok.bind (Ok.oW (Go:=fun s:Int=>s= ((a.dH.length+ (a.aN.map List.length).sum:Nat):Int)/\∀r∈a.aN,i6 r=0) (Rt:=fun x:Option xd×Int=>∃e,e≠0/\x= (none,e)/\a.aN.findSome? Dy=some e)
  (fun(k:Nat) (s:Int)=>s= ((a.dH.length+ ((a.aN.take k).map List.length).sum:Nat):Int)/\∀r∈a.aN.take k,i6 r=0) (by omega) ⟨by simp,fun r hr=>by simp at hr⟩ (fun k s hk hI=>?_) (fun s hI=>by rw [fC] at hI;exact hI)) ?_
 ·obtain⟨e,hI⟩:=hI
  subst e
  have hkx:a.aN[k]? =some a.aN[k]:=aK hk
  have hts:a.aN.take (k+1)=a.aN.take k++[a.aN[k]]:=fH hk
  have he:=hs.each _ (cM hk)
  refine Ok.ix hkx (Ok.eq (n9 (by omega) hN) ?_)
  refine Ok.bif (fun h=>Ok.rt ?_) (fun h=>Ok.nx ?_)
  ·have h:i6 a.aN[k]≠0:=by simpa using h
   refine⟨_,h,rfl,?_⟩
   rw [List.findSome?_eq_some_iff]
   refine⟨a.aN.take k,a.aN[k],a.aN.drop (k+1),?_,by unfold Dy;rw [aD h],fun r hr=>by unfold Dy;rw [aC (by simpa using hI r hr)]⟩
   rw [<-pD hk,List.take_append_drop]
  ·have h:i6 a.aN[k]=0:=by simpa using h
   have:=sumle k (by omega)
   have hk16:k*1048576<=16*1048576:=Nat.mul_le_mul_right _ (by omega)
   refine⟨?_,fun r hr=>?_⟩
   ·rw [wrap_add (by omega),hts,dV,List.sum_append]
    simp only [dG,List.map_nil,List.sum_cons,List.sum_nil]
    congr 1
    omega
   ·rw [hts] at hr
    rcases cQ.1 hr with hr | hr
    ·exact hI r hr
    ·simp at hr;subst hr;exact h
 intro o ho
 refine Ok.cs ho ?_ ?_
 rotate_left
 ·rintro x ⟨e,he,rfl,hf⟩
  exact pe e he (by rw [pe1];unfold FW;rw [hf])
 rintro s ⟨rfl,hreg⟩
 have IL:a.aN.findSome? Dy=none:=List.findSome?_eq_none_iff.2 fun r hr=>by unfold Dy;rw [aC (by simpa using hreg r hr)]
 have pe2:jM a=if i6 a.dH≠0 then i6 a.dH else BL a:=by rw [pe1];unfold FW;rw [IL]
 refine Ok.eq (n9 (by omega) hN) ?_
 refine Ok.bif (fun h=>?_) (fun h=>?_)
 ·have h:i6 a.dH≠0:=by simpa using h
  exact pe _ h (by rw [pe2,aD h])
 have hout:i6 a.dH=0:=by simpa using h
 have pe3:jM a=BL a:=by rw [pe2,aC (by simpa using hout)]
 refine Ok.bif (fun h=>?_) (fun h=>?_)
 ·have h:2000<a.dH.length+ (a.aN.map List.length).sum:=by have:=of_decide_eq_true h;omega
  exact pe 2 (by omega) (by rw [pe3];unfold BL;rw [aD h])
 have hmany: ¬2000<a.dH.length+ (a.aN.map List.length).sum:=by have:=of_decide_eq_false h;omega
 have hbs:=hs.bs
 have hls:=hs.ls
 refine Ok.eq (xG (by omega) (by omega) (by omega)) ?_
 refine Ok.bif (fun h=>?_) (fun h=>?_)
 ·have h:l8 a≠0:=by simpa using h
  exact pe _ h (by rw [pe3];unfold BL;rw [aC hmany,aD h])
 have hbo:l8 a=0:=by simpa using h
 refine Ok.eq (xH (by omega) (by omega) hs.nm (by omega)) ?_
 refine Ok.bif (fun h=>?_) (fun h=>?_)
 ·have h:ma a≠0:=by simpa using h
  exact pe _ h (by rw [pe3];unfold BL;rw [aC hmany,aC (by simpa using hbo),aD h])
 have hla:ma a=0:=by simpa using h
 have hg:nD a:=⟨by omega,hreg,hout,by omega,hbo,hla⟩
 have pe4:jM a=if xc a then 12 else 0:=by rw [pe3];unfold BL;rw [aC hmany,aC (by simpa using hbo),aC (by simpa using hla)]
 refine Ok.bind (Ok.oW (Go:=fun _:Unit=>¬xc a) (Rt:=fun x:Option xd×Int=>x= (none,12)/\xc a)
  (fun(k:Nat) (_:Unit)=>∀(i j:Nat) (x y:bW),i<k->j<i->a.aL[i]? =some x->a.aL[j]? =some y->¬vl x y=true) (by omega) (fun i j x y h=>by omega) (fun k s hk hI=>?_) (fun s hI=>?_)) ?_
 ·have hkx:a.aL[k]? =some a.aL[k]:=aK hk
  refine Ok.ix hkx (Ok.eq (tH _ k (by omega)) ?_)
  have hgk:=hg.gb.ok _ (cM hk)
  refine Ok.bind (Ok.oW (Go:=fun _:Unit=>∀(j:Nat) (y:bW),j<k->a.aL[j]? =some y->¬vl a.aL[k] y=true) (Rt:=fun x:Option xd×Int=>x= (none,12)/\xc a)
   (fun(t:Nat) (_:Unit)=>∀(j:Nat) (y:bW),j<t->a.aL[j]? =some y->¬vl a.aL[k] y=true) (by rw [dA];omega) (fun j y h=>by omega) (fun t s ht hI2=>?_) (fun s hI2 j y hj hy=>hI2 j y (by rw [dA];omega) hy)) ?_
  ·have htk:t<k:=by rw [dA] at ht;omega
   have htx: (a.aL.take k)[t]? =some a.aL[t]:=by rw [List.getElem?_take_of_lt htk];exact aK (by omega)
   have hgt:=hg.gb.ok _ (cM (show t<a.aL.length by omega))
   refine Ok.ix htx ?_
   refine Ok.eq (x:=vl a.aL[k] a.aL[t]) ?_ ?_
   ·unfold vl
    cases hc: (decide (a.aL[k].cZ<=a.aL[t].To)&&decide (a.aL[t].cZ<=a.aL[k].To)) with
    | false=>rfl
    | true=>
     obtain⟨n,n1,n2⟩:=G3 (N:=N) hgk.2 hgt.2
     rw [aS,lE hgk.1,aB,lE hgt.1,aB,n1,aB,Bool.true_and]
     congr 1
     rw [fD,beq_iff_eq];exact n2
   ·refine Ok.bif (fun h=>Ok.rt ⟨rfl,k,t,_,_,htk,hkx,aK (by omega),h⟩) (fun h=>Ok.nx fun j y hj hy=>?_)
    by_cases e:j<t
    ·exact hI2 j y e hy
    ·have:j=t:=by omega
     subst this
     rw [aK (by omega)] at hy;injection hy with hy
     rw [<-hy,h];simp
  ·intro o ho
   refine Ok.cs ho (fun s hI2=>Ok.nx fun i j x y hi hj hx hy=>?_) (fun x hx=>Ok.rt hx)
   by_cases e:i<k
   ·exact hI i j x y e hj hx hy
   ·have:i=k:=by omega
    subst this
    rw [hkx] at hx;injection hx with hx
    rw [<-hx];exact hI2 j y hj hy
 ·rintro⟨i,j,x,y,hj,hx,hy,hc⟩
  exact hI i j x y (aY.1 hx).1 hj hx hy hc
 intro o ho
 refine Ok.cs ho ?_ ?_
 rotate_left
 ·rintro x ⟨rfl,hc⟩
  exact pe 12 (by omega) (by rw [pe4,aD hc])
 intro _ hncl
 have pe5:jM a=0:=by rw [pe4,aC hncl]
 refine Ok.bind (BF (N:=N) (by omega) hg.cs hg.gb hN) ?_
 rintro⟨okk,kb,pcs⟩ ⟨bP,D,e1,e2⟩
 dsimp only at D e1 e2 ⊢
 subst e1
 refine Ok.bif (fun h=>Ok.ret (.inr ⟨pe5,hg,hncl,kb,bP,D, .inl ⟨fun hf=>?_,rfl⟩⟩)) (fun h=>?_)
 ·have:=e2.2 hf
  rw [this] at h;cases h
 ·have hf:IQ kb bP:=e2.1 (by cases okk <;> simp_all)
  have hpr: ∀p∈aJ 0 bP,p.m6.length<=1073741824:=fun p hp=>by
   obtain⟨i,r,s,ps,u,j,k,hP⟩:=ES hg D hp
   have:=(hP.EK hg).2.2;omega
  have hf2:=hf.2
  refine Ok.eq (EM hg.gb (by omega) hpr) ?_
  refine Ok.bind (zb (N:=N) hg.gb (by omega) hpr (by omega) hN) ?_
  rintro⟨gs,ofP,ofB,jI,jH⟩ ⟨r,hC⟩
  exact Ok.ret (.inr ⟨pe5,hg,hncl,kb,bP,D, .inr ⟨hf,r,gs,ofP,ofB,jI,jH,hC,rfl⟩⟩)
end
end Go.Gk
namespace Go.Gk
open Go Classical
section
variable {N:Nat}
theorem Cy {w:Nat} {g:Nat->Nat} {a:Nat}: ∀{ks:List Nat},ks.Nodup->a∈ks->(ks.map (fun k=>(if a=k then w else 0)+g k)).sum=w+ (ks.map g).sum
 | [],_,h=>by cases h
 | k::ks,hn,h=>by
  have hn':=List.nodup_cons.1 hn
  simp only [dG,List.sum_cons]
  by_cases e:a=k
  ·subst e
   rw [aD rfl]
   have:ks.map (fun k=>(if a=k then w else 0)+g k)=ks.map g:=List.map_congr_left fun x hx=>by
    rw [aC (fun e=>hn'.1 (by rw [e];exact hx)),ga]
   rw [this];omega
  ·rw [aC e,Cy hn'.2 (by rcases eZ.1 h with h | h;exact absurd h e;exact h)];omega
theorem AB {α:Type} {ks:List Nat} (hn:ks.Nodup) (f w:α->Nat): ∀{l:List α},(∀x∈l,f x∈ks)->(ks.map (fun k=>((l.filter (fun x=>decide (f x=k))).map w).sum)).sum= (l.map w).sum
 | [],_=>by
  have: ∀ks:List Nat,(ks.map (fun _=>0)).sum=0:=fun ks=>by
   induction ks with
   | nil=>rfl
   | cons k ks ih=>simp only [dG,List.sum_cons,ih]
  simpa using this ks
 | x::l,h=>by
  have ih:=AB hn f w (l:=l) fun y hy=>h y (jt _ hy)
  have: (ks.map (fun k=>(((x::l).filter (fun x=>decide (f x=k))).map w).sum))=ks.map (fun k=>(if f x=k then w x else 0)+ ((l.filter (fun x=>decide (f x=k))).map w).sum):=List.map_congr_left fun k _=>by
   rw [List.filter_cons]
   by_cases e:f x=k
   ·rw [aD (by simpa using e),aD e,dG,List.sum_cons]
   ·rw [aC (by simpa using e),aC e,ga]
  rw [this,Cy hn (h x (by simp)),ih,dG,List.sum_cons]
def AD (l:List aI):Int:=l.foldl (fun s x=>IntKind.wrap .i64 (s+ (IntKind.wrap .i64 ((IntKind.wrap .i64 (x.X1 - x.X0))* (IntKind.wrap .i64 (x.Y1 - x.Y0)))))) 0
theorem DA {l:List aI} (hl:l.length<=4611686018427387904):lT N l=some (AD l):=by
 refine Ok.get ?_
 unfold lT
 refine Ok.bind (Ok.jq (fun k s=>s=AD (l.take k)) (by omega) rfl (fun k s hk e=>?_)) (fun s e=>Ok.ret (by rw [e,fC]))
 subst e
 refine Ok.idx hk (Ok.ret ?_)
 unfold AD
 rw [fH hk,List.foldl_append];rfl
theorem uo.ne {a:iW} {kb:List (List aA)} {bP:List (List (List aA))} {p:aH} {i:Nat} {r:List aI} {s:List aA} {ps:List (List aA)} {u:Nat->Nat} {j k:Nat} (h:uo a kb bP p i r s ps u j k):p.Set≠[]:=by
 intro e
 have hh:=iN.1 (fz h.head)
 have hx: (aP s)[k]? =some (aP s)[k]:=aK hh.1
 have hm: (aP s)[k]∈l7 (aP s) (aP s).length u k:=mR.2 ⟨k,hh.1,hh.2,hx⟩
 obtain⟨b,hb,q,hq,hr⟩:=nJ (fz hx)
 have hbm:bN b∈s.map bN:=cI.2 ⟨b,hb,rfl⟩
 have hq1:=Bw (h.dr.can.each _ hbm).2.2.1 q hq
 have hb1:=(h.dr.can.each _ hbm).1
 have hc:=h.set.cover q.1 b.Y0
 rw [e] at hc
 have:xD (l7 (aP s) (aP s).length u k) q.1 b.Y0=true:=jF.2 ⟨_,hm,by rw [hr];exact⟨⟨Int.le_refl _,hq1⟩,Int.le_refl _,hb1⟩⟩
 rw [this] at hc
 cases hc
structure jY (a:iW) (kb:List (List aA)) (bP:List (List (List aA))) (r:Nat->Nat) (gs:List cU) (ofP ofB jI:List Int) (jH:List bE):Prop where
 EU:nD a
 KL: ¬xc a
 dr:vj a.aN a.aL a.aN.length kb bP
 xJ:IQ kb bP
 Fe:BK a.aL a.bD (aJ 0 bP) r gs ofP ofB jI jH
inductive G4 (N:Nat) (a:iW):Prop
 | err (e:Int) (he:e≠0) (h:gu N a=some (none,e))
 | ok {kb:List (List aA)} {bP:List (List (List aA))} {r:Nat->Nat} {gs:List cU} {ofP ofB jI:List Int} {jH:List bE} (b:jY a kb bP r gs ofP ofB jI jH)
  (h:gu N a=some (some (a.aN,a.dH,a.aL,a.bD,kb,aJ 0 bP,cK a.aL (aJ 0 bP),gs,ofP,ofB,jI,jH),0))
theorem opened {a:iW} (hs:uq a) (hN:4398046511104<=N):G4 N a:=by
 obtain⟨x,hx,hI⟩:=Dz (N:=N) hs hN
 rcases hI with ⟨he,rfl⟩ | ⟨_,hg,hcl,kb,bP,D,⟨_,rfl⟩ | ⟨hf,r,gs,ofP,ofB,jI,jH,hC,rfl⟩⟩
 ·exact .err _ he hx
 ·exact .err 2 (by omega) hx
 ·exact .ok ⟨hg,hcl,D,hf,hC⟩ hx
end
end Go.Gk
namespace Go.Gk
open Go Classical
section
variable {S R:Type}
theorem Ok.Bu {body:S->Option (Fl S R)} {N n:Nat} {s:S} (ι:S->Int) (Inv:Nat->S->Prop) {Go:S->Prop} {Rt:R->Prop}
  (h1: ∀k s,k<n->ι s= ((k:Nat):Int)->Inv k s->Ok (body s) (Gm (fun s'=>ι s'= ((k+1:Nat):Int)/\Inv (k+1) s') Go Rt))
  (h2: ∀s,ι s= ((n:Nat):Int)->Inv n s->Ok (body s) (Gm (fun _=>False) Go Rt))
  {k0:Nat} (hk:k0<=n) (hi:ι s= ((k0:Nat):Int)) (h0:Inv k0 s) (hn:n<N):Ok (Gk.mm body N s) (Iv Go Rt):=by
 refine Ok.mm (fun s=>∃k:Nat,k<=n/\ι s= ((k:Nat):Int)/\Inv k s) (fun s=>n - (ι s).toNat) ?_ ⟨k0,hk,hi,h0⟩ (by omega)
 rintro s ⟨k,hk,e,hI⟩
 by_cases hlt:k<n
 ·refine(h1 k s hlt e hI).mono ?_
  rintro(s' | s' | r) hp
  ·have hp1:ι s'= ((k+1:Nat):Int):=hp.1
   exact⟨⟨k+1,hlt,hp.1,hp.2⟩,by rw [e,hp1];simp only [bO];omega⟩
  ·exact hp
  ·exact hp
 ·have:k=n:=by omega
  subst this
  refine(h2 s e hI).mono ?_
  rintro(s' | s' | r) hp
  ·exact hp.elim
  ·exact hp
  ·exact hp
end
section
variable {N:Nat}
end
end Go.Gk
namespace Go.Gk
open Go Classical
section
variable {α:Type} [DecidableEq α] {N:Nat}
end
section
variable {N:Nat}
end
end Go.Gk
namespace Go.Gk
open Go Classical
theorem xe (n:Nat) (g:Nat->Nat): ((List.range (n+1)).map g).sum= ((List.range n).map g).sum+g n:=by
 rw [List.range_succ,dV,List.sum_append];simp
def IU (r:aI) (x y:Int):Bool:=(decide (r.X0<=x)&&decide (x<r.X1))&&(decide (r.Y0<=y)&&decide (y<r.Y1))
def IH (a b:aI):Prop:=∀x y,¬(IU a x y=true/\IU b x y=true)
theorem FX {r:aI} {x y:Int}:IU r x y=true↔(r.X0<=x/\x<r.X1)/\r.Y0<=y/\y<r.Y1:=by unfold IU;simp
theorem uu: ∀{xs:List Int},kR xs->(wN xs).Pairwise (fun p q=>p.2<q.1)
 | [],_=>lh
 | [a],_=>lh
 | a::b::l,h=>by
  unfold wN
  rw [List.pairwise_cons]
  exact⟨fun q hq=>h.tail.head q.1 (y4 q hq).1,uu h.tail.tail⟩
def BM (a b:aI):Prop:=a.Y1<=b.Y0\/(a.Y0=b.Y0/\a.Y1=b.Y1/\a.X1<b.X0)
theorem BM.apart {a b:aI} (h:BM a b):IH a b:=fun x y ⟨h1,h2⟩=>by
 rw [FX] at h1 h2
 rcases h with h | h <;> omega
theorem pZ: ∀{s:List aA},dU (s.map bN)->(aP s).Pairwise BM
 | [],_=>lh
 | b::s,h=>by
  rw [lC,List.pairwise_append]
  refine⟨?_,pZ h.tail,fun x hx y hy=>?_⟩
  ·unfold k7
   rw [List.pairwise_map]
   exact List.Pairwise.imp (fun hpq=> .inr ⟨rfl,rfl,hpq⟩) (uu (h.each (bN b) (by simp)).2.2.1)
  ·unfold k7 at hx
   obtain⟨p,_,rfl⟩:=cI.1 hx
   obtain⟨c,hc,q,_,rfl⟩:=nJ hy
   exact .inl (h.wH (bN c) (cI.2 ⟨c,hc,rfl⟩))
theorem rL {s:List aA} (h:dU (s.map bN)): ∀r∈aP s,r.X0<r.X1/\r.Y0<r.Y1:=fun r hr=>by
 obtain⟨b,hb,p,hp,rfl⟩:=nJ hr
 have hc:=h.each (bN b) (cI.2 ⟨b,hb,rfl⟩)
 exact⟨Bw hc.2.2.1 p hp,hc.1⟩
theorem AE {s:List aA} (h:dU (s.map bN)): (aP s).Nodup:=by
 have h1:=pZ h
 have h2:=rL h
 refine List.Pairwise.imp_of_mem (fun{a b} ha hb hab e=>?_) h1
 subst e
 have:=h2 a ha
 rcases hab with h | h <;> omega
theorem EV {s:List aA} (h:dU (s.map bN)):Hi (aP s):=fun k a b ha hb hbad=>by
 have:=lK.1 (pZ h) k (k+1) (aY.1 ha).1 (aY.1 hb).1 (by omega)
 rw [(aY.1 ha).2,(aY.1 hb).2] at this
 have h2:=rL h a (fz ha)
 rcases this with h | h <;> rcases hbad with h3 | h3 <;> omega
theorem vm: ∀{xs:List Int},xs.length % 2=0->∀c∈xs,∃p∈wN xs,c=p.1\/c=p.2
 | [],_,c,hc=>by cases hc
 | [a],h,_,_=>by simp at h
 | a::b::l,h,c,hc=>by
  unfold wN
  rcases eZ.1 hc with rfl | hc
  ·exact⟨(c,b),by simp, .inl rfl⟩
  ·rcases eZ.1 hc with rfl | hc
   ·exact⟨(a,c),by simp, .inr rfl⟩
   ·obtain⟨p,hp,h2⟩:=vm (by simp at h;omega) c hc
    exact⟨p,jt _ hp,h2⟩
theorem AF {s:List aA} (h:dU (s.map bN)):pq (aP s) s:=by
 refine⟨h,fun x y=>(pr h x y).symm,fun b hb=>?_⟩
 obtain⟨c,hc,rfl⟩:=cI.1 hb
 have hcc:=h.each _ hb
 have mem: ∀p∈wN c.Xs,(⟨p.1,c.Y0,p.2,c.Y1⟩:aI)∈aP s:=fun p hp=>by
  unfold aP k7
  exact List.mem_flatMap.2 ⟨c,hc,cI.2 ⟨p,hp,rfl⟩⟩
 have hne: ∃x,x∈c.Xs:=by
  cases hx:c.Xs with
  | nil=>exact absurd hx hcc.2.1
  | cons x l=>exact⟨x,by simp⟩
 obtain⟨x,hx⟩:=hne
 obtain⟨p,hp,_⟩:=vm hcc.2.2.2 x hx
 refine⟨jl.2 ⟨_,mem p hp, .inl rfl⟩,jl.2 ⟨_,mem p hp, .inr rfl⟩,fun c' hc'=>?_⟩
 obtain⟨q,hq,h2⟩:=vm hcc.2.2.2 c' hc'
 exact n0.2 ⟨_,mem q hq,h2⟩
theorem AG {s:List aA} (h:dU (s.map bN)) (hl: (aP s).length<=2000) (hr: ∀r∈aP s,eM r=true):i6 (aP s)=0:=
 rf.2 ⟨oT.2 ⟨hl,fun r hm=>⟨hr r hm,rL h r hm⟩⟩,EV h,s,AF h,rfl⟩
def m4 (s:List Bd):Nat:=(s.map (fun b=>b.xs.length / 2)).sum
theorem ri (s t:List Bd):m4 (s++t)=m4 s+m4 t:=by unfold m4;rw [dV,List.sum_append]
theorem DB (s:List Bd) (b:Bd):m4 (lB s b)<=m4 s+b.xs.length / 2:=by
 unfold lB
 split
 ·omega
 ·split
  ·rename_i c hc
   have hsp:=pT hc
   have e:m4 s=m4 s.dropLast+c.xs.length / 2:=by
    conv=>lhs;rw [hsp,ri]
    simp [m4]
   split
   ·rw [ri,e];simp [m4]
   ·rw [ri];simp [m4]
  ·simp [m4]
structure Kt (t:List Bd):Prop where
 each: ∀b∈t,b.y0<b.y1/\kR b.xs/\b.xs.length % 2=0
 ord:t.Pairwise (fun b c=>b.y1<=c.y0)
theorem fold_push: ∀(t out:List Bd),Kt t->dU out->(∀c∈out,∀b∈t,c.y1<=b.y0)->dU (t.foldl lB out)/\m4 (t.foldl lB out)<=m4 out+m4 t/\
  ∀y,rowAt (t.foldl lB out) y=if (∃b∈t,b.y0<=y/\y<b.y1) then rowAt t y else rowAt out y
 | [],out,_,hc,_=>⟨hc,by simp [m4],fun y=>by simp⟩
 | b::t,out,hl,hc,ho=>by
  have hb:=hl.each b (by simp)
  have hord:=List.pairwise_cons.1 hl.ord
  have ho1: ∀c∈out,c.y1<=b.y0:=fun c h=>ho c h b (by simp)
  have h1:=u5 hc ho1 hb.2.1 hb.2.2
  have htop:=u6 ho1 (show b.y0<=b.y1 by omega)
  obtain⟨f1,f2,f3⟩:=fold_push t (lB out b) ⟨fun c hcm=>hl.each c (jt _ hcm),hord.2⟩ h1 (fun c hcm d hd=>by have:=htop c hcm;have:=hord.1 d hd;omega)
  refine⟨f1,?_,fun y=>?_⟩
  ·have:=DB out b
   have e:m4 (b::t)=b.xs.length / 2+m4 t:=by simp [m4]
   rw [List.foldl_cons,e];omega
  ·rw [List.foldl_cons,f3 y,u4 ho1 (fun c hcm=>(hc.each c hcm).1) (fun h=>absurd h (by omega)),kp]
   by_cases hy:b.y0<=y/\y<b.y1
   ·have hn: ¬∃c∈t,c.y0<=y/\y<c.y1:=fun⟨c,hcm,h⟩=>by have:=hord.1 c hcm;omega
    rw [aC hn,aD hy,aD ⟨b,by simp,hy⟩,aD hy]
   ·rw [aC hy]
    by_cases h: ∃c∈t,c.y0<=y/\y<c.y1
    ·obtain⟨c,hcm,h⟩:=h
     rw [aD ⟨c,hcm,h⟩,aD ⟨c,jt _ hcm,h⟩,aC hy]
    ·rw [aC h,aC hy,aC (show ¬∃c∈b::t,c.y0<=y/\y<c.y1 from fun⟨c,hcm,h2⟩=>by
      rcases eZ.1 hcm with rfl | hcm
      ·exact hy h2
      ·exact h ⟨c,hcm,h2⟩)]
noncomputable def ni (C:List aI) (b:aA):Bd:=⟨b.Y0,b.Y1,oG ((wN b.Xs).filter (fun p=>decide ((⟨p.1,b.Y0,p.2,b.Y1⟩:aI)∈C)))⟩
theorem DC {l m:List (Int×Int)} (h:l.Sublist m): (oG l).Sublist (oG m):=by
 induction h with
 | slnil=>exact List.Sublist.refl _
 | cons a _ ih=>rw [my];exact(ih.cons _).cons _
 | cons_cons a _ ih=>rw [my,my];exact(ih.cons_cons _).cons_cons _
theorem xf (l:List (Int×Int)): (oG l).length % 2=0/\(oG l).length / 2=l.length:=by rw [Df];omega
theorem yj {s p:List aA} {C:List aI} (hs:dU (s.map bN)) (hp:dU (p.map bN)) (hC: ∀r∈C,r∈aP s) (hcov: ∀x y,tX (p.map bN) x y=xD C x y): (aP p).length<=C.length:=by
 have hinc: ∀b∈s,kR (ni C b).xs:=fun b hb=>by
  have h1:=Ct hs b hb
  have h2:=DC (List.filter_sublist (l:=wN b.Xs) (p:=fun p=>decide ((⟨p.1,b.Y0,p.2,b.Y1⟩:aI)∈C)))
  rw [t7 (px hs b hb)] at h2
  exact List.Pairwise.sublist h2 h1
 have hlow:Kt (s.map (ni C)):=by
  refine⟨fun b hb=>?_,?_⟩
  ·obtain⟨c,hc,rfl⟩:=cI.1 hb
   exact⟨(hs.each (bN c) (cI.2 ⟨c,hc,rfl⟩)).1,hinc c hc,(xf _).1⟩
  ·have:=hs.ord
   rw [List.pairwise_map] at this ⊢
   exact List.Pairwise.imp (fun h=>h.1) this
 obtain⟨f1,f2,f3⟩:=fold_push (s.map (ni C)) [] hlow dU.nil (fun c hc=>by cases hc)
 have hrow: ∀{t:List aA},(∀b∈t,b∈s)->∀x y,mj (rowAt (t.map (ni C)) y) x=true->xD C x y=true:=by
  intro t ht x y h
  induction t with
  | nil=>cases h
  | cons b t ih=>
   rw [dG,kp] at h
   split at h
   ·rename_i hy
    have hbm:=ht b (by simp)
    have h1:=hinc b hbm
    have h:mj (oG ((wN b.Xs).filter (fun p=>decide ((⟨p.1,b.Y0,p.2,b.Y1⟩:aI)∈C)))) x=true:=h
    rw [tY h1,wL] at h
    obtain⟨q,hq,h2⟩:=h
    have hq:=hU.1 hq
    exact jF.2 ⟨_,of_decide_eq_true hq.2,h2,hy⟩
   ·exact ih (fun c hc=>ht c (jt _ hc)) h
 have hrow2: ∀x y,xD C x y=true->mj (rowAt (s.map (ni C)) y) x=true:=by
  intro x y h
  obtain⟨r,hr,h1,h2⟩:=jF.1 h
  obtain⟨b,hb,q,hq,rfl⟩:=nJ (hC r hr)
  dsimp only at h1 h2
  have key: ∀{t:List aA},(∀c∈t,c∈s)->dU (t.map bN)->b∈t->rowAt (t.map (ni C)) y= (ni C b).xs:=by
   intro t ht hc hbt
   induction t with
   | nil=>cases hbt
   | cons c t ih=>
    rw [dG,kp]
    by_cases hy:c.Y0<=y/\y<c.Y1
    ·rw [aD (show (ni C c).y0<=y/\y< (ni C c).y1 from hy)]
     rcases eZ.1 hbt with rfl | hbt
     ·rfl
     ·have:=hc.wH (bN b) (cI.2 ⟨b,hbt,rfl⟩)
      have e1: (bN c).y1=c.Y1:=rfl
      have e2: (bN b).y0=b.Y0:=rfl
      omega
    ·rw [aC (show ¬((ni C c).y0<=y/\y< (ni C c).y1) from hy)]
     rcases eZ.1 hbt with rfl | hbt
     ·exact absurd h2 hy
     ·exact ih (fun d hd=>ht d (jt _ hd)) hc.tail hbt
  rw [key (fun c hc=>hc) hs hb]
  have h1':=hinc b hb
  show mj (oG ((wN b.Xs).filter (fun p=>decide ((⟨p.1,b.Y0,p.2,b.Y1⟩:aI)∈C)))) x=true
  rw [tY h1',wL]
  exact⟨q,hU.2 ⟨hq,cE hr⟩,h1⟩
 have hsame:p.map bN= (s.map (ni C)).foldl lB []:=wJ hp f1 fun x y=>by
  rw [hcov,fD]
  have e:rowAt ((s.map (ni C)).foldl lB []) y=rowAt (s.map (ni C)) y:=by
   rw [f3]
   by_cases h: ∃b∈s.map (ni C),b.y0<=y/\y<b.y1
   ·rw [aD h]
   ·rw [aC h]
    exact(jE fun b hb=>by
     have: ¬(b.y0<=y/\y<b.y1):=fun h2=>h ⟨b,hb,h2⟩
     omega).symm
  unfold tX
  rw [e]
  exact⟨hrow2 x y,hrow (fun b hb=>hb) x y⟩
 have hc1: (aP p).length=m4 (p.map bN):=by
  have: ∀p:List aA,(aP p).length=m4 (p.map bN):=fun p=>by
   induction p with
   | nil=>rfl
   | cons b p ih=>rw [lC,dR,kO,ih];unfold m4;rw [dG,dG,List.sum_cons];rfl
  exact this p
 have hc2: ∀s:List aA,m4 (s.map (ni C))= ((aP s).filter (fun r=>decide (r∈C))).length:=fun s=>by
  induction s with
  | nil=>rfl
  | cons b s ih=>
   rw [lC,iF,dR,<-ih]
   unfold m4
   rw [dG,dG,List.sum_cons]
   congr 1
   show (oG _).length / 2=_
   rw [(xf _).2]
   unfold k7
   rw [List.filter_map,dC];rfl
 have hc3: ((aP s).filter (fun r=>decide (r∈C))).length<=C.length:=dQ (List.Nodup.sublist List.filter_sublist (AE hs)) fun r hr=>of_decide_eq_true (hU.1 hr).2
 rw [hc1,hsame]
 have e0:m4 ([]:List Bd)=0:=rfl
 have:=hc2 s
 omega
end Go.Gk
namespace Go.Gk
open Go Classical
section
variable {N:Nat}
theorem su {all:List aI} (w:aI->Nat): ∀(c:List Nat),((c.filterMap (fun i=>all[i]?)).map w).sum= (c.map (fun i=>(all[i]?).elim 0 w)).sum
 | []=>rfl
 | i::c=>by
  rw [dG,List.sum_cons,<-su w c]
  cases h:all[i]? with
  | none=>rw [List.filterMap_cons_none (f:=fun i=>all[i]?) h];simp
  | some x=>rw [List.filterMap_cons_some (f:=fun i=>all[i]?) h,dG,List.sum_cons];rfl
theorem FY {all:List aI} {u:Nat->Nat} (h: ∀i,i<all.length->u i∈bZ all.length u) (w:aI->Nat): ((bZ all.length u).map (fun k=>((l7 all all.length u k).map w).sum)).sum= (all.map w).sum:=by
 have e: (fun k=>((l7 all all.length u k).map w).sum)=fun k=>(((List.range all.length).filter (fun x=>decide (u x=k))).map (fun i=>(all[i]?).elim 0 w)).sum:=by
  funext k;unfold l7;rw [su];rfl
 rw [e,AB (lD _ _) u _ (fun x hx=>h x (lI.1 hx))]
 have: ∀m,m<=all.length->((List.range m).map (fun i=>(all[i]?).elim 0 w)).sum= ((all.take m).map w).sum:=by
  intro m
  induction m with
  | zero=>intro _;rfl
  | succ m ih=>
   intro hm
   rw [xe,ih (by omega),fH (by omega),dV,List.sum_append,aK (by omega)]
   simp
 rw [this _ (bI _),fC]
theorem xg: ∀{l m:List Nat},l.length=m.length->(∀(j x y:Nat),l[j]? =some x->m[j]? =some y->x<=y)->l.sum<=m.sum
 | [],[],_,_=>bI _
 | [],_::_,h,_=>by simp at h
 | _::_,[],h,_=>by simp at h
 | a::l,b::m,h,hle=>by
  have h1:=hle 0 a b rfl rfl
  have h2:=xg (l:=l) (m:=m) (by simpa using h) fun j x y hx hy=>hle (j+1) x y (by simpa using hx) (by simpa using hy)
  rw [List.sum_cons,List.sum_cons];omega
theorem FZ {r hs:List aI} {s:List aA} (h1: ∀x∈r,eM x=true) (h2: ∀x∈hs,eM x=true) (hc:dU (s.map bN)) (hl:tc (po r++po hs) (kZ r++kZ hs) (s.map bN)): ∀q∈aP s,eM q=true/\q.X0<q.X1/\q.Y0<q.Y1:=by
 intro q hq
 have hp:=rL hc q hq
 obtain⟨b,hb,p,hpm,rfl⟩:=nJ hq
 have hll:=hl (bN b) (cI.2 ⟨b,hb,rfl⟩)
 have hm:=y4 p hpm
 have bx: ∀c∈po r++po hs,-1000000<=c/\c<=1000000:=fun c hcm=>by
  rcases cQ.1 hcm with h | h
  ·obtain⟨x,hx,h⟩:=n0.1 h
   have:=kr (h1 x hx)
   rcases h with rfl | rfl <;> omega
  ·obtain⟨x,hx,h⟩:=n0.1 h
   have:=kr (h2 x hx)
   rcases h with rfl | rfl <;> omega
 have by': ∀c∈kZ r++kZ hs,-1000000<=c/\c<=1000000:=fun c hcm=>by
  rcases cQ.1 hcm with h | h
  ·obtain⟨x,hx,h⟩:=jl.1 h
   have:=kr (h1 x hx)
   rcases h with rfl | rfl <;> omega
  ·obtain⟨x,hx,h⟩:=jl.1 h
   have:=kr (h2 x hx)
   rcases h with rfl | rfl <;> omega
 have g1:=bx _ (hll.2.2 p.1 hm.1)
 have g2:=bx _ (hll.2.2 p.2 hm.2)
 have g3:=by' _ hll.1
 have g4:=by' _ hll.2.1
 exact⟨wZ ⟨g1,g3,g2,g4⟩,hp⟩
structure rj (r hs:List aI) (s:List aA) (u:Nat->Nat) (ps:List (List aA)):Prop where
 r1: ∀x∈r,eM x=true
 r2: ∀x∈hs,eM x=true
 k1: ∀x∈r,AR x
 k2: ∀x∈hs,AR x
 dr:rJ r hs s
 pt:pV s u ps
 xJ: (aP s).length<=2000
theorem rj.part {r hs:List aI} {s:List aA} {u:Nat->Nat} {ps:List (List aA)} (h:rj r hs s u ps) {p:List aA} (hp:p∈ps):dU (p.map bN)/\(aP p).length<=2000/\∀q∈aP p,eM q=true/\q.X0<q.X1/\q.Y0<q.Y1:=by
 obtain⟨sx,sy⟩:=h.dr.small h.k1 h.k2
 obtain⟨j,k,g1,g2,g3,g4⟩:=w6 h.pt h.dr.can h.dr.lim sx sy hp
 have:=yj h.dr.can g3.can (fun x hx=>by
  obtain⟨i,_,_,hi⟩:=mR.1 hx
  exact fz hi) g3.cover
 have h2:=wV (aP s) (aP s).length u k
 have:=h.xJ
 exact⟨g3.can,by omega,FZ h.r1 h.r2 g3.can g4⟩
theorem rj.bZ {r hs:List aI} {s:List aA} {u:Nat->Nat} {ps:List (List aA)} (h:rj r hs s u ps): ∀i,i< (aP s).length->u i∈Gk.bZ (aP s).length u:=fun i hi=>iN.2 ⟨by have:=h.pt.join.le i hi;omega,h.pt.join.rr i hi⟩
theorem rj.total {r hs:List aI} {s:List aA} {u:Nat->Nat} {ps:List (List aA)} (h:rj r hs s u ps): (ps.map (fun p=>(aP p).length)).sum<=(aP s).length:=by
 have h1:=FY h.bZ (fun _=>1)
 have one: ∀l:List aI,(l.map (fun _=>1)).sum=l.length:=fun l=>by
  induction l with
  | nil=>rfl
  | cons x l ih=>simp only [dG,List.sum_cons,ih,f0];omega
 simp only [one] at h1
 rw [<-h1]
 refine xg (by simp [h.pt.len]) fun j x y hx hy=>?_
 rw [eJ,Option.map_eq_some_iff] at hx hy
 obtain⟨p,hp,rfl⟩:=hx
 obtain⟨k,hk,rfl⟩:=hy
 have hs:=h.pt.each j k p hk hp
 exact yj h.dr.can hs.can (fun x hx=>by
  obtain⟨i,_,_,hi⟩:=mR.1 hx
  exact fz hi) hs.cover
theorem AH {ps:List (List aA)} {x y:Int}:xD (ps.flatMap aP) x y=true↔∃p∈ps,xD (aP p) x y=true:=by
 rw [jF]
 constructor
 ·rintro⟨r,hr,h⟩
  obtain⟨p,hp,hrp⟩:=List.mem_flatMap.1 hr
  exact⟨p,hp,jF.2 ⟨r,hrp,h⟩⟩
 ·rintro⟨p,hp,h⟩
  obtain⟨r,hr,h⟩:=jF.1 h
  exact⟨r,List.mem_flatMap.2 ⟨p,hp,hr⟩,h⟩
theorem rj.cover {r hs:List aI} {s:List aA} {u:Nat->Nat} {ps:List (List aA)} (h:rj r hs s u ps) (x y:Int):xD (ps.flatMap aP) x y=tX (s.map bN) x y:=by
 rw [<-pr h.dr.can,fD,AH]
 constructor
 ·rintro⟨p,hp,hc⟩
  obtain⟨j,hj⟩:=eO hp
  have hjl:=(aY.1 hj).1
  have hk: (Gk.bZ (aP s).length u)[j]? =some ((Gk.bZ (aP s).length u)[j]'(by rw [<-h.pt.len];exact hjl)):=aK _
  have hs:=h.pt.each j _ _ hk hj
  rw [pr hs.can,hs.cover] at hc
  obtain⟨q,hq,h2⟩:=jF.1 hc
  obtain⟨i,_,_,hi⟩:=mR.1 hq
  exact jF.2 ⟨q,fz hi,h2⟩
 ·intro hc
  obtain⟨q,hq,h2⟩:=jF.1 hc
  obtain⟨i,hi⟩:=eO hq
  have hil:=(aY.1 hi).1
  obtain⟨j,hj⟩:=eO (h.bZ i hil)
  have hjl:j<ps.length:=by rw [h.pt.len];exact(aY.1 hj).1
  have hs:=h.pt.each j _ _ hj (aK hjl)
  refine⟨_,cM hjl,?_⟩
  rw [pr hs.can,hs.cover]
  exact jF.2 ⟨q,mR.2 ⟨i,hil,rfl,hi⟩,h2⟩
theorem F0 {l:List aI} (h:i6 l=0) (hN:4398046511104<=N):nO N l=some (AD l,0):=by
 have hl:=(BD (rf.1 h).1).1
 unfold nO
 rw [n9 (by omega) hN,aB,h,show ((0:Int) != 0)=false by rfl,aV,DA (by omega),aB]
section
variable {a:iW} {kb:List (List aA)} {bP:List (List (List aA))} {r:Nat->Nat} {gs:List cU} {ofP ofB jI:List Int} {jH:List bE}
end
end
end Go.Gk
namespace Go.Gk
open Go Classical
def zc (f:Int->Int->Bool) (x y:Int):Prop:=f x y=true/\∀x' y',f x' y'=true->y<y'\/(y=y'/\x<=x')
theorem zc.unique {f:Int->Int->Bool} {x y x' y':Int} (h:zc f x y) (h':zc f x' y'):x=x'/\y=y':=by
 have h1:=h.2 _ _ h'.1
 have h2:=h'.2 _ _ h.1
 omega
section
variable {N:Nat}
structure BI (all:List aI) (u:Nat->Nat) (i:Nat) (q:List Nat) (done:List Bool) (own:List aI):Prop where
 len:done.length=all.length
 nd:q.Nodup
 lt: ∀k∈q,k<all.length/\u k=i
 hd:i∈q
 dn: ∀k,k<all.length->done[k]? =some (decide (u k<i\/k∈q))
 ow:own.map some=q.map (fun k=>all[k]?)
theorem BI.xJ {all:List aI} {u:Nat->Nat} {i:Nat} {q:List Nat} {done:List Bool} {own:List aI} (h:BI all u i q done own):q.length<=all.length:=by
 have:=dQ h.nd (m:=List.range all.length) (fun k hk=>by rw [lI];exact(h.lt k hk).1)
 rwa [List.length_range] at this
theorem BI.at_ {all:List aI} {u:Nat->Nat} {i:Nat} {q:List Nat} {done:List Bool} {own:List aI} (h:BI all u i q done own) {p k:Nat} (hk:q[p]? =some k):own[p]? =all[k]? :=by
 have e:=congrArg (fun l=>l[p]?) h.ow
 simp only [eJ,hk,Option.map_some] at e
 cases ho:own[p]? with
 | none=>rw [ho] at e;cases e
 | some x=>rw [ho] at e;injection e
theorem BI.mem {all:List aI} {u:Nat->Nat} {i:Nat} {q:List Nat} {done:List Bool} {own:List aI} (h:BI all u i q done own) {r:aI}:r∈own↔∃k∈q,all[k]? =some r:=by
 have:r∈own↔some r∈own.map some:=by simp
 rw [this,h.ow,cI]
end
end Go.Gk
namespace Go.Gk
open Go Classical
section
variable {α β:Type}
theorem EW {N:Nat} {l:List α} {s:β} {φ:α->β->Option Int} (c:α->Int) (hφ: ∀x,φ x s=some (c x)) (hs: ∀(i j:Nat) (x y:α),i<j->l[i]? =some x->l[j]? =some y->0<=c x->0<c y)
  (hl:l.length<=1048576) (hN:4194304<=N): ∃r,Ep N l s φ=some r/\r.2=l.any (fun x=>c x==0)/\(r.2=true->r.1=Ch l (fun x=>c x==0)):=by
 show Ok (Ep N l s φ) (fun r=>r.2=l.any (fun x=>c x==0)/\(r.2=true->r.1=Ch l (fun x=>c x==0)))
 unfold Ep
 refine Ok.bind (Ok.mm (Go:=fun st:Int×Int=>∃a:Nat,st.1= ((a:Nat):Int)/\a<=l.length/\(∀j x,j<a->l[j]? =some x->c x<0)/\(∀j x,a<=j->l[j]? =some x->0<=c x)) (Rt:=fun _=>True)
  (fun st=>∃a b:Nat,st= (((a:Nat):Int),((b:Nat):Int))/\a<=b/\b<=l.length/\(∀j x,j<a->l[j]? =some x->c x<0)/\(∀j x,b<=j->l[j]? =some x->0<=c x))
  (fun st=>(st.2 - st.1).toNat) ?_ ⟨0,l.length,rfl,by omega,bI _,fun j x hj=>by omega,fun j x hj hx=>by have:=(aY.1 hx).1;omega⟩ (by simp only;omega)) ?_
 ·rintro st ⟨a,b,rfl,hab,hb,h1,h2⟩
  dsimp only
  by_cases hlt:a<b
  ·have hm: (a+b) / 2<l.length:=by omega
   have hx:l[(a+b) / 2]? =some l[(a+b) / 2]:=aK hm
   rw [show decide (((a:Nat):Int)< ((b:Nat):Int))=true by rw [bT];omega,aS,x8 hlt (by omega:b<=4611686018427387904)]
   refine Ok.ix hx (Ok.eq (hφ _) ?_)
   by_cases hc:c l[(a+b) / 2]<0
   ·rw [cE hc,aS,aB]
    refine Ok.nx ⟨⟨(a+b) / 2+1,b,?_,by omega,hb,fun j x hj hx'=>?_,h2⟩,?_⟩
    ·rw [gQ (by omega)]
    ·by_cases e:j= (a+b) / 2
     ·subst e;rw [hx] at hx';injection hx' with hx';rw [<-hx'];exact hc
     ·by_cases h0:c x<0
      ·exact h0
      ·have:=hs j _ x _ (by omega) hx' hx (by omega)
       omega
    ·rw [gQ (by omega)];simp only;omega
   ·rw [bG hc,aV,aB]
    refine Ok.nx ⟨⟨a,(a+b) / 2,rfl,by omega,by omega,h1,fun j x hj hx'=>?_⟩,by simp only;omega⟩
    by_cases e:j= (a+b) / 2
    ·subst e;rw [hx] at hx';injection hx' with hx';rw [<-hx'];omega
    ·have:=hs _ j _ x (by omega) hx hx' (by omega)
     omega
  ·rw [show decide (((a:Nat):Int)< ((b:Nat):Int))=false by rw [decide_eq_false_iff_not];omega,aV]
   exact Ok.br ⟨a,rfl,by omega,h1,fun j x hj hx=>h2 j x (by omega) hx⟩
 intro o ho
 refine Ok.cs ho ?_ (fun r hr=>r.elim)
 rintro⟨st1,st2⟩ ⟨a,ha,hle,h1,h2⟩
 dsimp only at ha ⊢
 subst ha
 by_cases hlt:a<l.length
 ·have hx:l[a]? =some l[a]:=aK hlt
  rw [show decide (((a:Nat):Int)< ((l.length:Nat):Int))=true by rw [bT];omega,aS,eU hx,aB,hφ,aB,aB]
  refine Ok.ret ?_
  by_cases he:c l[a]=0
  ·have hb: (c l[a]==0)=true:=by rw [beq_iff_eq];exact he
   rw [hb]
   refine⟨(ky.2 ⟨_,cM hlt,hb⟩).symm,fun _=>?_⟩
   rw [En hx hb (fun j y hj hy=>by have:=h1 j y hj hy;rw [beq_eq_false_iff_ne];omega)]
  ·have hb: (c l[a]==0)=false:=by rw [beq_eq_false_iff_ne];exact he
   rw [hb]
   refine⟨?_,fun h=>by cases h⟩
   symm
   rw [List.any_eq_false]
   intro x hx'
   obtain⟨j,hj⟩:=eO hx'
   rw [nj,beq_eq_false_iff_ne]
   by_cases hja:j<a
   ·have:=h1 j x hja hj;omega
   ·by_cases e:j=a
    ·subst e;rw [hx] at hj;injection hj with hj;rw [<-hj];exact he
    ·have h3:=h2 a _ (bI _) hx
     have:=hs a j _ x (by omega) hx hj h3
     omega
 ·rw [show decide (((a:Nat):Int)< ((l.length:Nat):Int))=false by rw [decide_eq_false_iff_not];omega,aV,aB]
  refine Ok.ret ⟨?_,fun h=>by cases h⟩
  symm
  rw [List.any_eq_false]
  intro x hx'
  obtain⟨j,hj⟩:=eO hx'
  have:=(aY.1 hj).1
  have:=h1 j x (by omega) hj
  rw [nj,beq_eq_false_iff_ne];omega
end
def vN (p q:fX):Prop:=dK.lt p.Part q.Part\/(p.Part=q.Part/\dK.lt p.fX q.fX)
theorem Cz {p q:fX} (h1:p.Part=q.Part) (h2:p.fX=q.fX):p=q:=by cases p;cases q;simp at h1 h2;subst h1;subst h2;rfl
theorem vN.irrefl (p:fX): ¬vN p p:=fun h=>by
 rcases h with h | ⟨_,h⟩
 ·exact dK.lt_irrefl _ h
 ·exact dK.lt_irrefl _ h
theorem vN.trans {p q r:fX} (h1:vN p q) (h2:vN q r):vN p r:=by
 rcases h1 with h1 | ⟨e1,h1⟩ <;> rcases h2 with h2 | ⟨e2,h2⟩
 ·exact .inl (dK.lt_trans h1 h2)
 ·exact .inl (by rw [<-e2];exact h1)
 ·exact .inl (by rw [e1];exact h2)
 ·exact .inr ⟨e1.trans e2,dK.lt_trans h1 h2⟩
theorem vN.total (p q:fX):vN p q\/p=q\/vN q p:=by
 rcases dK.Ai p.Part q.Part with h | h | h
 ·exact .inl (.inl h)
 ·rcases dK.Ai p.fX q.fX with h' | h' | h'
  ·exact .inl (.inr ⟨h,h'⟩)
  ·exact .inr (.inl (Cz h h'))
  ·exact .inr (.inr (.inr ⟨h.symm,h'⟩))
 ·exact .inr (.inr (.inl h))
theorem vN.asymm {p q:fX} (h:vN p q): ¬vN q p:=fun h'=>vN.irrefl p (h.trans h')
theorem vN.ne {p q:fX} (h:vN p q):p≠q:=fun e=>by subst e;exact vN.irrefl _ h
theorem pz {a b:dK}:Lib.compareBytes a.cN b.cN=0↔a=b:=⟨fun h=>dK.ext' ((sK _ _).1 h),fun h=>(sK _ _).2 (by rw [h])⟩
theorem nE {p q:fX}:iV p q=0↔p=q:=by
 unfold iV
 by_cases h:Lib.compareBytes p.Part.cN q.Part.cN=0
 ·rw [aC (by simpa using h),pz]
  exact⟨fun h'=>Cz (pz.1 h) h',fun h'=>by rw [h']⟩
 ·rw [aD h]
  exact⟨fun h'=>absurd h' h,fun h'=>absurd (pz.2 (by rw [h'])) h⟩
theorem xh {p q:fX}:iV p q<0↔vN p q:=by
 unfold iV vN
 by_cases h:Lib.compareBytes p.Part.cN q.Part.cN=0
 ·rw [aC (by simpa using h),sJ]
  have e:=pz.1 h
  constructor
  ·exact fun h'=> .inr ⟨e,h'⟩
  ·rintro(h' | ⟨_,h'⟩)
   ·rw [e] at h';exact absurd h' (dK.lt_irrefl _)
   ·exact h'
 ·rw [aD h,sJ]
  constructor
  ·exact fun h'=> .inl h'
  ·rintro(h' | ⟨e,_⟩)
   ·exact h'
   ·exact absurd (pz.2 e) h
theorem s8 {p q:fX}:0<iV p q↔vN q p:=by
 constructor
 ·intro h
  rcases vN.total p q with h' | h' | h'
  ·have:=xh.2 h';omega
  ·have:=nE.2 h';omega
  ·exact h'
 ·intro h
  by_cases h1:iV p q<0
  ·exact absurd (xh.1 h1) h.asymm
  ·by_cases h2:iV p q=0
   ·exact absurd (nE.1 h2).symm h.ne
   ·omega
section
variable {N:Nat}
structure BN (a:iW) (x:dL):Prop where
 name:oS x.Part=true/\isWord x.fX=true
 IF:0<=x.eQ/\x.eQ< ((a.aN.length:Nat):Int)
 at_:sm x.At=true
structure pA (a:iW):Prop where
 xJ:a.bD.length<=1000
 each: ∀x∈a.bD,BN a x
 up:a.bD.Pairwise (fun x y=>vN (kP x) (kP y))
theorem zd {a:iW} {k:Nat} {x:dL} (hx:a.bD[k]? =some x) (h:l9 a k=none):BN a x/\∀y,0<k->a.bD[k - 1]? =some y->vN (kP y) (kP x):=by
 unfold l9 at h
 rw [hx,Option.bind_some] at h
 split at h
 ·rename_i h1
  split at h
  ·rename_i h2
   split at h
   ·cases h
   ·rename_i h3
    rw [bV] at h1 h2
    unfold gV at h2
    rw [bV,bT,bT] at h2
    refine⟨⟨h1,⟨by omega,by omega⟩,h2.2⟩,fun y hk hy=>?_⟩
    have h4: ¬iV (kP x) (kP y)<=0:=fun h4=>h3 ⟨hk,y,hy,h4⟩
    exact s8.1 (by omega)
  ·cases h
 ·cases h
theorem BO {a:iW} {k:Nat} {e:Int} (h:l9 a k=some e):e≠0:=by
 unfold l9 at h
 cases hx:a.bD[k]? with
 | none=>rw [hx] at h;cases h
 | some x=>
  rw [hx,Option.bind_some] at h
  repeat' split at h
  all_goals first | (injection h with h;omega) | cases h
theorem DD {a:iW} (h:ma a=0):pA a:=by
 unfold ma at h
 split at h
 ·omega
 rename_i hl
 have hn:qH a.bD.length (l9 a)=none:=by
  cases hf:qH a.bD.length (l9 a) with
  | none=>rfl
  | some e=>
   rw [hf] at h
   obtain⟨k,_,hk,_⟩:=mx.1 hf
   exact absurd h (BO hk)
 rw [kJ] at hn
 have hg: ∀(k:Nat) x,a.bD[k]? =some x->BN a x/\∀y,0<k->a.bD[k - 1]? =some y->vN (kP y) (kP x):=fun k x hx=>zd hx (hn k (aY.1 hx).1)
 refine⟨by omega,fun x hx=>?_,?_⟩
 ·obtain⟨k,hk⟩:=eO hx
  exact(hg k x hk).1
 ·have hstep: ∀(n i:Nat) x y,a.bD[i]? =some x->a.bD[i+n+1]? =some y->vN (kP x) (kP y):=by
   intro n
   induction n with
   | zero=>intro i x y hx hy;exact(hg (i+1) y hy).2 x (by omega) hx
   | succ n ih=>
    intro i x y hx hy
    have hz:i+n+1<a.bD.length:=by have:=(aY.1 hy).1;omega
    have h1:=ih i x _ hx (aK hz)
    exact h1.trans ((hg (i+ (n+1)+1) y hy).2 _ (by omega) (by rw [show i+ (n+1)+1 - 1=i+n+1 by omega];exact aK hz))
  rw [lK]
  intro i j hi hj hij
  exact hstep (j - i - 1) i _ _ (aK hi) (by rw [show i+ (j - i - 1)+1=j by omega];exact aK hj)
theorem pA.inj {a:iW} (h:pA a) {i j:Nat} {x y:dL} (hx:a.bD[i]? =some x) (hy:a.bD[j]? =some y) (e:kP x=kP y):i=j:=by
 obtain⟨h1,rfl⟩:=aY.1 hx
 obtain⟨h2,rfl⟩:=aY.1 hy
 have hp:=lK.1 h.up
 rcases Nat.lt_trichotomy i j with h3 | h3 | h3
 ·exact absurd e (hp i j h1 h2 h3).ne
 ·exact h3
 ·exact absurd e.symm (hp j i h2 h1 h3).ne
theorem AJ {l:List dL} {p:fX} (hu:l.Pairwise (fun x y=>vN (kP x) (kP y))) (hl:l.length<=1048576) (hN:4194304<=N) {φ:dL->fX->Option Int} (hφ: ∀x,φ x p=some (iV (kP x) p)):
  ∃r,Ep N l p φ=some r/\(bif (!r.2) then (some (-1)) else (some r.1))=some (Ch l (fun x=>decide (kP x=p))):=by
 obtain⟨r,h1,h2,h3⟩:=EW (N:=N) (l:=l) (s:=p) (φ:=φ) (fun x=>iV (kP x) p) hφ (fun i j x y hij hx hy hc=>by
  obtain⟨g1,rfl⟩:=aY.1 hx
  obtain⟨g2,rfl⟩:=aY.1 hy
  have hlt:=lK.1 hu i j g1 g2 hij
  refine s8.2 ?_
  by_cases h0:iV (kP l[i]) p=0
  ·rw [<-nE.1 h0];exact hlt
  ·exact(s8.1 (by omega)).trans hlt) hl hN
 have e: (fun x=>iV (kP x) p==0)= (fun x=>decide (kP x=p)):=by
  funext x
  rw [fD,beq_iff_eq,bT,nE]
 rw [e] at h2 h3
 refine⟨r,h1,?_⟩
 cases hr:r.2 with
 | true=>simp only [j5,aV];rw [h3 hr]
 | false=>
  simp only [lk,aS]
  rw [hr] at h2
  rw [Em h2.symm]
def ml (a:iW) (p:fX):Int:=Ch a.bD (fun x=>decide (kP x=p))
theorem lF (a:iW) (p:fX): (ml a p = -1/\∀x∈a.bD,kP x≠p)\/∃(k:Nat) (x:dL),ml a p= ((k:Nat):Int)/\a.bD[k]? =some x/\kP x=p:=by
 rcases rC a.bD (fun x=>decide (kP x=p)) with ⟨h1,h2⟩ | ⟨k,x,h1,h2,h3,_⟩
 ·exact .inl ⟨h1,fun x hx=>of_decide_eq_false (h2 x hx)⟩
 ·exact .inr ⟨k,x,h1,h2,of_decide_eq_true h3⟩
end
end Go.Gk
namespace Go.Gk
open Go Classical
section
variable {N:Nat}
end
end Go.Gk
namespace Go.Gk
open Go Classical
theorem EX {l:List Nat} (h:l.Pairwise (· < ·)):kR (ints l):=by
 unfold kR ints
 rw [List.pairwise_map]
 exact h.imp fun h=>by omega
section
variable {N:Nat}
end
section
variable {N:Nat} {a:iW} {kb:List (List aA)} {bP:List (List (List aA))} {r:Nat->Nat} {gs:List cU} {ofP ofB jI:List Int} {jH:List bE}
end
end Go.Gk
namespace Go.Gk
open Go Classical
structure PS (n:Nat) (r:Nat->Nat) (h:Nat) (q:List Nat) (seen:List Bool) (pieces todo:List Int):Prop where
 sl:seen.length=n
 sn: ∀p,p<n->seen[p]? =some (decide (r p<h\/p∈q))
 qn:q.Nodup
 qi: ∀p∈q,p<n/\r p=h
 q0:h∈q
 td:todo=ints q
 pi:kR pieces
 pm: ∀x,x∈pieces↔∃p∈q,x= ((p:Nat):Int)
structure QS (n m:Nat) (tch:List (List Int)) (r:Nat->Nat) (h:Nat) (q qb:List Nat) (um:List Int) (used:List Bool):Prop where
 ul:used.length=m
 un: ∀k,k<m->used[k]? =some (decide (k∈qb))
 bi:kR um
 bm: ∀x,x∈um↔∃k∈qb,x= ((k:Nat):Int)
 bk: ∀k∈qb,k<m/\r (n+k)=h/\∀l,tch[k]? =some l->∀p:Nat,((p:Nat):Int)∈l->p∈q
theorem PS.xJ {n:Nat} {r:Nat->Nat} {h:Nat} {q:List Nat} {seen:List Bool} {pieces todo:List Int} (H:PS n r h q seen pieces todo):q.length<=n/\pieces.length<=n:=by
 have h1:=dQ H.qn (m:=List.range n) (fun k hk=>by rw [lI];exact(H.qi k hk).1)
 rw [List.length_range] at h1
 have h2:=dQ H.pi.nodup (m:=ints q) (fun x hx=>w7.2 ((H.pm x).1 hx))
 rw [lf] at h2
 exact⟨h1,by omega⟩
theorem QS.xJ {n m:Nat} {tch:List (List Int)} {r:Nat->Nat} {h:Nat} {q qb:List Nat} {um:List Int} {used:List Bool} (H:QS n m tch r h q qb um used):um.length<=m:=by
 have h2:=dQ H.bi.nodup (m:=ints (List.range m)) (fun x hx=>by
  obtain⟨k,hk,e⟩:=(H.bm x).1 hx
  exact w7.2 ⟨k,lI.2 (H.bk k hk).1,e⟩)
 rwa [lf,List.length_range] at h2
section
variable {N:Nat}
end
end Go.Gk
namespace Go.Gk
open Go Classical
structure KJ (G G':List cU):Prop where
 len:G'.length=G.length
 each: ∀(g:Nat) x,G[g]? =some x->∃y,G'[g]? =some y/\y.mW=x.mW/\y.aL=x.aL
section
variable {N:Nat}
theorem EY {bs:List bW} {pcs:List aH}: ∀(k:Nat) l,(cK bs pcs)[k]? =some l->l≠[]->sZ bs k=true:=fun k l hl hne=>by
 unfold cK at hl
 rw [eJ,Option.map_eq_some_iff] at hl
 obtain⟨b,hb,rfl⟩:=hl
 unfold sZ
 rw [hb]
 cases hp:b.gD with
 | true=>simpa using hp
 | false=>
  exfalso
  refine hne ?_
  have:py (jL b) pcs pcs.length= []:=by
   unfold py
   rw [List.filter_eq_nil_iff]
   intro j _
   rw [nj,Option.any_eq_false]
   intro p _
   unfold jL;rw [hp];rfl
  rw [this];rfl
end
section
variable {N:Nat} {a:iW} {kb:List (List aA)} {bP:List (List (List aA))} {r:Nat->Nat} {gs:List cU} {ofP ofB jI:List Int} {jH:List bE}
theorem jY.yi (b:jY a kb bP r gs ofP ofB jI jH):pA a:=DD b.EU.yi
end
end Go.Gk
namespace Go.Gk
open Go Classical
section
variable {N:Nat} {a:iW} {kb:List (List aA)} {bP:List (List (List aA))} {r:Nat->Nat} {gs:List cU} {ofP ofB jI:List Int} {jH:List bE}
end
section
variable {N:Nat}
end
end Go.Gk
namespace Go.Gk
open Go Classical
section
variable {bs:List bW} {ls:List dL} {pcs:List aH} {r:Nat->Nat} {gs:List cU} {ofP ofB jI:List Int} {jH:List bE}
end
section
variable {N:Nat} {a:iW} {kb:List (List aA)} {bP:List (List (List aA))} {r:Nat->Nat} {gs:List cU} {ofP ofB jI:List Int} {jH:List bE}
end
section
variable {N:Nat}
end
end Go.Gk
namespace Go.Gk
open Go Classical
section
variable {N:Nat} {a:iW} {kb:List (List aA)} {bP:List (List (List aA))} {r:Nat->Nat} {gs:List cU} {ofP ofB jI:List Int} {jH:List bE}
theorem vn (g:pA a) (p:fX) (hN:4398046511104<=N):gL N a p=some (ml a p):=by
 obtain⟨r,h1,h2⟩:=AJ (N:=N) (p:=p) g.up (by have:=g.xJ;omega) (by omega) (φ:=gE N) (fun x=>by unfold gE;rw [vg,aB,qe,aB])
 unfold gL
 have e:eL N a.bD p (gE N)=Ep N a.bD p (gE N):=rfl
 rw [e,h1,aB];exact h2
end
section
variable {N:Nat}
end
end Go.Gk
namespace Go.Gk
open Go Classical
structure nF (A:Nat->Nat->Prop) (s:Nat) (F:Nat->Option Nat):Prop where
 zero:F s=some 0
 DH: ∀v,F v=some 0->v=s
 back: ∀v d,F v=some (d+1)->∃u,A u v/\F u=some d
 step: ∀u v d,A u v->F u=some d->∃e,F v=some e/\e<=d+1
section
variable {A:Nat->Nat->Prop} {s:Nat} {F G:Nat->Option Nat}
theorem nF.le (hF:nF A s F) (hG:nF A s G): ∀(d v:Nat),F v=some d->∃e,G v=some e/\e<=d
 | 0,v,h=>⟨0,by rw [hF.DH v h];exact hG.zero,bI _⟩
 | d+1,v,h=>by
  obtain⟨u,h1,h2⟩:=hF.back v d h
  obtain⟨e,h3,h4⟩:=nF.le hF hG d u h2
  obtain⟨e',h5,h6⟩:=hG.step u v e h1 h3
  exact⟨e',h5,by omega⟩
theorem nF.uniq (hF:nF A s F) (hG:nF A s G):F=G:=funext fun v=>by
 cases hf:F v with
 | none=>
  cases hg:G v with
  | none=>rfl
  | some e=>
   obtain⟨e',h1,_⟩:=hG.le hF e v hg
   rw [hf] at h1;cases h1
 | some d=>
  obtain⟨e,h1,h2⟩:=hF.le hG d v hf
  obtain⟨e',h3,h4⟩:=hG.le hF e v h1
  rw [hf] at h3;injection h3 with h3
  rw [h1];congr 1;omega
theorem nF.reach (hF:nF A s F) (v:Nat):F v≠none↔∀S:Nat->Prop,S s->(∀a b,A a b->S a->S b)->S v:=by
 constructor
 ·intro h S h0 hS
  have key: ∀(d v:Nat),F v=some d->S v:=by
   intro d
   induction d with
   | zero=>intro v hv;rw [hF.DH v hv];exact h0
   | succ d ih=>
    intro v hv
    obtain⟨u,h1,h2⟩:=hF.back v d hv
    exact hS u v h1 (ih u h2)
  cases hv:F v with
  | none=>exact absurd hv h
  | some d=>exact key d v hv
 ·intro h
  refine h (fun x=>F x≠none) (by rw [hF.zero];exact fun h=>by cases h) (fun a b hab ha=>?_)
  cases hv:F a with
  | none=>exact absurd hv ha
  | some d=>
   obtain⟨e,h1,_⟩:=hF.step a b d hab hv
   rw [h1];exact fun h=>by cases h
end
def vA (adj:Nat->List Nat) (F:Nat->Option Nat) (d h:Nat):Nat:=((adj h).find? (fun n=>decide (F n=some d))).getD 0
def oV (adj:Nat->List Nat) (F:Nat->Option Nat):Nat->Nat->List Nat
 | 0,h=>[h]
 | d+1,h=>h::oV adj F d (vA adj F d h)
section
variable {A:Nat->Nat->Prop} {adj:Nat->List Nat} {s:Nat} {F:Nat->Option Nat}
theorem uv (hF:nF A s F) (hA: ∀u v,A u v->u∈adj v) {d h:Nat} (e:F h=some (d+1)):vA adj F d h∈adj h/\F (vA adj F d h)=some d/\(adj h).find? (fun n=>decide (F n=some d))=some (vA adj F d h):=by
 obtain⟨u,h1,h2⟩:=hF.back h d e
 unfold vA
 cases hf: (adj h).find? (fun n=>decide (F n=some d)) with
 | none=>
  have:=List.find?_eq_none.1 hf u (hA u h h1)
  simp [h2] at this
 | some n=>
  rw [Option.getD_some]
  exact⟨List.mem_of_find?_eq_some hf,by simpa using List.find?_some hf,rfl⟩
theorem rk: ∀(d h:Nat),(oV adj F d h).length=d+1
 | 0,h=>rfl
 | d+1,h=>by unfold oV;rw [f0,rk d]
theorem CA (hF:nF A s F) (hA: ∀u v,A u v->u∈adj v): ∀(d h:Nat),F h=some d->∀(i x:Nat),(oV adj F d h)[i]? =some x->i<=d/\F x=some (d - i)
 | 0,h,e,i,x,hx=>by
  have hi:i=0:=by have:=(aY.1 hx).1;rw [rk] at this;omega
  subst hi
  have:x=h:=by simpa [oV] using hx.symm
  subst this;exact⟨bI _,e⟩
 | d+1,h,e,i,x,hx=>by
  unfold oV at hx
  cases i with
  | zero=>
   have:x=h:=by simpa using hx.symm
   subst this;exact⟨by omega,e⟩
  | succ i=>
   rw [List.getElem?_cons_succ] at hx
   obtain⟨h1,h2⟩:=CA hF hA d _ (uv hF hA e).2.1 i x hx
   exact⟨by omega,by rw [h2];congr 1;omega⟩
theorem yk (d h:Nat): (oV adj F d h)[0]? =some h:=by cases d <;> rfl
theorem AK (hF:nF A s F) (hA: ∀u v,A u v->u∈adj v): ∀(d h:Nat),F h=some d->∀(i x y:Nat),(oV adj F d h)[i]? =some x->(oV adj F d h)[i+1]? =some y->y∈adj x
 | 0,h,e,i,x,y,hx,hy=>by
  have:=(aY.1 hy).1
  rw [rk] at this;omega
 | d+1,h,e,i,x,y,hx,hy=>by
  unfold oV at hx hy
  rw [List.getElem?_cons_succ] at hy
  cases i with
  | zero=>
   have:x=h:=by simpa using hx.symm
   subst this
   rw [yk] at hy;injection hy with hy
   subst hy;exact(uv hF hA e).1
  | succ i=>
   rw [List.getElem?_cons_succ] at hx
   exact AK hF hA d _ (uv hF hA e).2.1 i x y hx hy
end
structure BQ (A:Nat->Nat->Prop) (s t:Nat) (F:Nat->Option Nat) (ord:List Nat) (p:Nat):Prop where
 mem: ∀v,F v≠none↔v∈ord
 nd:ord.Nodup
 lt: ∀v∈ord,v<t
 zero:F s=some 0
 DH: ∀v,F v=some 0->v=s
 back: ∀v d,F v=some (d+1)->∃u,A u v/\F u=some d
 fin: ∀(j u:Nat),j<p->ord[j]? =some u->∀v d,A u v->F u=some d->∃e,F v=some e/\e<=d+1
 up: ∀(i j u v:Nat),i<=j->ord[i]? =some u->ord[j]? =some v->∀d e,F u=some d->F v=some e->d<=e
 F1: ∀u d,ord[p]? =some u->F u=some d->∀v e,F v=some e->e<=d+1
section
variable {A:Nat->Nat->Prop} {s t p:Nat} {F:Nat->Option Nat} {ord:List Nat}
theorem AL {l:List Nat} (h:l.Nodup) {t:Nat} (hl: ∀v∈l,v<t):l.length<=t:=by
 have:=dQ h (m:=List.range t) (fun v hv=>lI.2 (hl v hv))
 rwa [List.length_range] at this
theorem BQ.len (h:BQ A s t F ord p):ord.length<=t:=AL h.nd h.lt
theorem BQ.start (A:Nat->Nat->Prop) {s t:Nat} (hs:s<t):BQ A s t (fun x=>if x=s then some 0 else none) [s] 0 where
 mem:=fun v=>by
  by_cases e:v=s
  ·simp [e]
  ·simp [e]
 nd:=by simp
 lt:=fun v hv=>by simp at hv;omega
 zero:=aD rfl
 DH:=fun v hv=>by
  by_cases e:v=s
  ·exact e
  ·simp [e] at hv
 back:=fun v d hv=>by
  by_cases e:v=s
  ·simp [e] at hv
  ·simp [e] at hv
 fin:=fun j u hj=>by omega
 up:=fun i j u v hij hu hv d e hd he=>by
  by_cases e1:u=s
  ·simp [e1] at hd;omega
  ·simp [e1] at hd
 F1:=fun u d hu hd v e he=>by
  by_cases e1:v=s
  ·simp [e1] at he;omega
  ·simp [e1] at he
theorem BQ.push (h:BQ A s t F ord p) {u v d:Nat} (hu:ord[p]? =some u) (hd:F u=some d) (hv:A u v) (hvt:v<t) (hn:F v=none):BQ A s t (fun x=>if x=v then some (d+1) else F x) (ord++[v]) p:=by
 have hvo:v∉ord:=fun hm=>absurd hn ((h.mem v).2 hm)
 have ne: ∀{x e:Nat},F x=some e->x≠v:=fun{x e} hx hxv=>by rw [hxv,hn] at hx;cases hx
 have hold: ∀{i x:Nat},i<ord.length->(ord++[v])[i]? =some x->ord[i]? =some x:=fun{i x} hi hx=>by rwa [eX hi] at hx
 have hpl:=(aY.1 hu).1
 have hmax: ∀{x e:Nat},F x=some e->e<=d+1:=fun{x e} hx=>h.F1 u d hu hd x e hx
 refine⟨fun x=>?_,?_,fun x hx=>?_,?_,fun x hx=>?_,fun x e hx=>?_,fun j x hj hx y e hxy he=>?_,fun i j x y hij hx hy a b ha hb=>?_,fun x e hx he y a ha=>?_⟩
 ·rw [cQ,lJ,<-h.mem]
  by_cases e:x=v
  ·simp [e]
  ·simp [e]
 ·rw [List.nodup_append]
  exact⟨h.nd,by simp,fun a ha b hb=>by rw [lJ] at hb;subst hb;exact fun e=>hvo (e▸ha)⟩
 ·rcases cQ.1 hx with hx | hx
  ·exact h.lt x hx
  ·rw [lJ] at hx;omega
 ·rw [aC (ne h.zero)];exact h.zero
 ·by_cases e:x=v
  ·rw [aD e] at hx;injection hx with hx;omega
  ·rw [aC e] at hx;exact h.DH x hx
 ·by_cases e1:x=v
  ·rw [aD e1] at hx;injection hx with hx
   have:e=d:=by omega
   subst this
   exact⟨u,e1▸hv,by rw [aC (ne hd)];exact hd⟩
  ·rw [aC e1] at hx
   obtain⟨y,h1,h2⟩:=h.back x e hx
   exact⟨y,h1,by rw [aC (ne h2)];exact h2⟩
 ·have hx:=hold (by omega) hx
  have hxv:x≠v:=fun e1=>hvo (e1▸fz hx)
  rw [aC hxv] at he
  obtain⟨b,h1,h2⟩:=h.fin j x hj hx y e hxy he
  exact⟨b,by rw [aC (ne h1)];exact h1,h2⟩
 ·by_cases hj:j<ord.length
  ·have hx:=hold (by omega) hx
   have hy:=hold hj hy
   have hxv:x≠v:=fun e1=>hvo (e1▸fz hx)
   have hyv:y≠v:=fun e1=>hvo (e1▸fz hy)
   rw [aC hxv] at ha
   rw [aC hyv] at hb
   exact h.up i j x y hij hx hy a b ha hb
  ·have hyv:y=v:=by
    rw [eY (by omega)] at hy
    have:j - ord.length=0:=by
     have:=(aY.1 hy).1
     simp at this;omega
    rw [this] at hy;simpa using hy.symm
   rw [aD hyv] at hb;injection hb with hb
   by_cases e1:x=v
   ·rw [aD e1] at ha;injection ha with ha;omega
   ·rw [aC e1] at ha
    have:=hmax ha;omega
 ·have hx:=hold hpl hx
  rw [hu] at hx;injection hx with hx;subst hx
  rw [aC (ne hd),hd] at he;injection he with he;subst he
  by_cases e1:y=v
  ·rw [aD e1] at ha;injection ha with ha;omega
  ·rw [aC e1] at ha;exact hmax ha
theorem BQ.next (h:BQ A s t F ord p) {u d:Nat} (hu:ord[p]? =some u) (hd:F u=some d) (hall: ∀v,A u v->F v≠none):BQ A s t F ord (p+1):=by
 refine⟨h.mem,h.nd,h.lt,h.zero,h.DH,h.back,fun j x hj hx v e hxv he=>?_,h.up,fun x e hx he v b hb=>?_⟩
 ·by_cases e1:j<p
  ·exact h.fin j x e1 hx v e hxv he
  ·have:j=p:=by omega
   subst this
   rw [hu] at hx;injection hx with hx;subst hx
   rw [hd] at he;injection he with he;subst he
   cases hv:F v with
   | none=>exact absurd hv (hall v hxv)
   | some b=>exact⟨b,rfl,h.F1 u d hu hd v b hv⟩
 ·have h1:=h.up p (p+1) u x (by omega) hu hx d e hd he
  have h2:=h.F1 u d hu hd v b hb
  omega
theorem BQ.done (h:BQ A s t F ord p) (hp:ord.length<=p):nF A s F where
 zero:=h.zero
 DH:=h.DH
 back:=h.back
 step:=fun u v d huv hu=>by
  have hm:u∈ord:=(h.mem u).1 (by rw [hu];exact fun e=>by cases e)
  obtain⟨j,hj⟩:=eO hm
  have:=(aY.1 hj).1
  exact h.fin j u (by omega) hj v d huv hu
end
end Go.Gk
namespace Go.Gk
open Go Classical
def bY (n v:Nat):bE:=if v<n then ⟨false,((v:Nat):Int)⟩ else ⟨true,((v - n:Nat):Int)⟩
theorem lG {n u v:Nat} (h:bY n u=bY n v):u=v:=by
 unfold bY at h
 by_cases h1:u<n
 ·by_cases h2:v<n
  ·rw [aD h1,aD h2] at h;injection h with _ h;omega
  ·rw [aD h1,aC h2] at h;injection h with h _;cases h
 ·by_cases h2:v<n
  ·rw [aC h1,aD h2] at h;injection h with h _;cases h
  ·rw [aC h1,aC h2] at h;injection h with _ h;omega
theorem pB {bs:List bW} {n m:Nat} {h:bE} (hh:Az bs n m h):bY n (cJ n h)=h/\cJ n h<n+m:=by
 obtain⟨k,e,h1,h2⟩:=hh.num
 obtain⟨B,q⟩:=h
 dsimp only at e h1 h2
 subst e
 unfold bY cJ
 cases B with
 | true=>
  have:=(h1 rfl).1
  rw [aD rfl,bO,aC (by omega)]
  exact⟨by congr 1;omega,by omega⟩
 | false=>
  have:=h2 rfl
  rw [aC j3,bO,aD this]
  exact⟨rfl,by omega⟩
def eN (n:Nat) (tch:List (List Int)) (v:Nat):List Nat:=if v<n then ((List.range tch.length).filter (fun k=>decide (((v:Nat):Int)∈tch.getD k []))).map (fun k=>n+k) else (tch.getD (v - n) []).map Int.toNat
structure uw (n m:Nat) (tch:List (List Int)):Prop where
 len:tch.length=m
 nb:n<=1000000
 mb:m<=1000000
 inc: ∀l∈tch,kR l
 nat: ∀l∈tch,∀x∈l,∃i:Nat,i<n/\x= ((i:Nat):Int)
 xJ: ∀l∈tch,l.length<=1000000
section
variable {n m:Nat} {tch:List (List Int)}
theorem mF (h:uw n m tch) {u v:Nat}:v∈eN n tch u↔Lk n tch u v\/Lk n tch v u:=by
 unfold eN
 by_cases hu:u<n
 ·rw [aD hu,cI]
  constructor
  ·rintro⟨k,hk,rfl⟩
   obtain⟨h1,h2⟩:=hU.1 hk
   have h1:=lI.1 h1
   rw [bT,List.getD_eq_getElem?_getD,aK h1] at h2
   exact .inl ⟨k,_,aK h1,h2,rfl⟩
  ·rintro(⟨k,l,h1,h2,h3⟩ | ⟨k,l,h1,h2,h3⟩)
   ·refine⟨k,hU.2 ⟨lI.2 (aY.1 h1).1,?_⟩,h3.symm⟩
    rw [bT,List.getD_eq_getElem?_getD,h1];exact h2
   ·omega
 ·rw [aC hu,cI]
  constructor
  ·rintro⟨x,hx,rfl⟩
   rw [List.getD_eq_getElem?_getD] at hx
   cases hl:tch[u - n]? with
   | none=>rw [hl] at hx;cases hx
   | some l=>
    rw [hl] at hx
    obtain⟨i,hi,rfl⟩:=h.nat l (fz hl) x hx
    exact .inr ⟨u - n,l,hl,hx,by omega⟩
  ·rintro(⟨k,l,h1,h2,h3⟩ | ⟨k,l,h1,h2,h3⟩)
   ·obtain⟨i,hi,e⟩:=h.nat l (fz h1) _ h2
    omega
   ·refine⟨((v:Nat):Int),?_,by omega⟩
    rw [List.getD_eq_getElem?_getD,show u - n=k by omega,h1];exact h2
theorem xk (h:uw n m tch) {u v:Nat} (hv:v∈eN n tch u):u∈eN n tch v:=(mF h).2 ((mF h).1 hv).symm
theorem CB (h:uw n m tch) {u v:Nat} (hv:Lk n tch u v):u<n/\n<=v/\v<n+m:=by
 obtain⟨k,l,h1,h2,h3⟩:=hv
 obtain⟨i,hi,e⟩:=h.nat l (fz h1) _ h2
 have:=(aY.1 h1).1
 rw [h.len] at this
 exact⟨by omega,by omega,by omega⟩
theorem G5 (h:uw n m tch) {u v:Nat} (hv:v∈eN n tch u):v<n+m:=by
 rcases (mF h).1 hv with h1 | h1
 ·exact(CB h h1).2.2
 ·have:=(CB h h1).1;omega
theorem CC (h:uw n m tch) (u:Nat): (eN n tch u).length<=1000000:=by
 unfold eN
 split
 ·rw [dC]
  have:=j4 (fun k=>decide (((u:Nat):Int)∈tch.getD k [])) (List.range tch.length)
  rw [List.length_range] at this
  have:=h.len;have:=h.mb;omega
 ·rw [dC,List.getD_eq_getElem?_getD]
  cases hl:tch[u - n]? with
  | none=>simp
  | some l=>exact h.xJ l (fz hl)
end
section
variable {N:Nat}
theorem r9 {l:List Int} {c:Int} (hi:kR l) (hl:l.length<=1000000) (hN:4398046511104<=N):Ok (fS N l c) (fun r=>r.2=decide (c∈l)):=by
 unfold fS
 have hlt: ∀(i j:Nat) (x y:Int),i<j->l[i]? =some x->l[j]? =some y->x<y:=fun i j x y hij hx hy=>by
  obtain⟨h1,rfl⟩:=aY.1 hx
  obtain⟨h2,rfl⟩:=aY.1 hy
  exact lK.1 hi i j h1 h2 hij
 refine Ok.bind (Ok.mm (fun st=>∃a b:Nat,st= (((a:Nat):Int),((b:Nat):Int))/\a<=b/\b<=l.length/\(∀(k:Nat) x,k<a->l[k]? =some x->x<c)/\(∀(k:Nat) x,b<=k->l[k]? =some x->c<=x)) (fun st=>(st.2 - st.1).toNat)
  (Go:=fun st=>∃a:Nat,st.1= ((a:Nat):Int)/\a<=l.length/\(∀(k:Nat) x,k<a->l[k]? =some x->x<c)/\(∀(k:Nat) x,a<=k->l[k]? =some x->c<=x)) (Rt:=fun _=>False) ?_ ⟨0,l.length,rfl,nk _,bI _,fun k x hk=>by omega,fun k x hk hx=>by have:=(aY.1 hx).1;omega⟩ (by dsimp only;omega)) ?_
 ·rintro st ⟨a,b,rfl,hab,hb,h1,h2⟩
  dsimp only
  by_cases h:a<b
  ·rw [cE (show ((a:Nat):Int)< ((b:Nat):Int) by omega),aS,x8 h (by omega)]
   have hml: (a+b) / 2<l.length:=by omega
   have hx:l[(a+b) / 2]? =some l[(a+b) / 2]:=aK hml
   have hc:lS N l[(a+b) / 2] c=some (decide (l[(a+b) / 2]<c)):=by
    unfold lS kU
    simp
   refine Ok.ix hx (Ok.eq hc ?_)
   by_cases hlc:l[(a+b) / 2]<c
   ·rw [cE hlc,aS,gQ (by omega),aB]
    refine Ok.nx ⟨⟨(a+b) / 2+1,b,rfl,by omega,hb,fun k x hk hxk=>?_,h2⟩,by dsimp only;omega⟩
    by_cases e:k= (a+b) / 2
    ·subst e;rw [hx] at hxk;injection hxk with hxk;omega
    ·have:=hlt k _ x _ (by omega) hxk hx;omega
   ·rw [bG hlc,aV,aB]
    refine Ok.nx ⟨⟨a,(a+b) / 2,rfl,by omega,by omega,h1,fun k x hk hxk=>?_⟩,by dsimp only;omega⟩
    by_cases e:k= (a+b) / 2
    ·subst e;rw [hx] at hxk;injection hxk with hxk;omega
    ·have:=hlt _ k _ x (by omega) hx hxk;omega
  ·rw [bG (show ¬((a:Nat):Int)< ((b:Nat):Int) by omega),aV]
   have:a=b:=by omega
   subst this
   exact Ok.br ⟨a,rfl,hb,h1,h2⟩
 ·intro o ho
  refine Ok.cs ho ?_ (fun r hr=>hr.elim)
  rintro⟨i,j⟩ ⟨a,h0,ha,h1,h2⟩
  dsimp only at h0 ⊢
  subst h0
  by_cases gR:a<l.length
  ·have hx:l[a]? =some l[a]:=aK gR
   rw [cE (show ((a:Nat):Int)< ((l.length:Nat):Int) by omega),aS]
   by_cases e:l[a]=c
   ·refine Ok.eq (x:=true) (by rw [eU hx,aB,e,BEq.rfl,aS]) (Ok.ret ?_)
    rw [cE (e▸cM gR)]
   ·refine Ok.eq (x:=false) (by
     rw [eU hx,aB,show (l[a]==c)=false by rw [beq_eq_false_iff_ne];exact e,aV,aB]
     unfold jg
     simp) (Ok.ret ?_)
    have hn:c∉l:=fun hm=>by
     obtain⟨k,hk⟩:=eO hm
     by_cases hka:k<a
     ·have:=h1 k c hka hk;omega
     ·by_cases hke:k=a
      ·subst hke;rw [hx] at hk;injection hk with hk;exact e hk
      ·have h3:=hlt a k _ _ (by omega) hx hk
       have h4:=h2 a _ (bI _) hx
       omega
    rw [bG hn]
  ·rw [bG (show ¬((a:Nat):Int)< ((l.length:Nat):Int) by omega),aV]
   refine Ok.eq (x:=false) rfl (Ok.ret ?_)
   have hn:c∉l:=fun hm=>by
    obtain⟨k,hk⟩:=eO hm
    have:=(aY.1 hk).1
    have:=h1 k c (by omega) hk;omega
   rw [bG hn]
variable {n m:Nat} {tch:List (List Int)}
theorem CD (h:uw n m tch) {v:Nat} (hv:v<n+m) (hN:4398046511104<=N):fF N tch (bY n v)=some ((eN n tch v).map (bY n)):=by
 have hn:=h.nb
 have hm:=h.mb
 have hl:=h.len
 unfold fF bY
 by_cases hvn:v<n
 ·rw [aD hvn]
  simp only [aV]
  refine Ok.get ?_
  refine Ok.bind (Ok.jq (fun k s=>s= (((List.range k).filter (fun k=>decide (((v:Nat):Int)∈tch.getD k []))).map (fun k=>n+k)).map (bY n)) (by omega) rfl (fun k s hk e=>?_)) (fun s e=>Ok.ret ?_)
  ·subst e
   have hx:tch[k]? =some tch[k]:=aK hk
   obtain⟨r,r1,r2⟩:=r9 (N:=N) (c:=((v:Nat):Int)) (h.inc _ (cM hk)) (h.xJ _ (cM hk)) hN
   have hlen: ((((List.range k).filter (fun k=>decide (((v:Nat):Int)∈tch.getD k []))).map (fun k=>n+k)).map (bY n)).length<=k:=by
    rw [dC,dC]
    have:=j4 (fun k=>decide (((v:Nat):Int)∈tch.getD k [])) (List.range k)
    rwa [List.length_range] at this
   have hg:tch.getD k []=tch[k]:=by rw [List.getD_eq_getElem?_getD,hx];rfl
   have ho:bY n (n+k)= ⟨true,((k:Nat):Int)⟩:=by unfold bY;rw [aC (by omega)];congr 1;omega
   refine Ok.ix hx (Ok.eq r1 ?_)
   rw [r2,List.range_succ,iF,dV,dV]
   by_cases hm': ((v:Nat):Int)∈tch[k]
   ·rw [cE hm',aS,List.filter_cons_of_pos (p:=fun k=>decide (((v:Nat):Int)∈tch.getD k [])) (by rw [hg,cE hm']),List.filter_nil,dG,List.map_nil,dG,List.map_nil,ho]
    refine Ok.bind (P:=fun s=>s=_) (Ok.app (by simp only [f0,List.length_nil];omega) (Ok.ret rfl)) (fun s hs=>Ok.ret hs)
   ·rw [bG hm',aV,List.filter_cons_of_neg (p:=fun k=>decide (((v:Nat):Int)∈tch.getD k [])) (by rw [hg,bG hm'];exact j3),List.filter_nil,List.map_nil,List.map_nil,lj,aB]
    exact Ok.ret rfl
  ·rw [e]
   unfold eN
   rw [aD hvn];rfl
 ·rw [aC hvn]
  simp only [aS]
  have hk:v - n<tch.length:=by omega
  have hx:tch[v - n]? =some tch[v - n]:=aK hk
  have hf:=h.xJ _ (cM hk)
  have hnat:=h.nat _ (cM hk)
  rw [eU hx,aB]
  refine Ok.get ?_
  refine Ok.bind (Ok.jq (fun k s=>s= ((tch[v - n].take k).map Int.toNat).map (bY n)) (by omega) rfl (fun k s hk2 e=>?_)) (fun s e=>Ok.ret ?_)
  ·subst e
   have hy:tch[v - n][k]? =some tch[v - n][k]:=aK hk2
   obtain⟨i,hi,e⟩:=hnat _ (cM hk2)
   have hlen: (((tch[v - n].take k).map Int.toNat).map (bY n)).length<=k:=by
    rw [dC,dC];exact List.length_take_le _ _
   refine Ok.ix hy (Ok.app (by simp only [f0,List.length_nil];omega) (Ok.ret ?_))
   rw [fH hk2,dV,dV,dG,List.map_nil,dG,List.map_nil]
   congr 2
   rw [e,bO]
   unfold bY
   rw [aD hi]
  ·rw [e,fC]
   unfold eN
   rw [aC hvn,List.getD_eq_getElem?_getD,hx];rfl
end
end Go.Gk
namespace Go.Gk
open Go Classical
theorem xl {κ ν:Type} [DecidableEq κ]: ∀{m:List (κ×ν)} {k:κ} {x:ν},dM m k=false->(j9 m k x).length=m.length+1
 | [],k,x,_=>rfl
 | (k',y)::m,k,x,h=>by
  unfold j9
  by_cases e:k=k'
  ·subst e;simp [dM] at h
  ·have h':dM m k=false:=by
    unfold dM at h ⊢
    simp [e] at h
    simpa using h
   rw [aC e,f0,f0,xl h']
theorem BQ.bound {A:Nat->Nat->Prop} {s t p:Nat} {F:Nat->Option Nat} {ord:List Nat} (h:BQ A s t F ord p) {v d:Nat} (hv:F v=some d):d<t:=by
 have ex: ∀d v,F v=some d->∃l:List Nat,l.length=d+1/\l.Nodup/\∀x∈l,∃e,F x=some e/\e<=d:=by
  intro d
  induction d with
  | zero=>intro v hv;exact⟨[v],rfl,by simp,fun x hx=>by rw [lJ] at hx;subst hx;exact⟨0,hv,bI _⟩⟩
  | succ d ih=>
   intro v hv
   obtain⟨u,_,hu⟩:=h.back v d hv
   obtain⟨l,h1,h2,h3⟩:=ih u hu
   refine⟨v::l,by simp [h1],List.nodup_cons.2 ⟨fun hm=>?_,h2⟩,fun x hx=>?_⟩
   ·obtain⟨e,h4,h5⟩:=h3 v hm
    rw [hv] at h4;injection h4 with h4;omega
   ·rcases eZ.1 hx with rfl | hx
    ·exact⟨d+1,hv,bI _⟩
    ·obtain⟨e,h4,h5⟩:=h3 x hx;exact⟨e,h4,by omega⟩
 obtain⟨l,h1,h2,h3⟩:=ex d v hv
 have:=AL h2 (t:=t) (fun x hx=>by
  obtain⟨e,h4,_⟩:=h3 x hx
  exact h.lt x ((h.mem x).1 (by rw [h4];exact fun h=>by cases h)))
 omega
def EZ (n:Nat) (M:List (bE×Int)) (F:Nat->Option Nat):Prop:=∀v,dM M (bY n v)= (F v).isSome/\cL M (bY n v) 0= (((F v).getD 0:Nat):Int)
def E0 (N:Nat) (p0_6:List (List Int)) (p1:bE) (al:bE->Bool):Option (List (bE×Int)):=
 (mm (fun(s37: (List (bE×Int))×(List bE))=>(bif (decide ((s37.2.length:Int)>0)) then ((idx s37.2 0).bind fun x234=>(fF N p0_6 x234).bind fun x236=>(jq x236.length (fun(k238:Nat) (s239: (List (bE×Int))×(List bE))=>((idx x236 (k238:Int)).bind fun x299=>(bif (!(dM s239.1 x299)) then (some (al x299)) else (some false)).bind fun s306=>(bif s306 then ((idx s239.2 0).bind fun x320=>(app 16 s239.2 ([x299]: (List bE))).bind fun x324=>some ((j9 s239.1 x299 (IntKind.wrap .i64 ((cL s239.1 x320 (0:Int))+1))),x324)) else (some (s239.1,s239.2))).bind fun s317=>some (s317.1,s317.2):Option ((List (bE×Int))×(List bE)))) (s37.1,s37.2)).bind fun s239=>(qt s239.2 1 (s239.2.length:Int)).bind fun x327=>some (.nx (s239.1,x327))) else (some (.br (s37.1,s37.2))):Option (Fl ((List (bE×Int))×(List bE)) Empty))) N ((j9 ([]: (List (bE×Int))) p1 0),([p1]: (List bE)))).bind fun o330=>o330.cs (fun(s37: (List (bE×Int))×(List bE))=>some s37.1) (fun r=>r.elim)
section
variable {N:Nat}
theorem G6 (tch:List (List Int)) (h:bE):iT N tch h=E0 N tch h (fun _=>true):=rfl
theorem F3 (tch:List (List Int)) (h w:bE):kG N tch h w=E0 N tch h (fun x=> !(decide (x=w))):=rfl
variable {n m:Nat} {tch:List (List Int)}
theorem vU (h:uw n m tch) {s:Nat} (hs:s<n+m) {al:bE->Bool} (hN:4398046511104<=N):
  ∃M F,E0 N tch (bY n s) al=some M/\EZ n M F/\nF (fun u v=>v∈eN n tch u/\al (bY n v)=true) s F/\(∀v d,F v=some d->v<n+m/\d<n+m):=by
 have hn:=h.nb
 have hm:=h.mb
 suffices hh:Ok (E0 N tch (bY n s) al) (fun M=>∃F,EZ n M F/\nF (fun u v=>v∈eN n tch u/\al (bY n v)=true) s F/\(∀v d,F v=some d->v<n+m/\d<n+m)) by
  obtain⟨M,h1,F,h2,h3,h4⟩:=hh
  exact⟨M,F,h1,h2,h3,h4⟩
 generalize hA: (fun u v=>v∈eN n tch u/\al (bY n v)=true)=A
 unfold E0
 refine Ok.bind (Ok.mm (fun st=>∃F ord p,BQ A s (n+m) F ord p/\p<=ord.length/\EZ n st.1 F/\st.2= (ord.drop p).map (bY n)/\st.1.length=ord.length) (fun st=>(n+m - st.1.length)+st.2.length)
  (Go:=fun st=>∃F ord p,BQ A s (n+m) F ord p/\ord.length<=p/\EZ n st.1 F) (Rt:=fun _=>False) ?_ ?_ ?_) ?_
 ·rintro⟨M,q⟩ ⟨F,ord,p,hB,hp,hMF,hq,hMl⟩
  dsimp only at hMF hq hMl ⊢
  have hol:=hB.len
  subst hq
  by_cases hpl:p<ord.length
  ·have hd0:ord.drop p=ord[p]::ord.drop (p+1):=pD hpl
   have hu:ord[p]? =some ord[p]:=aK hpl
   have hul:=hB.lt _ (cM hpl)
   obtain⟨d,hd⟩: ∃d,F ord[p]=some d:=by
    have:=(hB.mem ord[p]).2 (cM hpl)
    cases hf:F ord[p] with
    | none=>exact absurd hf this
    | some d=>exact⟨d,rfl⟩
   rw [cE (show ((((ord.drop p).map (bY n)).length:Nat):Int)>0 by rw [dC,fB];omega),aS]
   have hq0: ((ord.drop p).map (bY n))[0]? =some (bY n ord[p]):=by rw [hd0];rfl
   have hi0:=eU hq0
   refine Ok.eq hi0 (Ok.eq (CD h hul hN) ?_)
   have gR:=CC h ord[p]
   generalize hu0:ord[p]=u at *
   refine Ok.bind (Ok.jq (fun j st=>∃F' ord',BQ A s (n+m) F' ord' p/\p<ord'.length/\EZ n st.1 F'/\st.2= (ord'.drop p).map (bY n)/\st.1.length=ord'.length/\ord'[p]? =some u/\F' u=some d/\(∀(i v:Nat),i<j->(eN n tch u)[i]? =some v->A u v->F' v≠none)/\(n+m - st.1.length)+st.2.length= (n+m - M.length)+ ((ord.drop p).map (bY n)).length)
    (by rw [dC];omega) ⟨F,ord,hB,hpl,hMF,rfl,hMl,hu,hd,fun i v hi=>by omega,rfl⟩ (fun j st hj I=>?_)) ?_
   ·obtain⟨M',q'⟩:=st
    obtain⟨F',ord',b1,b2,b3,b4,b5,b6,b7,b8,b9⟩:=I
    dsimp only at b3 b4 b5 b9 ⊢
    subst b4
    rw [dC] at hj
    have hx: ((eN n tch u).map (bY n))[j]? =some (bY n (eN n tch u)[j]):=by rw [eJ,aK hj];rfl
    have hxa: (eN n tch u)[j]? =some (eN n tch u)[j]:=aK hj
    have hxm: (eN n tch u)[j]∈eN n tch u:=cM hj
    have hxl:=G5 h hxm
    refine Ok.ix hx ?_
    generalize (eN n tch u)[j]=v at *
    obtain⟨f1,f2⟩:=b3 v
    have ob:=b1.len
    have keep8: ∀{F2:Nat->Option Nat},(∀x,F' x≠none->F2 x≠none)->(A u v->F2 v≠none)->∀(i x:Nat),i<j+1->(eN n tch u)[i]? =some x->A u x->F2 x≠none:=fun{F2} g1 g2 i x hi hix hax=>by
     by_cases e:i<j
     ·exact g1 x (b8 i x e hix hax)
     ·have:i=j:=by omega
      subst this
      rw [hxa] at hix;injection hix with hix
      subst hix;exact g2 hax
    cases hfv:F' v with
    | some e=>
     rw [hfv] at f1
     have f1:dM M' (bY n v)=true:=f1
     rw [f1]
     exact Ok.ret ⟨F',ord',b1,b2,b3,rfl,b5,b6,b7,keep8 (fun x hx=>hx) (fun _=>by rw [hfv];exact fun h=>by cases h),b9⟩
    | none=>
     rw [hfv] at f1
     have f1:dM M' (bY n v)=false:=f1
     rw [f1,lk,aS,aB]
     cases hav:al (bY n v) with
     | false=>
      rw [aV,aB]
      exact Ok.ret ⟨F',ord',b1,b2,b3,rfl,b5,b6,b7,keep8 (fun x hx=>hx) (fun ha=>by rw [<-hA] at ha;rw [hav] at ha;exact absurd ha.2 (by decide)),b9⟩
     | true=>
      have hAuv:A u v:=by rw [<-hA];exact⟨hxm,hav⟩
      have hpush:=b1.push b6 b7 hAuv hxl hfv
      have hpb:=b1.bound b7
      have hpl2:=hpush.len
      rw [dR,f0,List.length_nil] at hpl2
      have hq0': ((ord'.drop p).map (bY n))[0]? =some (bY n u):=by
       rw [eJ,dY]
       simp only [Nat.add_zero]
       rw [b6];rfl
      have hgu:cL M' (bY n u) 0= ((d:Nat):Int):=by rw [(b3 u).2,b7];rfl
      have hvu:v≠u:=fun e=>by rw [e,b7] at hfv;cases hfv
      rw [aS]
      have hdl: (ord'++[v]).drop p=ord'.drop p++[v]:=List.drop_append_of_le_length (by omega)
      refine Ok.eq (x:=(j9 M' (bY n v) ((d+1:Nat):Int),((ord'++[v]).drop p).map (bY n))) ?_ (Ok.ret ⟨_,_,hpush,?_,?_,rfl,?_,?_,?_,keep8 (fun x hx=>?_) (fun _=>?_),?_⟩)
      ·have hi0':idx ((ord'.drop p).map (bY n)) 0=some (bY n u):=eU hq0'
       rw [hi0',aB,g9 (by simp only [dC,fB,f0,List.length_nil];omega),aB,hgu,gQ (by omega),hdl,dV];rfl
      ·rw [dR];omega
      ·intro x
       dsimp only
       rw [mz,jS]
       by_cases e:x=v
       ·subst e;rw [aD rfl,aD rfl,cE rfl];exact⟨rfl,rfl⟩
       ·have e':bY n x≠bY n v:=fun h=>e (lG h)
        rw [aC e,aC e',bG e',Bool.false_or]
        exact b3 x
      ·dsimp only
       rw [xl f1,b5];simp
      ·rw [eX b2];exact b6
      ·rw [aC (Ne.symm hvu)];exact b7
      ·by_cases e:x=v
       ·rw [aD e];exact fun h=>by cases h
       ·rw [aC e];exact hx
      ·rw [aD rfl];exact fun h=>by cases h
      ·dsimp only
       rw [xl f1,hdl,dV,dR,dG,List.map_nil,f0,List.length_nil]
       omega
   ·rintro⟨M',q'⟩ ⟨F',ord',b1,b2,b3,b4,b5,b6,b7,b8,b9⟩
    dsimp only at b3 b4 b5 b9 ⊢
    subst b4
    have hnx:=b1.next b6 b7 (fun v hv=>by
     have hv':=hv
     rw [<-hA] at hv'
     obtain⟨i,hi⟩:=eO hv'.1
     exact b8 i v (by rw [dC];exact(aY.1 hi).1) hi hv)
    have hsl:qt ((ord'.drop p).map (bY n)) 1 ((((ord'.drop p).map (bY n)).length:Nat):Int)=some ((ord'.drop (p+1)).map (bY n)):=by
     have:=qI ((ord'.drop p).map (bY n)) 1 (by rw [dC,fB];omega)
     rw [<-List.map_drop,List.drop_drop] at this
     exact this
    have ob:=b1.len
    refine Ok.eq hsl (Ok.nx ⟨⟨F',ord',p+1,hnx,by omega,b3,rfl,b5⟩,?_⟩)
    dsimp only
    simp only [dC,fB] at b9 ⊢
    omega
  ·rw [bG (show ¬((((ord.drop p).map (bY n)).length:Nat):Int)>0 by rw [dC,fB];omega),aV]
   exact Ok.br ⟨F,ord,p,hB,by omega,hMF⟩
 ·refine⟨_,[s],0,BQ.start A hs,by simp,fun v=>?_,rfl,rfl⟩
  dsimp only
  rw [mz,jS]
  by_cases e:v=s
  ·subst e;rw [aD rfl,aD rfl,cE rfl];exact⟨rfl,rfl⟩
  ·have e':bY n v≠bY n s:=fun h=>e (lG h)
   rw [aC e,aC e',bG e'];exact⟨rfl,rfl⟩
 ·show (n+m - 1)+1<N
  omega
 ·intro o ho
  refine Ok.cs ho ?_ (fun r hr=>hr.elim)
  rintro⟨M,q⟩ ⟨F,ord,p,hB,hp,hMF⟩
  exact Ok.ret ⟨F,hMF,hB.done hp,fun v d hv=>⟨hB.lt v ((hB.mem v).1 (by rw [hv];exact fun h=>by cases h)),hB.bound hv⟩⟩
theorem G7 (h:uw n m tch) {x y:Nat} (hx:x<n+m) (hy:y<n+m) {F:Nat->Option Nat} (hF:nF (fun u v=>v∈eN n tch u) y F) (hN:4398046511104<=N):
  gF N tch (bY n x) (bY n y)=some (match F x with | none=>([],false) | some d=>((oV (eN n tch) F d x).map (bY n),true)):=by
 have hn:=h.nb
 have hm:=h.mb
 obtain⟨M,F',f1,f2,f3,f4⟩:=vU (N:=N) h hy (al:=fun _=>true) hN
 have hFF:F'=F:=by
  refine nF.uniq (A:=fun u v=>v∈eN n tch u) ⟨f3.zero,f3.DH,fun v d hv=>?_,fun u v d huv hu=>f3.step u v d ⟨huv,rfl⟩ hu⟩ hF
  obtain⟨u,h1,h2⟩:=f3.back v d hv
  exact⟨u,h1.1,h2⟩
 subst hFF
 have hAs: ∀u v,(fun u v=>v∈eN n tch u) u v->u∈eN n tch v:=fun u v huv=>xk h huv
 unfold gF
 rw [G6,f1,aB,(f2 x).1]
 cases hfx:F' x with
 | none=>rfl
 | some d=>
  rw [Option.isSome_some,j5,aV]
  refine Ok.get ?_
  refine Ok.bind (Ok.mm (fun st=>∃u e,F' u=some e/\e<=d/\st.2=bY n u/\st.1.length+e=d+1/\st.1++((oV (eN n tch) F' e u).tail).map (bY n)= (oV (eN n tch) F' d x).map (bY n)) (fun st=>(cL M st.2 0).toNat)
   (Go:=fun st=>st.1= (oV (eN n tch) F' d x).map (bY n)) (Rt:=fun _=>False) ?_ ?_ ?_) ?_
  ·rintro⟨out,q⟩ ⟨u,e,h1,h2,h3,h4,h5⟩
   dsimp only at h3 h4 h5 ⊢
   subst h3
   obtain⟨hul,_⟩:=f4 u e h1
   obtain⟨_,hdl⟩:=f4 x d hfx
   have hgu:cL M (bY n u) 0= ((e:Nat):Int):=by rw [(f2 u).2,h1];rfl
   cases e with
   | zero=>
    have:u=y:=hF.DH u h1
    subst this
    rw [cE rfl,j5,aV]
    exact Ok.br (by dsimp only;rw [<-h5];simp [oV])
   | succ e=>
    have huy:u≠y:=fun e2=>by subst e2;rw [hF.zero] at h1;injection h1 with h1;omega
    rw [bG (fun h=>huy (lG h)),lk,aS]
    obtain⟨w1,w2,w3⟩:=uv (adj:=eN n tch) hF hAs h1
    refine Ok.eq (CD h hul hN) ?_
    have gR:=CC h u
    refine Ok.bind (Ok.oW (fun k s=>s=bY n u/\∀(i v:Nat),i<k->(eN n tch u)[i]? =some v->F' v≠some e) (Go:=fun s=>s=bY n (vA (eN n tch) F' e u)) (Rt:=fun _=>False) (by rw [dC];omega) ⟨rfl,fun i v hi=>by omega⟩ (fun k s hk I=>?_) (fun s I=>?_)) ?_
    ·obtain⟨rfl,I⟩:=I
     rw [dC] at hk
     have hxv: ((eN n tch u).map (bY n))[k]? =some (bY n (eN n tch u)[k]):=by rw [eJ,aK hk];rfl
     have hxa: (eN n tch u)[k]? =some (eN n tch u)[k]:=aK hk
     refine Ok.ix hxv ?_
     obtain⟨g1,g2⟩:=f2 (eN n tch u)[k]
     have ec: (bif (dM M (bY n (eN n tch u)[k])) then (some ((cL M (bY n (eN n tch u)[k]) (0:Int))==(IntKind.wrap .i64 ((cL M (bY n u) (0:Int)) - 1)))) else (some false))=some (decide (F' (eN n tch u)[k]=some e)):=by
      rw [g1,g2,hgu,lA (by omega) (by omega)]
      cases hfk:F' (eN n tch u)[k] with
      | none=>rfl
      | some e'=>
       rw [Option.isSome_some,aS,Option.getD_some]
       congr 1
       rw [fD,beq_iff_eq,bT]
       constructor
       ·intro h;congr 1;omega
       ·intro h;injection h with h;omega
     refine Ok.eq ec ?_
     by_cases hfk:F' (eN n tch u)[k]=some e
     ·rw [cE hfk,aS]
      refine Ok.br ?_
      have hfind: (eN n tch u).find? (fun n=>decide (F' n=some e))=some (eN n tch u)[k]:=by
       rw [List.find?_eq_some_iff_getElem]
       refine⟨by rw [bT];exact hfk,k,hk,rfl,fun j hj=>?_⟩
       have:=I j _ hj (aK (by omega))
       simpa using this
      rw [w3] at hfind;injection hfind with hfind
      rw [hfind]
     ·rw [bG hfk,aV]
      refine Ok.nx ⟨rfl,fun i v hi hiv=>?_⟩
      by_cases e2:i<k
      ·exact I i v e2 hiv
      ·have:i=k:=by omega
       subst this
       rw [hxa] at hiv;injection hiv with hiv
       subst hiv;exact hfk
    ·obtain⟨i,hi⟩:=eO w1
     exact absurd w2 (I.2 i _ (by rw [dC];exact(aY.1 hi).1) hi)
    ·intro o ho
     refine Ok.cs ho ?_ (fun r hr=>hr.elim)
     rintro _ rfl
     refine Ok.app (by simp only [f0,List.length_nil];omega) (Ok.nx ⟨⟨_,e,w2,by omega,rfl,by simp only [dR,f0,List.length_nil];omega,?_⟩,?_⟩)
     ·rw [<-h5]
      show (out++[bY n (vA (eN n tch) F' e u)])++_=out++((oV (eN n tch) F' e (vA (eN n tch) F' e u))).map (bY n)
      rw [jZ]
      congr 1
      cases e with
      | zero=>rfl
      | succ e=>rfl
     ·dsimp only
      rw [(f2 _).2,w2,hgu,Option.getD_some];omega
  ·refine⟨x,d,hfx,bI _,rfl,by simp;omega,?_⟩
   cases d <;> rfl
  ·dsimp only
   rw [(f2 x).2,hfx,Option.getD_some]
   have:=(f4 x d hfx).2;omega
  ·intro o ho
   refine Ok.cs ho ?_ (fun r hr=>hr.elim)
   rintro⟨out,q⟩ hst
   dsimp only at hst
   subst hst
   exact Ok.ret rfl
end
end Go.Gk
namespace Go.Gk
open Go Classical
theorem BH.uniq {n m:Nat} {tch:List (List Int)} {r1 r2:Nat->Nat} (h1:BH n m tch r1) (h2:BH n m tch r2) {i j:Nat} (hi:i<n+m) (hj:j<n+m):r1 i=r1 j↔r2 i=r2 j:=by
 have key: ∀{r1 r2:Nat->Nat},BH n m tch r1->BH n m tch r2->r1 i=r1 j->r2 i=r2 j:=fun{r1 r2} h1 h2 e=>
  (h1.fi (fun x=>r2 i=r2 x) (fun a b hab=>by rw [h2.co a b hab]) i j hi hj e) rfl
 exact⟨key h1 h2,key h2 h1⟩
section
variable {N:Nat} {a:iW} {kb:List (List aA)} {bP:List (List (List aA))} {r:Nat->Nat} {gs:List cU} {ofP ofB jI:List Int} {jH:List bE}
theorem G8 {bs:List bW} {pcs:List aH} {l:dL} {h:bE} (hh:ku bs pcs l=some h) (hn:pcs.length+bs.length<=1000000000):
  fT N h ((pcs.length:Nat):Int)=some ((cJ pcs.length h:Nat):Int)/\cJ pcs.length h<pcs.length+bs.length:=by
 obtain⟨k,e,h1,h2⟩:=(pY hh).num
 unfold fT cJ
 cases hB:h.bW with
 | true=>
  have:=(h1 hB).1
  rw [aS,aD rfl,e,bO,wrap_add (by omega)]
  exact⟨rfl,by omega⟩
 | false=>
  have:=h2 hB
  rw [aV,aC j3,e,bO]
  exact⟨rfl,by omega⟩
structure KK (bs:List bW) (pcs:List aH) (ls:List dL) (r2:Nat->Nat) (j:Nat) (up:List Int) (fm:List (Int×Int)) (out:List Int):Prop where
 uf:UF (pcs.length+bs.length) up r2
 len:out.length=ls.length
 no: ∀i l,i<j->ls[i]? =some l->ku bs pcs l=none->out[i]? =some (-1)
 yes: ∀i l h,i<j->ls[i]? =some l->ku bs pcs l=some h->dM fm ((r2 (cJ pcs.length h):Nat):Int)=true/\out[i]? =some (cL fm ((r2 (cJ pcs.length h):Nat):Int) 0)
 low: ∀x,dM fm x=true->∃v:Nat,cL fm x 0= ((v:Nat):Int)/\v<j
 inj: ∀x y,dM fm x=true->dM fm y=true->cL fm x 0=cL fm y 0->x=y
end
section
variable {N:Nat}
end
end Go.Gk
namespace Go.Gk
open Go Classical
noncomputable def CE (n:Nat) (tch:List (List Int)) (u v w:Nat):Bool:=decide (w=u\/w=v\/∀F,nF (fun a b=>b∈eN n tch a/\b≠w) v F->F u=none)
section
variable {N:Nat} {a:iW} {kb:List (List aA)} {bP:List (List (List aA))} {r:Nat->Nat} {gs:List cU} {ofP ofB jI:List Int} {jH:List bE}
theorem oe (b:jY a kb bP r gs ofP ofB jI jH):uw (aJ 0 bP).length a.aL.length (cK a.aL (aJ 0 bP)):=by
 have hf:=b.xJ.2
 have hbl:=b.EU.gb.len
 refine⟨by unfold cK;simp,by omega,by omega,fun l hl=>?_,fun l hl=>(w8 (by omega) l hl).2,fun l hl=>?_⟩
 ·unfold cK at hl
  obtain⟨x,_,rfl⟩:=cI.1 hl
  exact EX (List.Pairwise.filter _ List.pairwise_lt_range)
 ·unfold cK at hl
  obtain⟨x,_,rfl⟩:=cI.1 hl
  have:=vk (jL x) (aJ 0 bP) (aJ 0 bP).length
  rw [lf];omega
theorem BP (b:jY a kb bP r gs ofP ofB jI jH) {F:Nat->Option Nat} {u v:Nat} (hu:u< (aJ 0 bP).length+a.aL.length) (hv:v< (aJ 0 bP).length+a.aL.length) (hF:nF (fun x y=>y∈eN (aJ 0 bP).length (cK a.aL (aJ 0 bP)) x) v F):F u≠none↔r u=r v:=by
 have hT:=oe b
 constructor
 ·intro h
  refine(hF.reach u).1 h (fun x=>r x=r v) rfl (fun x y hxy hx=>?_)
  rcases (mF hT).1 hxy with h1 | h1
  ·rw [<-b.Fe.conn.co _ _ h1];exact hx
  ·rw [b.Fe.conn.co _ _ h1];exact hx
 ·intro h
  refine b.Fe.conn.fi (fun x=>F x≠none) (fun i j hij=>?_) v u hv hu h.symm (by rw [hF.zero];exact fun h=>by cases h)
  have key: ∀{i j},j∈eN (aJ 0 bP).length (cK a.aL (aJ 0 bP)) i->F i≠none->F j≠none:=fun{i j} hij hi=>by
   cases hfi:F i with
   | none=>exact absurd hfi hi
   | some d=>
    obtain⟨e,h1,_⟩:=hF.step i j d hij hfi
    rw [h1];exact fun h=>by cases h
  exact⟨key ((mF hT).2 (.inl hij)),key ((mF hT).2 (.inr hij))⟩
theorem G9 (b:jY a kb bP r gs ofP ofB jI jH) {v:Nat} (hv:v< (aJ 0 bP).length+a.aL.length) (hN:4398046511104<=N): ∃F,nF (fun x y=>y∈eN (aJ 0 bP).length (cK a.aL (aJ 0 bP)) x) v F/\∀x d,F x=some d->x< (aJ 0 bP).length+a.aL.length/\d< (aJ 0 bP).length+a.aL.length:=by
 obtain⟨M,F,_,_,f3,f4⟩:=vU (N:=N) (oe b) hv (al:=fun _=>true) hN
 refine⟨F,⟨f3.zero,f3.DH,fun v d hv=>?_,fun u v d huv hu=>f3.step u v d ⟨huv,rfl⟩ hu⟩,f4⟩
 obtain⟨u,h1,h2⟩:=f3.back v d hv
 exact⟨u,h1.1,h2⟩
theorem F4 (b:jY a kb bP r gs ofP ofB jI jH) (p q:fX) (hN:4398046511104<=N):
  fE N a.aN a.dH a.aL a.bD jI jH p q=some (bif decide (ml a p<0)||decide (ml a q<0) then (⟨false,0⟩,⟨false,0⟩,false,9) else
   (((a.bD[(ml a p).toNat]?).bind (ku a.aL (aJ 0 bP))).getD ⟨false,0⟩,((a.bD[(ml a q).toNat]?).bind (ku a.aL (aJ 0 bP))).getD ⟨false,0⟩,((a.bD[(ml a p).toNat]?).bind (ku a.aL (aJ 0 bP))).isSome&&((a.bD[(ml a q).toNat]?).bind (ku a.aL (aJ 0 bP))).isSome,0)):=by
 have hA: ∀p,gL N (⟨a.aN,a.dH,a.aL,a.bD⟩:iW) p=some (ml a p):=fun p=>vn b.yi p hN
 unfold fE
 rw [hA,aB,hA,aB]
 rcases lF a p with ⟨e1,_⟩ | ⟨i,x,e1,hx,_⟩
 ·rw [e1];rfl
 rcases lF a q with ⟨e2,_⟩ | ⟨k,y,e2,hy,_⟩
 ·rw [e2,cE (show (-1:Int)<0 by decide),Bool.or_true,aS,aS]
 have o1:jI[i]? =some (AV a.aL (aJ 0 bP) r x):=by rw [b.Fe.jI,eJ,hx];rfl
 have o2:jI[k]? =some (AV a.aL (aJ 0 bP) r y):=by rw [b.Fe.jI,eJ,hy];rfl
 have a1:jH[i]? =some ((ku a.aL (aJ 0 bP) x).getD ⟨false,0⟩):=by rw [b.Fe.jH,eJ,hx];rfl
 have a2:jH[k]? =some ((ku a.aL (aJ 0 bP) y).getD ⟨false,0⟩):=by rw [b.Fe.jH,eJ,hy];rfl
 have hs: ∀z:dL,decide (AV a.aL (aJ 0 bP) r z>=0)= (ku a.aL (aJ 0 bP) z).isSome:=fun z=>by
  unfold AV BJ
  cases ku a.aL (aJ 0 bP) z with
  | none=>rfl
  | some h=>rw [Option.map_some,Option.isSome_some,bT];dsimp only;omega
 rw [e1,e2,bG (show ¬((i:Nat):Int)<0 by omega),bG (show ¬((k:Nat):Int)<0 by omega),Bool.or_false,aV,aV,eU a1,aB,eU a2,aB,eU o1,aB,eU o2,aB,hs,hs,bO,bO,hx,hy,Option.bind_some,Option.bind_some]
 cases (ku a.aL (aJ 0 bP) x).isSome <;> rfl
inductive II (N:Nat) (a:iW) (p q:fX):Prop
 | err (e:Int) (he:e≠0) (h:iZ N a p q=some ([],false,e)) (h2:eD N a p q=some ([],e))
 | none {kb:List (List aA)} {bP:List (List (List aA))} {r:Nat->Nat} {gs:List cU} {ofP ofB jI:List Int} {jH:List bE} (b:jY a kb bP r gs ofP ofB jI jH)
  (ho:gu N a=some (some (a.aN,a.dH,a.aL,a.bD,kb,aJ 0 bP,cK a.aL (aJ 0 bP),gs,ofP,ofB,jI,jH),0)) {i k:Nat} {x y:dL} (ep:ml a p= ((i:Nat):Int)) (hx:a.bD[i]? =some x) (eq:ml a q= ((k:Nat):Int)) (hy:a.bD[k]? =some y)
  (hn: ∀h h',ku a.aL (aJ 0 bP) x=some h->ku a.aL (aJ 0 bP) y=some h'->r (cJ (aJ 0 bP).length h)≠r (cJ (aJ 0 bP).length h')) (h:iZ N a p q=some ([],false,0)) (h2:eD N a p q=some ([],9))
 | way {kb:List (List aA)} {bP:List (List (List aA))} {r:Nat->Nat} {gs:List cU} {ofP ofB jI:List Int} {jH:List bE} (b:jY a kb bP r gs ofP ofB jI jH)
  (ho:gu N a=some (some (a.aN,a.dH,a.aL,a.bD,kb,aJ 0 bP,cK a.aL (aJ 0 bP),gs,ofP,ofB,jI,jH),0)) {i k:Nat} {x y:dL} (ep:ml a p= ((i:Nat):Int)) (hx:a.bD[i]? =some x) (eq:ml a q= ((k:Nat):Int)) (hy:a.bD[k]? =some y)
  {h h':bE} (hh:ku a.aL (aJ 0 bP) x=some h) (hh':ku a.aL (aJ 0 bP) y=some h') (hr:r (cJ (aJ 0 bP).length h)=r (cJ (aJ 0 bP).length h')) {F:Nat->Option Nat} {d:Nat}
  (hF:nF (fun x y=>y∈eN (aJ 0 bP).length (cK a.aL (aJ 0 bP)) x) (cJ (aJ 0 bP).length h') F) (hd:F (cJ (aJ 0 bP).length h)=some d) (hdl:d< (aJ 0 bP).length+a.aL.length)
  (h1:iZ N a p q=some ((oV (eN (aJ 0 bP).length (cK a.aL (aJ 0 bP))) F d (cJ (aJ 0 bP).length h)).map (bY (aJ 0 bP).length),true,0))
  (h2:eD N a p q=some (((oV (eN (aJ 0 bP).length (cK a.aL (aJ 0 bP))) F d (cJ (aJ 0 bP).length h)).filter (CE (aJ 0 bP).length (cK a.aL (aJ 0 bP)) (cJ (aJ 0 bP).length h) (cJ (aJ 0 bP).length h'))).map (bY (aJ 0 bP).length),0)):II N a p q
theorem DE {a:iW} (ha:uq a) (p q:fX) (hN:4398046511104<=N):II N a p q:=by
 rcases opened (N:=N) ha hN with ⟨e,he,h⟩ | ⟨b,h⟩
 ·have hb: (e != 0)=true:=by simpa using he
  refine .err e he ?_ ?_
  ·unfold iZ;rw [h,aB];simp only [B3,hb,aS]
  ·unfold eD;rw [h,aB];simp only [B3,hb,aS]
 rename_i kb bP r gs ofP ofB jI jH
 have hT:=oe b
 have hE:=F4 b p q hN
 have hf:=b.xJ.2
 have hbl:=b.EU.gb.len
 have gW: ∀(x:bE×bE×Bool×Int),fE N a.aN a.dH a.aL a.bD jI jH p q=some x->iZ N a p q=bif ((x.2.2.2 != 0)||(!x.2.2.1)) then (some ([],false,x.2.2.2)) else ((gF N (cK a.aL (aJ 0 bP)) x.1 x.2.1).bind fun x63=>some (x63.1,x63.2,0)):=fun x hx=>by
  unfold iZ
  rw [h,aB]
  simp only [B3,bne_self_eq_false,aV]
  rw [hx,aB]
 have gB: ∀(x:bE×bE×Bool×Int),fE N a.aN a.dH a.aL a.bD jI jH p q=some x->(x.2.2.2=0->x.2.2.1=false->eD N a p q=some ([],9))/\(x.2.2.2≠0->eD N a p q=some ([],x.2.2.2)):=fun x hx=>by
  unfold eD
  rw [h,aB]
  simp only [B3,bne_self_eq_false,aV]
  rw [hx,aB]
  refine⟨fun h0 h1=>?_,fun h0=>?_⟩
  ·rw [h0,h1];rfl
  ·rw [show (x.2.2.2 != 0)=true by simpa using h0];rfl
 rcases lF a p with ⟨e1,_⟩ | ⟨i,x,e1,hx,_⟩
 ·rw [e1] at hE
  exact .err 9 (by decide) ((gW _ hE).trans rfl) ((gB _ hE).2 (fun h=>absurd (show (9:Int)=0 from h) (by decide)))
 rcases lF a q with ⟨e2,_⟩ | ⟨k,y,e2,hy,_⟩
 ·rw [e2,cE (show (-1:Int)<0 by decide),Bool.or_true] at hE
  exact .err 9 (by decide) ((gW _ hE).trans rfl) ((gB _ hE).2 (fun h=>absurd (show (9:Int)=0 from h) (by decide)))
 rw [e1,e2,bG (show ¬((i:Nat):Int)<0 by omega),bG (show ¬((k:Nat):Int)<0 by omega),Bool.or_false,aV,bO,bO,hx,hy,Option.bind_some,Option.bind_some] at hE
 cases hh:ku a.aL (aJ 0 bP) x with
 | none=>
  rw [hh] at hE
  exact .none b h e1 hx e2 hy (fun h h' hz=>by rw [hh] at hz;cases hz) ((gW _ hE).trans rfl) ((gB _ hE).1 rfl rfl)
 | some h1=>
  cases hh':ku a.aL (aJ 0 bP) y with
  | none=>
   rw [hh,hh'] at hE
   exact .none b h e1 hx e2 hy (fun h h' _ hz=>by rw [hh'] at hz;cases hz) ((gW _ hE).trans rfl) ((gB _ hE).1 rfl rfl)
  | some h2=>
   rw [hh,hh'] at hE
   obtain⟨u1,u2⟩:=pB (pY hh)
   obtain⟨v1,v2⟩:=pB (pY hh')
   obtain⟨F,hF,hFb⟩:=G9 b v2 hN
   have hW:=G7 (N:=N) hT u2 v2 hF hN
   rw [u1,v1] at hW
   have hroot:=BP b u2 v2 hF
   have hWay:=gW _ hE
   simp only [Option.isSome_some,Bool.and_self,bne_self_eq_false,j5,Bool.or_self,aV,Option.getD_some] at hWay
   rw [hW,aB] at hWay
   have hBr:eD N a p q= (match F (cJ (aJ 0 bP).length h1) with | none=>some ([],9) | some d=>some (((oV (eN (aJ 0 bP).length (cK a.aL (aJ 0 bP))) F d (cJ (aJ 0 bP).length h1)).filter (CE (aJ 0 bP).length (cK a.aL (aJ 0 bP)) (cJ (aJ 0 bP).length h1) (cJ (aJ 0 bP).length h2))).map (bY (aJ 0 bP).length),0)):=by
    unfold eD
    rw [h,aB]
    simp only [B3,bne_self_eq_false,aV]
    rw [hE,aB]
    simp only [Option.isSome_some,Bool.and_self,bne_self_eq_false,aV,aS,Option.getD_some]
    rw [hW,aB,aB]
    cases hd:F (cJ (aJ 0 bP).length h1) with
    | none=>rfl
    | some d=>
     simp only [j5,aV]
     obtain⟨_,hdl⟩:=hFb _ _ hd
     have hlen:=rk (adj:=eN (aJ 0 bP).length (cK a.aL (aJ 0 bP))) (F:=F) d (cJ (aJ 0 bP).length h1)
     have hAs: ∀u v,(fun u v=>v∈eN (aJ 0 bP).length (cK a.aL (aJ 0 bP)) u) u v->u∈eN (aJ 0 bP).length (cK a.aL (aJ 0 bP)) v:=fun u v huv=>xk hT huv
     have hat:=fun j w hw=>CA hF hAs d _ hd j w hw
     generalize hu:cJ (aJ 0 bP).length h1=u at *
     generalize hv:cJ (aJ 0 bP).length h2=v at *
     generalize oV (eN (aJ 0 bP).length (cK a.aL (aJ 0 bP))) F d u=L at *
     rw [FI (s:=([]:List bE)) (fun j=>((L.take j).filter (CE (aJ 0 bP).length (cK a.aL (aJ 0 bP)) u v)).map (bY (aJ 0 bP).length)) (by rw [dC];omega) rfl (fun j hj=>by
      rw [dC] at hj
      have hw:L[j]? =some L[j]:=aK hj
      have hxw: (L.map (bY (aJ 0 bP).length))[j]? =some (bY (aJ 0 bP).length L[j]):=by rw [eJ,hw];rfl
      obtain⟨_,hFw⟩:=hat j L[j] hw
      obtain⟨hwl,_⟩:=hFb _ _ hFw
      obtain⟨M,G,g1,g2,g3,g4⟩:=vU (N:=N) hT v2 (al:=fun x=> !(decide (x=bY (aJ 0 bP).length L[j]))) hN
      rw [v1] at g1
      have eA: (fun u v=>v∈eN (aJ 0 bP).length (cK a.aL (aJ 0 bP)) u/\(!(decide (bY (aJ 0 bP).length v=bY (aJ 0 bP).length L[j])))=true)= (fun a' b'=>b'∈eN (aJ 0 bP).length (cK a.aL (aJ 0 bP)) a'/\b'≠L[j]):=by
       funext s t
       refine propext (and_congr_right fun _=>?_)
       rw [Bool.not_eq_true',decide_eq_false_iff_not]
       exact⟨fun h e=>h (by rw [e]),fun h e=>h (lG e)⟩
      rw [eA] at g3
      have hlj: (((L.take j).filter (CE (aJ 0 bP).length (cK a.aL (aJ 0 bP)) u v)).map (bY (aJ 0 bP).length)).length<=j:=by
       rw [dC]
       exact Nat.le_trans (j4 _ _) (List.length_take_le _ _)
      have ec: (bif (decide (bY (aJ 0 bP).length L[j]=h1)) then (some true) else (some ((decide (bY (aJ 0 bP).length L[j]=h2))||(!(dM M h1)))))=some (CE (aJ 0 bP).length (cK a.aL (aJ 0 bP)) u v L[j]):=by
       have d1: (bY (aJ 0 bP).length L[j]=h1)↔L[j]=u:=by rw [<-u1];exact⟨lG,fun h=>by rw [h]⟩
       have d2: (bY (aJ 0 bP).length L[j]=h2)↔L[j]=v:=by rw [<-v1];exact⟨lG,fun h=>by rw [h]⟩
       have d3:dM M h1= (G u).isSome:=by rw [<-u1];exact(g2 u).1
       have d4: (∀F,nF (fun a' b'=>b'∈eN (aJ 0 bP).length (cK a.aL (aJ 0 bP)) a'/\b'≠L[j]) v F->F u=none)↔G u=none:=⟨fun h=>h G g3,fun h F hF2=>by rw [hF2.uniq g3];exact h⟩
       unfold CE
       rw [d3]
       by_cases k1:L[j]=u
       ·rw [cE (d1.2 k1),aS,cE (.inl k1)]
       ·rw [bG (fun h=>k1 (d1.1 h)),aV]
        congr 1
        rw [fD,dP,bT,bT,d2,d4,Bool.not_eq_true',Option.isSome_eq_false_iff,Option.isNone_iff_eq_none]
        exact⟨fun h=> .inr h,fun h=>h.resolve_left k1⟩
      rw [eU hxw,aB,F3,g1,aB,ec,aB,fH hj,iF,dV]
      cases hbr:CE (aJ 0 bP).length (cK a.aL (aJ 0 bP)) u v L[j] with
      | true=>rw [aS,g9 (by simp only [f0,List.length_nil];omega),aB,aB,List.filter_cons_of_pos hbr,List.filter_nil];rfl
      | false=>rw [aV,aB,List.filter_cons_of_neg (by rw [hbr];exact j3),List.filter_nil,List.map_nil,lj]),aB,dC,fC]
   cases hd:F (cJ (aJ 0 bP).length h1) with
   | none=>
    rw [hd] at hWay hBr
    refine .none b h e1 hx e2 hy (fun a1 a2 z1 z2 hr=>?_) hWay hBr
    rw [hh] at z1;injection z1 with z1;subst z1
    rw [hh'] at z2;injection z2 with z2;subst z2
    exact(hroot.2 hr) hd
   | some d=>
    rw [hd] at hWay hBr
    exact .way b h e1 hx e2 hy hh hh' (hroot.1 (by rw [hd];exact fun h=>by cases h)) hF hd (hFb _ _ hd).2 hWay hBr
end
end Go.Gk
namespace Go.Gk
open Go Classical
section
variable {N:Nat}
variable {a:iW} {kb:List (List aA)} {bP:List (List (List aA))} {r:Nat->Nat} {gs:List cU} {ofP ofB jI:List Int} {jH:List bE}
end
end Go.Gk
namespace Go.Gk
open Go Classical
def pC (n:Nat) (fl:List fM) (v:Nat):Prop:=∃x∈fl,x.Open=true/\cJ n x.bE=v
structure IJ (bs:List bW) (n m:Nat) (fl:List fM):Prop where
 op: ∀x∈fl,x.Open=true->Az bs n m x.bE
 br: ∀x∈fl,x.Open=false->∃i k:Nat,x.A= ((i:Nat):Int)/\x.B= ((k:Nat):Int)/\i<k/\k<n
def Ha (n:Nat) (tch:List (List Int)) (fl:List fM) (i j:Nat):Prop:=Lk n tch i j\/∃x∈fl,x.Open=false/\x.A= ((i:Nat):Int)/\x.B= ((j:Nat):Int)
def Ff (n:Nat) (tch:List (List Int)) (fl:List fM) (i j:Nat):Prop:=Ha n tch fl i j/\¬pC n fl i/\¬pC n fl j
structure rl (t:Nat) (L:Nat->Nat->Prop) (r:Nat->Nat):Prop where
 le: ∀i,i<t->r i<=i
 rr: ∀i,i<t->r (r i)=r i
 co: ∀i j,L i j->r i=r j
 fi: ∀S:Nat->Prop,(∀i j,L i j->(S i↔S j))->∀i j,i<t->j<t->r i=r j->S i->S j
theorem rl.uniq {t:Nat} {L:Nat->Nat->Prop} {r1 r2:Nat->Nat} (h1:rl t L r1) (h2:rl t L r2) {i j:Nat} (hi:i<t) (hj:j<t):r1 i=r1 j↔r2 i=r2 j:=by
 have key: ∀{r1 r2:Nat->Nat},rl t L r1->rl t L r2->r1 i=r1 j->r2 i=r2 j:=fun{r1 r2} h1 h2 e=>
  (h1.fi (fun x=>r2 i=r2 x) (fun a b hab=>by rw [h2.co a b hab]) i j hi hj e) rfl
 exact⟨key h1 h2,key h2 h1⟩
noncomputable def kx (bs:List bW) (pcs:List aH) (fl:List fM) (l:dL):Option Nat:=(ku bs pcs l).bind fun h=>if pC pcs.length fl (cJ pcs.length h) then none else some (cJ pcs.length h)
section
variable {N:Nat} {r:Nat->Nat} {jI:List Int} {jH:List bE}
theorem Hb {bs:List bW} {n m:Nat} {h:bE} (hh:Az bs n m h) (hn:n+m<=1000000000):fT N h ((n:Nat):Int)=some ((cJ n h:Nat):Int)/\cJ n h<n+m:=by
 obtain⟨k,e,h1,h2⟩:=hh.num
 unfold fT cJ
 cases hB:h.bW with
 | true=>
  have:=(h1 hB).1
  rw [aS,aD rfl,e,bO,wrap_add (by omega)]
  exact⟨rfl,by omega⟩
 | false=>
  have:=h2 hB
  rw [aV,aC j3,e,bO]
  exact⟨rfl,by omega⟩
def Fg (t:Nat) (L:Nat->Nat->Prop) (op:Nat->Prop) (done:Nat->Nat->Prop) (u:List Int):Prop:=
 ∃r E,UF t u r/\mA r E/\vc t r E/\(∀p∈E,L p.1 p.2/\¬op p.1/\¬op p.2)/\∀i j,done i j->¬op i->¬op j->(i,j)∈E
theorem Fg.mono {t:Nat} {L:Nat->Nat->Prop} {op:Nat->Prop} {d d':Nat->Nat->Prop} {u:List Int} (h:Fg t L op d u) (hd: ∀i j,d' i j->d i j):Fg t L op d' u:=by
 obtain⟨r,E,h1,h2,h3,h4,h5⟩:=h
 exact⟨r,E,h1,h2,h3,h4,fun i j hij=>h5 i j (hd i j hij)⟩
theorem E1 {t:Nat} {L:Nat->Nat->Prop} {op:Nat->Prop} {done:Nat->Nat->Prop} {u:List Int} {om:List (Int×Bool)} (hom: ∀v:Nat,cL om ((v:Nat):Int) false=true↔op v) (hI:Fg t L op done u) {i k:Nat} (hi:i<t) (hk:k<t) (ht:t<N) (hL:L i k):
  Ok (ik N ((i:Nat):Int) ((k:Nat):Int) om u) (Fg t L op (fun a b=>done a b\/(a=i/\b=k))):=by
 obtain⟨r,E,h1,h2,h3,h4,h5⟩:=hI
 have skip:op i\/op k->Fg t L op (fun a b=>done a b\/(a=i/\b=k)) u:=fun ho=>⟨r,E,h1,h2,h3,h4,fun a b hab ha hb=>by
  rcases hab with hab | ⟨rfl,rfl⟩
  ·exact h5 a b hab ha hb
  ·rcases ho with ho | ho
   ·exact absurd ho ha
   ·exact absurd ho hb⟩
 unfold ik
 by_cases ho:op i
 ·refine Ok.eq (x:=false) (by rw [(hom i).2 ho];rfl) (Ok.ret (skip (.inl ho)))
 ·have e1:cL om ((i:Nat):Int) false=false:=by rw [Bool.eq_false_iff];exact fun h=>ho ((hom i).1 h)
  by_cases hp:op k
  ·refine Ok.eq (x:=false) (by rw [e1,(hom k).2 hp];rfl) (Ok.ret (skip (.inr hp)))
  ·have e2:cL om ((k:Nat):Int) false=false:=by rw [Bool.eq_false_iff];exact fun h=>hp ((hom k).1 h)
   refine Ok.eq (x:=true) (by rw [e1,e2];rfl) ?_
   obtain⟨u2,a1,a2⟩:=Cq (N:=N) h1 hi hk ht
   rw [aS,a1]
   refine Ok.ret ⟨_,_,a2,h2.join i k (h1.rr i hi),h3.join hi hk,fun p hp'=>?_,fun a b hab ha hb=>?_⟩
   ·rcases cQ.1 hp' with h | h
    ·exact h4 p h
    ·simp at h;subst h;exact⟨hL,ho,hp⟩
   ·rcases hab with hab | ⟨rfl,rfl⟩
    ·exact List.mem_append_left _ (h5 a b hab ha hb)
    ·simp
structure xL (bs:List bW) (pcs:List aH) (fl:List fM) (ls:List dL) (r2:Nat->Nat) (j:Nat) (up:List Int) (fm:List (Int×Int)) (out:List Int):Prop where
 uf:UF (pcs.length+bs.length) up r2
 len:out.length=ls.length
 no: ∀i l,i<j->ls[i]? =some l->kx bs pcs fl l=none->out[i]? =some (-1)
 yes: ∀i l v,i<j->ls[i]? =some l->kx bs pcs fl l=some v->dM fm ((r2 v:Nat):Int)=true/\out[i]? =some (cL fm ((r2 v:Nat):Int) 0)
 low: ∀x,dM fm x=true->∃(v:Nat) (l:dL) (u:Nat),cL fm x 0= ((v:Nat):Int)/\v<j/\ls[v]? =some l/\kx bs pcs fl l=some u/\((r2 u:Nat):Int)=x
 inj: ∀x y,dM fm x=true->dM fm y=true->cL fm x 0=cL fm y 0->x=y
 le: ∀(i v:Nat),out[i]? =some ((v:Nat):Int)->v<=i
theorem AM {bs:List bW} {pcs:List aH} {ls:List dL} {fl:List fM} (hfl:IJ bs pcs.length bs.length fl) (hfn:fl.length<=1073741824) (hn:pcs.length+bs.length<=1000000000) (hp:pcs.length<=1073741824) (hbl:bs.length<=1073741824) (hl:ls.length<=1073741824) (hof:jI=ls.map (AV bs pcs r)) (hat:jH=ls.map (fun l=>(ku bs pcs l).getD ⟨false,0⟩)) (hN:4398046511104<=N):
  ∃r2 c up fm,fZ N bs ls pcs (cK bs pcs) jI jH fl=some c/\rl (pcs.length+bs.length) (Ff pcs.length (cK bs pcs) fl) r2/\xL bs pcs fl ls r2 ls.length up fm c:=by
 suffices h:Ok (fZ N bs ls pcs (cK bs pcs) jI jH fl) (fun c=>∃r2 up fm,rl (pcs.length+bs.length) (Ff pcs.length (cK bs pcs) fl) r2/\xL bs pcs fl ls r2 ls.length up fm c) by
  obtain⟨c,h1,r2,up,fm,h2,h3⟩:=h
  exact⟨r2,c,up,fm,h1,h2,h3⟩
 unfold fZ
 refine Ok.bind (Ok.jq (fun q om=>∀v:Nat,cL om ((v:Nat):Int) false=true↔pC pcs.length (fl.take q) v) (by omega) (fun v=>⟨fun h=>(by cases h),fun⟨x,hx,_⟩=>(by simp at hx)⟩) (fun q om hq hI=>?_)) ?_
 ·have hx:fl[q]? =some fl[q]:=aK hq
  have hts:=fH hq
  refine Ok.ix hx ?_
  cases ho:fl[q].Open with
  | true=>
   obtain⟨c1,_⟩:=Hb (N:=N) (hfl.op _ (cM hq) ho) hn
   refine Ok.eq (x:=j9 om ((cJ pcs.length fl[q].bE:Nat):Int) true) (by rw [aS,c1,aB]) (Ok.ret fun v=>?_)
   rw [jS,hts]
   by_cases e: ((v:Nat):Int)= ((cJ pcs.length fl[q].bE:Nat):Int)
   ·rw [aD e]
    exact⟨fun _=>⟨fl[q],List.mem_append_right _ (lJ.2 rfl),ho,by omega⟩,fun _=>rfl⟩
   ·rw [aC e,hI v]
    constructor
    ·rintro⟨x,hx,h1,h2⟩;exact⟨x,List.mem_append_left _ hx,h1,h2⟩
    ·rintro⟨x,hx,h1,h2⟩
     rcases cQ.1 hx with hx | hx
     ·exact⟨x,hx,h1,h2⟩
     ·simp at hx;subst hx;exact absurd (by rw [h2]) e
  | false=>
   refine Ok.eq (x:=om) rfl (Ok.ret fun v=>?_)
   rw [hI v,hts]
   constructor
   ·rintro⟨x,hx,h1,h2⟩;exact⟨x,List.mem_append_left _ hx,h1,h2⟩
   ·rintro⟨x,hx,h1,h2⟩
    rcases cQ.1 hx with hx | hx
    ·exact⟨x,hx,h1,h2⟩
    ·simp at hx;subst hx;rw [ho] at h1;cases h1
 intro om hom
 rw [fC] at hom
 rw [wrap_add (by omega)]
 obtain⟨up0,u1,u2⟩:=vx (N:=N) (n:=pcs.length+bs.length) (by omega)
 refine Ok.eq u1 ?_
 have htl: (cK bs pcs).length=bs.length:=by unfold cK;simp
 have hto:=w8 (bs:=bs) (pcs:=pcs) (by omega)
 refine Ok.bind (Ok.jq (fun q u=>Fg (pcs.length+bs.length) (Ha pcs.length (cK bs pcs) fl) (pC pcs.length fl) (fun a b=>∃k l,k<q/\(cK bs pcs)[k]? =some l/\((a:Nat):Int)∈l/\b=pcs.length+k) u) (by omega)
  ⟨_,_,u2,mA.id,vc.id _,fun p hp=>(by cases hp),fun i j ⟨k,l,hk,_⟩=>by omega⟩ (fun q u hq hI=>?_)) ?_
 ·have hqx: (cK bs pcs)[q]? =some (cK bs pcs)[q]:=aK hq
  obtain⟨hl1,hl2⟩:=hto _ (cM hq)
  refine Ok.ix hqx ?_
  rw [wrap_add (by omega)]
  refine Ok.bind (Ok.jq (fun t u=>Fg (pcs.length+bs.length) (Ha pcs.length (cK bs pcs) fl) (pC pcs.length fl) (fun a b=>(∃k l,k<q/\(cK bs pcs)[k]? =some l/\((a:Nat):Int)∈l/\b=pcs.length+k)\/(((a:Nat):Int)∈(cK bs pcs)[q].take t/\b=pcs.length+q)) u) (by omega)
   (hI.mono fun i j h=>by rcases h with h | ⟨h,_⟩;exact h;simp at h) (fun t u ht hJ=>?_)) (fun u hJ=>Ok.ret (hJ.mono fun i j ⟨k,l,hk,h1,h2,h3⟩=>?_))
  ·have htx: (cK bs pcs)[q][t]? =some (cK bs pcs)[q][t]:=aK ht
   obtain⟨i,hi,e⟩:=hl2 _ (cM ht)
   refine Ok.ix htx ?_
   rw [e]
   refine Ok.bind (E1 hom hJ (i:=i) (k:=pcs.length+q) (by omega) (by omega) (by omega) (.inl ⟨q,_,hqx,by rw [<-e];exact cM ht,rfl⟩)) (fun u2 hu2=>Ok.ret (hu2.mono fun a b h=>?_))
   rw [fH ht] at h
   rcases h with h | ⟨h,hb⟩
   ·exact .inl (.inl h)
   ·rcases cQ.1 h with h | h
    ·exact .inl (.inr ⟨h,hb⟩)
    ·rw [lJ,e] at h;exact .inr ⟨by omega,hb⟩
  ·by_cases hkq:k<q
   ·exact .inl ⟨k,l,hkq,h1,h2,h3⟩
   ·have:k=q:=by omega
    subst this
    rw [hqx] at h1;injection h1 with h1;subst h1
    exact .inr ⟨by rw [fC];exact h2,h3⟩
 intro u3 h3
 refine Ok.bind (Ok.jq (fun q u=>Fg (pcs.length+bs.length) (Ha pcs.length (cK bs pcs) fl) (pC pcs.length fl) (fun a b=>Lk pcs.length (cK bs pcs) a b\/∃x∈fl.take q,x.Open=false/\x.A= ((a:Nat):Int)/\x.B= ((b:Nat):Int)) u) (by omega)
  (h3.mono fun i j h=>by
   rcases h with ⟨k,l,h1,h2,h3⟩ | ⟨x,hx,_⟩
   ·exact⟨k,l,(aY.1 h1).1,h1,h2,h3⟩
   ·simp at hx) (fun q u hq hI=>?_)) ?_
 ·have hx:fl[q]? =some fl[q]:=aK hq
  have hts:=fH hq
  refine Ok.ix hx ?_
  cases ho:fl[q].Open with
  | true=>
   refine Ok.eq (x:=u) rfl (Ok.ret (hI.mono fun a b h=>?_))
   rw [hts] at h
   rcases h with h | ⟨x,hx,h1,h2⟩
   ·exact .inl h
   ·rcases cQ.1 hx with hx | hx
    ·exact .inr ⟨x,hx,h1,h2⟩
    ·simp at hx;subst hx;rw [ho] at h1;cases h1
  | false=>
   obtain⟨i,k,e1,e2,e3,e4⟩:=hfl.br _ (cM hq) ho
   rw [lk,aS,e1,e2]
   refine Ok.bind (P:=Fg (pcs.length+bs.length) (Ha pcs.length (cK bs pcs) fl) (pC pcs.length fl) (fun a b=>(Lk pcs.length (cK bs pcs) a b\/∃x∈fl.take q,x.Open=false/\x.A= ((a:Nat):Int)/\x.B= ((b:Nat):Int))\/(a=i/\b=k))) (Ok.bind (E1 hom hI (i:=i) (k:=k) (by omega) (by omega) (by omega) (.inr ⟨fl[q],cM hq,ho,e1,e2⟩)) (fun u2 hu2=>Ok.ret hu2)) (fun u2 hu2=>Ok.ret (hu2.mono fun a b h=>?_))
   rw [hts] at h
   rcases h with h | ⟨x,hx,h1,h2,h3⟩
   ·exact .inl (.inl h)
   ·rcases cQ.1 hx with hx | hx
    ·exact .inl (.inr ⟨x,hx,h1,h2,h3⟩)
    ·simp at hx;subst hx
     rw [e1] at h2;rw [e2] at h3
     exact .inr ⟨by omega,by omega⟩
 rintro up1 ⟨r2,E,v1,v2,v3,v4,v5⟩
 rw [fC] at v5
 have hC:rl (pcs.length+bs.length) (Ff pcs.length (cK bs pcs) fl) r2:=
  ⟨v1.le,v1.rr,fun i j h=>v2 (i,j) (v5 i j h.1 h.2.1 h.2.2),fun S hS i j hi hj=>v3 S (fun p hp=>hS p.1 p.2 (v4 p hp)) i j hi hj⟩
 refine Ok.eq (rB 0 (by omega)) ?_
 have gR:jH.length=ls.length:=by rw [hat,dC]
 refine Ok.bind (Ok.jq (fun j (st:List Int×List (Int×Int)×List Int)=>xL bs pcs fl ls r2 j st.1 st.2.1 st.2.2) (by omega) ⟨v1,by simp,fun i l h=>by omega,fun i l h h1=>by omega,fun x hx=>(by cases hx),fun x y hx=>(by cases hx),fun i v hv=>by rw [List.getElem?_replicate] at hv;split at hv;injection hv with hv;omega;cases hv⟩ ?_) (fun st I=>Ok.ret ⟨r2,st.1,st.2.1,hC,by rw [<-gR];exact I⟩)
 rintro j ⟨up,fm,out⟩ hj I
 rw [gR] at hj
 dsimp only at I ⊢
 have hx:ls[j]? =some ls[j]:=aK hj
 have h1:jH[j]? =some ((ku bs pcs ls[j]).getD ⟨false,0⟩):=by rw [hat,eJ,hx];rfl
 have h2:jI[j]? =some (AV bs pcs r ls[j]):=by rw [hof,eJ,hx];rfl
 have h3:out[j]? =some (out[j]'(by rw [I.len];exact hj)):=aK _
 have hjo:j<out.length:=by rw [I.len];exact hj
 have hx0:=hx
 have dead:kx bs pcs fl ls[j]=none->xL bs pcs fl ls r2 (j+1) up fm (out.set j (-1)):=fun hnd=>by
  refine⟨I.uf,by rw [hZ];exact I.len,fun i l hi hil hn=>?_,fun i l v hi hil hs=>?_,fun x hx=>?_,I.inj,fun i v hv=>?_⟩
  ·by_cases e:i=j
   ·subst e;rw [List.getElem?_set_self hjo]
   ·rw [List.getElem?_set_ne (Ne.symm e)];exact I.no i l (by omega) hil hn
  ·by_cases e:i=j
   ·subst e;rw [hx] at hil;injection hil with hil;subst hil;rw [hnd] at hs;cases hs
   ·rw [List.getElem?_set_ne (Ne.symm e)];exact I.yes i l v (by omega) hil hs
  ·obtain⟨v,l,u,q1,q2,q3⟩:=I.low x hx;exact⟨v,l,u,q1,by omega,q3⟩
  ·by_cases e:i=j
   ·subst e;rw [List.getElem?_set_self hjo] at hv;injection hv with hv;omega
   ·rw [List.getElem?_set_ne (Ne.symm e)] at hv;exact I.le i v hv
 refine Ok.ix h1 ?_
 cases hh:ku bs pcs ls[j] with
 | none=>
  have e1:AV bs pcs r ls[j] = -1:=by unfold AV BJ;rw [hh];rfl
  refine Ok.eq (x:=0) rfl (Ok.eq (x:=true) (by rw [eU h2,aB,e1];rfl) ?_)
  refine Ok.ix h3 (Ok.ret ?_)
  dsimp only
  rw [bO]
  exact dead (by unfold kx;rw [hh];rfl)
 | some h=>
  obtain⟨c1,c2⟩:=G8 (N:=N) hh hn
  have e1: ∃g:Nat,AV bs pcs r ls[j]= ((g:Nat):Int):=by unfold AV BJ;rw [hh];exact⟨_,rfl⟩
  obtain⟨g,e1⟩:=e1
  refine Ok.eq c1 ?_
  by_cases hop:pC pcs.length fl (cJ pcs.length h)
  ·refine Ok.eq (x:=true) (by rw [eU h2,aB,e1,bG (show ¬((g:Nat):Int)<0 by omega),aV,(hom _).2 hop]) ?_
   refine Ok.ix h3 (Ok.ret ?_)
   dsimp only
   rw [bO]
   exact dead (by unfold kx;rw [hh,Option.bind_some,aD hop])
  have hnd:kx bs pcs fl ls[j]=some (cJ pcs.length h):=by unfold kx;rw [hh,Option.bind_some,aC hop]
  refine Ok.eq (x:=false) (by rw [eU h2,aB,e1,bG (show ¬((g:Nat):Int)<0 by omega),aV];rw [Bool.eq_false_iff.2 fun h=>hop ((hom _).1 h)]) ?_
  rw [aV]
  obtain⟨up2,t1,t2⟩:=qY (N:=N) I.uf c2 (by omega)
  refine Ok.eq t1 ?_
  dsimp only
  have fin: ∀(up3:List Int) (fm2:List (Int×Int)),UF (pcs.length+bs.length) up3 r2->(∀x,dM fm x=true->dM fm2 x=true/\cL fm2 x 0=cL fm x 0)->dM fm2 ((r2 (cJ pcs.length h):Nat):Int)=true->(∀x,dM fm2 x=true->∃(v:Nat) (l:dL) (u:Nat),cL fm2 x 0= ((v:Nat):Int)/\v<j+1/\ls[v]? =some l/\kx bs pcs fl l=some u/\((r2 u:Nat):Int)=x)->(∀x y,dM fm2 x=true->dM fm2 y=true->cL fm2 x 0=cL fm2 y 0->x=y)->
    xL bs pcs fl ls r2 (j+1) up3 fm2 (out.set j (cL fm2 ((r2 (cJ pcs.length h):Nat):Int) 0)):=fun up3 fm2 g1 g2 g3 g4 g5=>by
   refine⟨g1,by rw [hZ];exact I.len,fun i l hi hil hn=>?_,fun i l h' hi hil hs=>?_,g4,g5,fun i v hv=>?_⟩
   ·by_cases e:i=j
    ·subst e;rw [hx] at hil;injection hil with hil;subst hil;rw [hnd] at hn;cases hn
    ·rw [List.getElem?_set_ne (Ne.symm e)];exact I.no i l (by omega) hil hn
   ·by_cases e:i=j
    ·subst e;rw [hx] at hil;injection hil with hil;subst hil;rw [hnd] at hs;injection hs with hs;subst hs
     exact⟨g3,by rw [List.getElem?_set_self hjo]⟩
    ·obtain⟨q1,q2⟩:=I.yes i l h' (by omega) hil hs
     rw [List.getElem?_set_ne (Ne.symm e),q2,(g2 _ q1).2]
     exact⟨(g2 _ q1).1,rfl⟩
   ·by_cases e:i=j
    ·subst e
     rw [List.getElem?_set_self hjo] at hv;injection hv with hv
     obtain⟨v',_,_,q1,q2,_⟩:=g4 _ g3
     rw [q1] at hv;omega
    ·rw [List.getElem?_set_ne (Ne.symm e)] at hv;exact I.le i v hv
  cases hm:dM fm ((r2 (cJ pcs.length h):Nat):Int) with
  | true=>
   rw [j5,aV]
   obtain⟨up3,t3,t4⟩:=qY (N:=N) t2 c2 (by omega)
   refine Ok.eq (x:=(up2,fm)) rfl (Ok.eq t3 (Ok.ix h3 (Ok.ret ?_)))
   dsimp only
   rw [bO]
   exact fin up3 fm t4 (fun x hx=>⟨hx,rfl⟩) hm (fun x hx=>by obtain⟨v,l,u,q1,q2,q3⟩:=I.low x hx;exact⟨v,l,u,q1,by omega,q3⟩) I.inj
  | false=>
   rw [lk,aS]
   obtain⟨up3,t3,t4⟩:=qY (N:=N) t2 c2 (by omega)
   obtain⟨up4,t5,t6⟩:=qY (N:=N) t4 c2 (by omega)
   refine Ok.eq (x:=(up3,j9 fm ((r2 (cJ pcs.length h):Nat):Int) ((j:Nat):Int))) (by rw [t3,aB]) (Ok.eq t5 (Ok.ix h3 (Ok.ret ?_)))
   dsimp only
   rw [bO]
   refine fin up4 _ t6 (fun x hx=>?_) (by rw [mz];simp) (fun x hx=>?_) (fun x y hx hy e=>?_)
   ·have hne:x≠((r2 (cJ pcs.length h):Nat):Int):=fun e=>by rw [e,hm] at hx;cases hx
    rw [mz,jS,aC hne,hx]
    exact⟨by simp,rfl⟩
   ·rw [jS]
    by_cases e:x= ((r2 (cJ pcs.length h):Nat):Int)
    ·rw [aD e];exact⟨j,ls[j],_,rfl,by omega,hx0,hnd,e.symm⟩
    ·rw [aC e]
     rw [mz,bG e,Bool.false_or] at hx
     obtain⟨v,l,u,q1,q2,q3⟩:=I.low x hx;exact⟨v,l,u,q1,by omega,q3⟩
   ·rw [jS,jS] at e
    rw [mz] at hx hy
    by_cases ex:x= ((r2 (cJ pcs.length h):Nat):Int)
    ·by_cases ey:y= ((r2 (cJ pcs.length h):Nat):Int)
     ·rw [ex,ey]
     ·rw [aD ex,aC ey] at e
      rw [bG ey,Bool.false_or] at hy
      obtain⟨v,_,_,q1,q2,_⟩:=I.low y hy
      omega
    ·rw [bG ex,Bool.false_or] at hx
     by_cases ey:y= ((r2 (cJ pcs.length h):Nat):Int)
     ·rw [aC ex,aD ey] at e
      obtain⟨v,_,_,q1,q2,_⟩:=I.low x hx
      omega
     ·rw [aC ex,aC ey] at e
      rw [bG ey,Bool.false_or] at hy
      exact I.inj x y hx hy e
def zk (n:Nat) (k:Int):Bool:=decide (k>=0)&&decide (k<=((n:Nat):Int) - 1)
def p4 (bs:List bW) (n:Nat) (x:fM):Bool:=bif x.Open then (bif x.bE.bW then zk bs.length x.bE.Number&&sZ bs x.bE.Number.toNat else zk n x.bE.Number) else zk n x.A&&zk n x.B
def AN (x:fM):Bool:=bif x.Open then x.A != 0||x.B != 0 else !decide (x.bE= ⟨false,0⟩)
def sw (bs:List bW) (n:Nat) (fl:List fM) (k:Nat):Option Int:=(fl[k]?).bind fun x=>
 if AN x=true then some 3 else if p4 bs n x=false then some 9 else if (!x.Open&&decide (x.B<=x.A))=true then some 8 else if x∈fl.take k then some 7 else none
def mC (bs:List bW) (n:Nat) (fl:List fM):Int:=if 20<fl.length then 2 else (qH fl.length (sw bs n fl)).getD 0
theorem xM {l:List fM} {x:fM} (hl:l.length<=1048576):gO N l x=some (decide (x∈l)):=by
 have e:gO N l x=o7 l x:=rfl
 rw [e,tI (by omega)]
theorem xN {a1:List (List aI)} {a2:List aI} {bs:List bW} {a4:List dL} {a5:List (List aA)} {pcs:List aH} {a7:List (List Int)} {a8:List cU} {a9 a10 a11:List Int} {a12:List bE} {fl:List fM} (hp:pcs.length<=1073741824) (hb:bs.length<=1073741824) (hf:fl.length<=1048576):
  jh N a1 a2 bs a4 a5 pcs a7 a8 a9 a10 a11 a12 fl=some (mC bs pcs.length fl):=by
 unfold jh mC
 by_cases h20:20<fl.length
 ·rw [cE (show ((fl.length:Nat):Int)>20 by omega),aS,aD h20]
 rw [bG (show ¬((fl.length:Nat):Int)>20 by omega),aV,aC h20]
 have w: ∀(n:Nat) (k:Int),n<=1073741824->lU N k 0 (IntKind.wrap .i64 (((n:Nat):Int) - 1))=some (zk n k):=fun n k hn=>by
  rw [eP (by omega) (by omega)];rfl
 have w1: ∀k:Int,fA N k pcs=some (zk pcs.length k):=fun k=>by
  unfold fA;rw [w _ _ hp];rfl
 have assoc: ∀{β:Type} (a:Option Bool) (b c:Bool->Option Bool) (g:Bool->Option β),(a.bind fun s=>(b s).bind fun t=>(c t).bind g)= (a.bind fun s=>(b s).bind c).bind g:=fun a b c g=>by
  cases a with
  | none=>rfl
  | some s=>show (b s).bind _= ((b s).bind c).bind g;cases b s <;> rfl
 rw [nR (sw bs pcs.length fl) (by omega) (fun k hk _=>by
  have hx:fl[k]? =some fl[k]:=aK hk
  have hs:qt fl 0 ((k:Nat):Int)=some (fl.take k):=by
   unfold qt
   rw [aD ⟨by omega,by omega,by omega⟩];simp
  rw [eU hx,aB]
  unfold sw
  rw [hx,Option.bind_some]
  have e1: (bif (fl[k].Open&&((fl[k].A != 0)||(fl[k].B != 0))) then (some true) else (bif (!fl[k].Open) then (some (!(decide (fl[k].bE= (⟨false,0⟩:bE))))) else (some false)))=some (AN fl[k]):=by
   unfold AN
   cases fl[k].Open with
   | true=>cases (fl[k].A != 0||fl[k].B != 0) <;> rfl
   | false=>rfl
  rw [e1,aB]
  cases hfm:AN fl[k] with
  | true=>rw [aS,aD rfl];rfl
  | false=>
   rw [aV,aC j3,w1,w1,w1,w _ _ hb]
   have e2: (((some (zk pcs.length fl[k].A)).bind fun x117=>bif x117 then ((some (zk pcs.length fl[k].B)).bind fun x119=>some x119) else (some false)).bind fun s116=>(bif fl[k].Open then ((some (zk pcs.length fl[k].bE.Number)).bind fun x122=>some x122) else (some s116)).bind fun s121=>(bif (fl[k].Open&&fl[k].bE.bW) then (((some (zk bs.length fl[k].bE.Number)).bind fun x143=>bif x143 then ((idx bs fl[k].bE.Number).bind fun x145=>some x145.gD) else (some false)).bind fun s142=>some s142) else (some s121)):Option Bool)=some (p4 bs pcs.length fl[k]):=by
    unfold p4
    simp only [aB]
    cases fl[k].Open with
    | false=>
     cases zk pcs.length fl[k].A <;> rfl
    | true=>
     simp only [aS,Bool.true_and]
     cases hA:zk pcs.length fl[k].A <;> simp only [aS,aV,aB]
     all_goals
      cases fl[k].bE.bW with
      | false=>rfl
      | true=>
       simp only [aS]
       cases hB:zk bs.length fl[k].bE.Number with
       | false=>rfl
       | true=>
        unfold zk at hB
        rw [bV,bT,bT] at hB
        have hlt:fl[k].bE.Number.toNat<bs.length:=by omega
        have hbx:bs[fl[k].bE.Number.toNat]? =some bs[fl[k].bE.Number.toNat]:=aK hlt
        have hi:=eU hbx
        rw [Int.toNat_of_nonneg hB.1] at hi
        rw [aS,hi,aB,aB,Bool.true_and]
        unfold sZ
        rw [hbx];rfl
   refine(assoc _ _ _ _).trans ((congrArg (fun o=>Option.bind o _) e2).trans ?_)
   rw [aB]
   cases p4 bs pcs.length fl[k] with
   | false=>rfl
   | true=>
    rw [j5,aV,aC (by decide)]
    cases (!fl[k].Open&&decide (fl[k].B<=fl[k].A)) with
    | true=>rfl
    | false=>
     rw [aV,aC j3,hs,aB,xM (by rw [dA];omega),aB]
     by_cases hm:fl[k]∈fl.take k
     ·rw [cE hm,aS,aD hm];rfl
     ·rw [bG hm,aV,aC hm];rfl),aB]
 cases qH fl.length (sw bs pcs.length fl) <;> rfl
theorem vB {bs:List bW} {n:Nat} {fl:List fM} (h:mC bs n fl=0):fl.length<=20/\IJ bs n bs.length fl:=by
 unfold mC at h
 split at h
 ·cases h
 rename_i h20
 have hn: ∀k,k<fl.length->sw bs n fl k=none:=by
  cases hf:qH fl.length (sw bs n fl) with
  | none=>exact kJ.1 hf
  | some e=>
   rw [hf] at h
   obtain⟨k,hk,he,_⟩:=mx.1 hf
   have h:e=0:=h
   subst h
   unfold sw at he
   rw [aK hk,Option.bind_some] at he
   repeat' split at he
   all_goals (first | (injection he with he;omega) | cases he)
 have hx: ∀x∈fl,p4 bs n x=true/\(x.Open=false->x.A<x.B):=fun x hx=>by
  obtain⟨k,hk,rfl⟩:=List.mem_iff_getElem.1 hx
  have:=hn k hk
  unfold sw at this
  rw [aK hk,Option.bind_some] at this
  split at this
  ·cases this
  ·split at this
   ·cases this
   ·rename_i h2
    split at this
    ·cases this
    ·rename_i h3
     refine⟨by simpa using h2,fun ho=>?_⟩
     rw [ho,lk,Bool.true_and,bT] at h3
     omega
 have inp: ∀{n:Nat} {k:Int},zk n k=true->∃j:Nat,k= ((j:Nat):Int)/\j<n:=fun{n k} h=>by
  unfold zk at h
  rw [bV,bT,bT] at h
  exact⟨k.toNat,by omega,by omega⟩
 refine⟨by omega,fun x hm ho=>?_,fun x hm ho=>?_⟩
 ·obtain⟨h1,_⟩:=hx x hm
  unfold p4 at h1
  rw [ho,aS] at h1
  cases hB:x.bE.bW with
  | true=>
   rw [hB,aS,bV] at h1
   obtain⟨j,e,hj⟩:=inp h1.1
   refine⟨j,e,fun _=>⟨hj,?_⟩,fun h=>(by rw [hB] at h;cases h)⟩
   rw [e,bO] at h1;exact h1.2
  | false=>
   rw [hB,aV] at h1
   obtain⟨j,e,hj⟩:=inp h1
   exact⟨j,e,fun h=>(by rw [hB] at h;cases h),fun _=>hj⟩
 ·obtain⟨h1,h2⟩:=hx x hm
  unfold p4 at h1
  rw [ho,aV,bV] at h1
  obtain⟨i,e1,hi⟩:=inp h1.1
  obtain⟨k,e2,hk⟩:=inp h1.2
  have:=h2 ho
  exact⟨i,k,e1,e2,by omega,hk⟩
end
end Go.Gk
namespace Go.Gk
open Go Classical
structure E2 (c:List Int):Prop where
 neg: ∀(i:Nat) (x:Int),c[i]? =some x->x<0->x = -1
 own: ∀(i v:Nat),c[i]? =some ((v:Nat):Int)->c[v]? =some ((v:Nat):Int)
def vC (c:List Int) (i k:Nat):Bool:=decide (c.getD i (-1)>=0)&&c.getD i (-1)==c.getD k (-1)
section
variable {r:Nat->Nat}
theorem xL.first {bs:List bW} {pcs:List aH} {fl:List fM} {ls:List dL} {r2:Nat->Nat} {up:List Int} {fm:List (Int×Int)} {c:List Int} (h:xL bs pcs fl ls r2 ls.length up fm c):E2 c where
 neg:=fun i x hx h0=>by
  have hi:=(aY.1 hx).1
  rw [h.len] at hi
  have hl:ls[i]? =some ls[i]:=aK hi
  cases hn:kx bs pcs fl ls[i] with
  | none=>have:=h.no i _ hi hl hn;rw [hx] at this;injection this
  | some u=>
   obtain⟨q1,q2⟩:=h.yes i _ u hi hl hn
   obtain⟨v,_,_,q3,_⟩:=h.low _ q1
   rw [hx,q3] at q2;injection q2 with q2;omega
 own:=fun i v hx=>by
  have hi:=(aY.1 hx).1
  rw [h.len] at hi
  have hl:ls[i]? =some ls[i]:=aK hi
  cases hn:kx bs pcs fl ls[i] with
  | none=>have:=h.no i _ hi hl hn;rw [hx] at this;injection this with this;omega
  | some u=>
   obtain⟨q1,q2⟩:=h.yes i _ u hi hl hn
   obtain⟨v',l',u',q3,q4,q5,q6,q7⟩:=h.low _ q1
   have e:v=v':=by rw [hx,q3] at q2;injection q2 with q2;omega
   subst e
   obtain⟨s1,s2⟩:=h.yes v l' u' q4 q5 q6
   rw [q7,q3] at s2;exact s2
theorem xL.conn {bs:List bW} {pcs:List aH} {fl:List fM} {ls:List dL} {r2:Nat->Nat} {up:List Int} {fm:List (Int×Int)} {c:List Int} (h:xL bs pcs fl ls r2 ls.length up fm c) {i k:Nat} {x y:dL} (hx:ls[i]? =some x) (hy:ls[k]? =some y):
  vC c i k=true↔∃u v,kx bs pcs fl x=some u/\kx bs pcs fl y=some v/\r2 u=r2 v:=by
 have hi:=(aY.1 hx).1
 have hk:=(aY.1 hy).1
 unfold vC
 rw [bV,bT,beq_iff_eq,List.getD_eq_getElem?_getD,List.getD_eq_getElem?_getD]
 cases hn:kx bs pcs fl x with
 | none=>
  rw [h.no i x hi hx hn,Option.getD_some]
  exact⟨fun h=>absurd h.1 (by decide),fun⟨u,v,e,_⟩=>(by cases e)⟩
 | some u=>
  obtain⟨q1,q2⟩:=h.yes i x u hi hx hn
  obtain⟨a,_,_,q3,_⟩:=h.low _ q1
  rw [q2,Option.getD_some,q3]
  cases hm:kx bs pcs fl y with
  | none=>
   rw [h.no k y hk hy hm,Option.getD_some]
   exact⟨fun h=>absurd h.2 (by omega),fun⟨u,v,_,e,_⟩=>(by cases e)⟩
  | some v=>
   obtain⟨s1,s2⟩:=h.yes k y v hk hy hm
   obtain⟨b,_,_,s3,_⟩:=h.low _ s1
   rw [s2,Option.getD_some,s3]
   constructor
   ·rintro⟨_,e⟩
    have:=h.inj _ _ q1 s1 (by rw [q3,s3];exact e)
    exact⟨u,v,rfl,rfl,by omega⟩
   ·rintro⟨u',v',e1,e2,e3⟩
    injection e1 with e1;injection e2 with e2
    subst e1;subst e2
    rw [e3,s3] at q3
    exact⟨by omega,q3.symm⟩
end
end Go.Gk
namespace Go.Gk
open Go Classical
section
variable {N:Nat} {a:iW} {kb:List (List aA)} {bP:List (List (List aA))} {r:Nat->Nat} {gs:List cU} {ofP ofB jI:List Int} {jH:List bE}
theorem AO (b:jY a kb bP r gs ofP ofB jI jH) {fl:List fM} (h0:mC a.aL (aJ 0 bP).length fl=0) (hN:4398046511104<=N):
  ∃r2 c up fm,fZ N a.aL a.bD (aJ 0 bP) (cK a.aL (aJ 0 bP)) jI jH fl=some c/\rl ((aJ 0 bP).length+a.aL.length) (Ff (aJ 0 bP).length (cK a.aL (aJ 0 bP)) fl) r2/\xL a.aL (aJ 0 bP) fl a.bD r2 a.bD.length up fm c:=by
 have hf:=b.xJ.2
 have hbl:=b.EU.gb.len
 have hlf:=b.yi.xJ
 obtain⟨h20,hok⟩:=vB h0
 exact AM (N:=N) (r:=r) hok (by omega) (by omega) (by omega) (by omega) (by omega) b.Fe.jI b.Fe.jH hN
theorem xO (b:jY a kb bP r gs ofP ofB jI jH) (h1:gu N a=some (some (a.aN,a.dH,a.aL,a.bD,kb,aJ 0 bP,cK a.aL (aJ 0 bP),gs,ofP,ofB,jI,jH),0)) {fl:List fM} (h0:mC a.aL (aJ 0 bP).length fl=0) {c:List Int}
  (hc:fZ N a.aL a.bD (aJ 0 bP) (cK a.aL (aJ 0 bP)) jI jH fl=some c) (hl:c.length=a.bD.length) (p q:fX) (hN:4398046511104<=N):
  g8 N a fl p q=some (bif decide (ml a p<0)||decide (ml a q<0) then (false,9) else (vC c (ml a p).toNat (ml a q).toNat,0)):=by
 have hf:=b.xJ.2
 have hbl:=b.EU.gb.len
 obtain⟨h20,_⟩:=vB h0
 unfold g8
 rw [h1,aB,vn b.yi p hN,vn b.yi q hN]
 simp only [B3,bne_self_eq_false,aV,aB]
 rw [xN (by omega) (by omega) (by omega),h0,aB,bne_self_eq_false,aV]
 rcases lF a p with ⟨e1,_⟩ | ⟨i,x,e1,hx,_⟩
 ·rw [e1];rfl
 ·rcases lF a q with ⟨e2,_⟩ | ⟨k,y,e2,hy,_⟩
  ·rw [e2,e1,cE (show (-1:Int)<0 by decide),Bool.or_true,aS,aS]
  ·have hi:=(aY.1 hx).1
   have hk:=(aY.1 hy).1
   have ei:c[i]? =some (c[i]'(by omega)):=aK _
   have ek:c[k]? =some (c[k]'(by omega)):=aK _
   rw [e1,e2,bG (show ¬((i:Nat):Int)<0 by omega),bG (show ¬((k:Nat):Int)<0 by omega),Bool.or_false,aV,aV,hc,aB,eU ei,eU ek]
   unfold vC
   rw [bO,bO,List.getD_eq_getElem?_getD,List.getD_eq_getElem?_getD,ei,ek,Option.getD_some,Option.getD_some,aB]
   cases decide (c[i]'(by omega)>=0) <;> rfl
end
end Go.Gk
namespace Go.Gk
open Go Classical
section
variable {N:Nat}
end
section
variable {N:Nat} {a:iW} {kb:List (List aA)} {bP:List (List (List aA))} {r:Nat->Nat} {gs:List cU} {ofP ofB jI:List Int} {jH:List bE}
end
end Go.Gk
namespace Go.Gk
open Go Classical
theorem BR {bs:List bW} {n:Nat} {x:fM} (h1:AN x=false) (h2:p4 bs n x=true) (h3:x.Open=false->x.A<x.B):mC bs n [x]=0:=by
 unfold mC
 have e:sw bs n [x] 0=none:=by
  unfold sw
  rw [show ([x]:List fM)[0]? =some x from rfl,Option.bind_some,h1,aC j3,h2,aC (by decide)]
  cases ho:x.Open with
  | true=>rfl
  | false=>
   have:=h3 ho
   rw [lk,Bool.true_and,bG (by omega),aC j3,aC (by simp)]
 rw [aC (by simp),kJ.2 (fun k hk=>by
  have:k=0:=by simp at hk;omega
  subst this;exact e)];rfl
theorem xm {bs:List bW} {n:Nat}:mC bs n []=0:=rfl
noncomputable def xn (N:Nat) (a:iW) (bP:List (List (List aA))) (jI:List Int) (jH:List bE) (fl:List fM):List Int:=(fZ N a.aL a.bD (aJ 0 bP) (cK a.aL (aJ 0 bP)) jI jH fl).getD []
section
variable {N:Nat} {a:iW} {kb:List (List aA)} {bP:List (List (List aA))} {r:Nat->Nat} {gs:List cU} {ofP ofB jI:List Int} {jH:List bE}
theorem Hc (b:jY a kb bP r gs ofP ofB jI jH) {fl:List fM} (h0:mC a.aL (aJ 0 bP).length fl=0) (hN:4398046511104<=N):
  fZ N a.aL a.bD (aJ 0 bP) (cK a.aL (aJ 0 bP)) jI jH fl=some (xn N a bP jI jH fl)/\(xn N a bP jI jH fl).length=a.bD.length/\E2 (xn N a bP jI jH fl):=by
 obtain⟨r2,c,up,fm,c1,c2,c3⟩:=AO b h0 hN
 have e:xn N a bP jI jH fl=c:=by unfold xn;rw [c1];rfl
 rw [e]
 exact⟨c1,c3.len,c3.first⟩
end
section
variable {N:Nat}
end
end Go.Gk
namespace Go.Gk
open Go Classical
section
variable {N:Nat} {a:iW} {kb:List (List aA)} {bP:List (List (List aA))} {r:Nat->Nat} {gs:List cU} {ofP ofB jI:List Int} {jH:List bE}
theorem AP (b:jY a kb bP r gs ofP ofB jI jH) {fl:List fM} (h0:mC a.aL (aJ 0 bP).length fl=0) (hN:4398046511104<=N):
  ∃r2,rl ((aJ 0 bP).length+a.aL.length) (Ff (aJ 0 bP).length (cK a.aL (aJ 0 bP)) fl) r2/\∀{i k:Nat} {x y:dL},a.bD[i]? =some x->a.bD[k]? =some y->
   (vC (xn N a bP jI jH fl) i k=true↔∃u v,kx a.aL (aJ 0 bP) fl x=some u/\kx a.aL (aJ 0 bP) fl y=some v/\r2 u=r2 v):=by
 obtain⟨r2,c,up,fm,c1,c2,c3⟩:=AO b h0 hN
 have e:xn N a bP jI jH fl=c:=by unfold xn;rw [c1];rfl
 rw [e]
 exact⟨r2,c2,fun hx hy=>c3.conn hx hy⟩
end
end Go.Gk
namespace Go.Gk
open Go Classical
def F5 (h:bE):fM:=⟨true,h,0,0⟩
def E3 (bs:List bW) (n v:Nat):Prop:=v<n\/(n<=v/\v<n+bs.length/\sZ bs (v - n)=true)
theorem AQ (n v:Nat):cJ n (bY n v)=v:=by
 unfold bY cJ
 by_cases h:v<n
 ·rw [aD h,aC j3,bO]
 ·rw [aC h,aD rfl,bO];omega
theorem yl {bs:List bW} {n v:Nat} (h:E3 bs n v):mC bs n [F5 (bY n v)]=0:=by
 refine BR rfl ?_ (fun h=>by cases h)
 have inp: ∀{n k:Nat},k<n->zk n ((k:Nat):Int)=true:=fun{n k} h=>by
  unfold zk
  rw [bV,bT,bT];omega
 unfold p4 F5 bY
 rcases h with h | ⟨h1,h2,h3⟩
 ·rw [aD h]
  exact inp h
 ·rw [aC (by omega)]
  simp only [aS]
  rw [inp (by omega),bO,h3];rfl
theorem rM {n w v:Nat}:pC n [F5 (bY n w)] v↔v=w:=by
 unfold pC
 constructor
 ·rintro⟨x,hx,_,e⟩
  rw [lJ] at hx
  subst hx
  rw [<-e]
  exact AQ n w
 ·intro e
  exact⟨_,lJ.2 rfl,rfl,by rw [e];exact AQ n w⟩
theorem ze {n:Nat} {tch:List (List Int)} {w i j:Nat}:Ff n tch [F5 (bY n w)] i j↔Lk n tch i j/\i≠w/\j≠w:=by
 unfold Ff Ha
 rw [rM,rM]
 constructor
 ·rintro⟨h | ⟨x,hx,h,_⟩,h1,h2⟩
  ·exact⟨h,h1,h2⟩
  ·rw [lJ] at hx;subst hx;cases h
 ·rintro⟨h,h1,h2⟩
  exact⟨.inl h,h1,h2⟩
theorem F6 {n:Nat} {tch:List (List Int)} {i j:Nat}:Ff n tch [] i j↔Lk n tch i j:=by
 unfold Ff Ha pC
 simp
section
variable {N:Nat} {a:iW} {kb:List (List aA)} {bP:List (List (List aA))} {r:Nat->Nat} {gs:List cU} {ofP ofB jI:List Int} {jH:List bE}
theorem E4 (b:jY a kb bP r gs ofP ofB jI jH) {u v:Nat} (h:v∈eN (aJ 0 bP).length (cK a.aL (aJ 0 bP)) u):E3 a.aL (aJ 0 bP).length v:=by
 have hT:=oe b
 rcases (mF hT).1 h with h1 | h1
 ·obtain⟨g1,g2,g3⟩:=CB hT h1
  obtain⟨k,l,q1,q2,q3⟩:=h1
  right
  refine⟨g2,g3,?_⟩
  rw [q3,Nat.add_sub_cancel_left]
  exact EY k l q1 (fun e=>by rw [e] at q2;cases q2)
 ·left;exact(CB hT h1).1
theorem E5 {bs:List bW} {n m:Nat} {h:bE} (hm:bs.length=m) (hh:Az bs n m h):E3 bs n (cJ n h):=by
 obtain⟨k,e,h1,h2⟩:=hh.num
 unfold cJ
 cases hB:h.bW with
 | true=>
  obtain⟨q1,q2⟩:=h1 hB
  rw [aD rfl,e,bO]
  right
  exact⟨by omega,by omega,by rw [Nat.add_sub_cancel_left];exact q2⟩
 | false=>
  rw [aC j3,e,bO]
  exact .inl (h2 hB)
theorem Hd (b:jY a kb bP r gs ofP ofB jI jH) {r2:Nat->Nat} {u v w:Nat} (hC:rl ((aJ 0 bP).length+a.aL.length) (Ff (aJ 0 bP).length (cK a.aL (aJ 0 bP)) [F5 (bY (aJ 0 bP).length w)]) r2)
  (hu:u< (aJ 0 bP).length+a.aL.length) (hv:v< (aJ 0 bP).length+a.aL.length) (huw:u≠w) (hvw:v≠w) {F:Nat->Option Nat} (hF:nF (fun x y=>y∈eN (aJ 0 bP).length (cK a.aL (aJ 0 bP)) x/\y≠w) v F):F u≠none↔r2 u=r2 v:=by
 have hT:=oe b
 constructor
 ·intro h
  refine((hF.reach u).1 h (fun x=>x≠w/\r2 x=r2 v) ⟨hvw,rfl⟩ (fun x y hxy hx=>⟨hxy.2,?_⟩)).2
  rcases (mF hT).1 hxy.1 with h1 | h1
  ·rw [<-hC.co _ _ (ze.2 ⟨h1,hx.1,hxy.2⟩)];exact hx.2
  ·rw [hC.co _ _ (ze.2 ⟨h1,hxy.2,hx.1⟩)];exact hx.2
 ·intro h
  refine hC.fi (fun x=>F x≠none) (fun i j hij=>?_) v u hv hu h.symm (by rw [hF.zero];exact fun h=>by cases h)
  obtain⟨q1,q2,q3⟩:=ze.1 hij
  have key: ∀{i j},(j∈eN (aJ 0 bP).length (cK a.aL (aJ 0 bP)) i/\j≠w)->F i≠none->F j≠none:=fun{i j} hij hi=>by
   cases hfi:F i with
   | none=>exact absurd hfi hi
   | some d=>
    obtain⟨e,h1,_⟩:=hF.step i j d hij hfi
    rw [h1];exact fun h=>by cases h
  exact⟨key ⟨(mF hT).2 (.inl q1),q3⟩,key ⟨(mF hT).2 (.inr q1),q2⟩⟩
theorem DF (b:jY a kb bP r gs ofP ofB jI jH) {v:Nat} (w:Nat) (hv:v< (aJ 0 bP).length+a.aL.length) (hN:4398046511104<=N): ∃F,nF (fun x y=>y∈eN (aJ 0 bP).length (cK a.aL (aJ 0 bP)) x/\y≠w) v F:=by
 obtain⟨M,F,_,_,f3,f4⟩:=vU (N:=N) (oe b) hv (al:=fun x=> !(decide (x=bY (aJ 0 bP).length w))) hN
 have key: ∀y,(!(decide (bY (aJ 0 bP).length y=bY (aJ 0 bP).length w)))=true↔y≠w:=fun y=>by
  rw [Bool.not_eq_true',decide_eq_false_iff_not]
  exact⟨fun h e=>h (by rw [e]),fun h e=>h (lG e)⟩
 refine⟨F,⟨f3.zero,f3.DH,fun v d hv=>?_,fun u v d huv hu=>f3.step u v d ⟨huv.1,(key v).2 huv.2⟩ hu⟩⟩
 obtain⟨u,h1,h2⟩:=f3.back v d hv
 exact⟨u,⟨h1.1,(key v).1 h1.2⟩,h2⟩
theorem BS (b:jY a kb bP r gs ofP ofB jI jH) {i k:Nat} {x y:dL} (hx:a.bD[i]? =some x) (hy:a.bD[k]? =some y) {h h':bE} (hh:ku a.aL (aJ 0 bP) x=some h) (hh':ku a.aL (aJ 0 bP) y=some h') {w:Nat} (hw:E3 a.aL (aJ 0 bP).length w) (hN:4398046511104<=N):
  vC (xn N a bP jI jH [F5 (bY (aJ 0 bP).length w)]) i k = !CE (aJ 0 bP).length (cK a.aL (aJ 0 bP)) (cJ (aJ 0 bP).length h) (cJ (aJ 0 bP).length h') w:=by
 obtain⟨r2,hC,hcn⟩:=AP b (yl hw) hN
 obtain⟨u1,u2⟩:=pB (pY hh)
 obtain⟨v1,v2⟩:=pB (pY hh')
 have nx:kx a.aL (aJ 0 bP) [F5 (bY (aJ 0 bP).length w)] x=if cJ (aJ 0 bP).length h=w then none else some (cJ (aJ 0 bP).length h):=by
  unfold kx;rw [hh,Option.bind_some];simp only [rM]
 have ny:kx a.aL (aJ 0 bP) [F5 (bY (aJ 0 bP).length w)] y=if cJ (aJ 0 bP).length h'=w then none else some (cJ (aJ 0 bP).length h'):=by
  unfold kx;rw [hh',Option.bind_some];simp only [rM]
 rw [fD,hcn hx hy,nx,ny]
 generalize cJ (aJ 0 bP).length h=u at *
 generalize cJ (aJ 0 bP).length h'=v at *
 unfold CE
 rw [Bool.not_eq_true',decide_eq_false_iff_not]
 by_cases e1:u=w
 ·rw [aD e1]
  exact⟨fun⟨_,_,h,_⟩=>(by cases h),fun h=>absurd (.inl e1.symm) h⟩
 by_cases e2:v=w
 ·rw [aD e2]
  exact⟨fun⟨_,_,_,h,_⟩=>(by cases h),fun h=>absurd (.inr (.inl e2.symm)) h⟩
 rw [aC e1,aC e2]
 obtain⟨F,hF⟩:=DF (N:=N) b w v2 hN
 have ha:=Hd b hC u2 v2 e1 e2 hF
 constructor
 ·rintro⟨_,_,q1,q2,q3⟩ hb
  injection q1 with q1;injection q2 with q2
  subst q1;subst q2
  rcases hb with hb | hb | hb
  ·exact e1 hb.symm
  ·exact e2 hb.symm
  ·exact ha.2 q3 (hb F hF)
 ·intro hb
  refine⟨u,v,rfl,rfl,ha.1 (fun hn=>hb (.inr (.inr fun G hG=>?_)))⟩
  rw [hG.uniq hF];exact hn
theorem BT (b:jY a kb bP r gs ofP ofB jI jH) {i k:Nat} {x y:dL} (hx:a.bD[i]? =some x) (hy:a.bD[k]? =some y) {h h':bE} (hh:ku a.aL (aJ 0 bP) x=some h) (hh':ku a.aL (aJ 0 bP) y=some h') (hr:r (cJ (aJ 0 bP).length h)=r (cJ (aJ 0 bP).length h')) (hN:4398046511104<=N):
  vC (xn N a bP jI jH []) i k=true:=by
 obtain⟨r2,hC,hcn⟩:=AP b (fl:=[]) xm hN
 obtain⟨u1,u2⟩:=pB (pY hh)
 obtain⟨v1,v2⟩:=pB (pY hh')
 have no: ∀v,¬pC (aJ 0 bP).length [] v:=fun v ⟨x,hx,_⟩=>by cases hx
 refine(hcn hx hy).2 ⟨_,_,by unfold kx;rw [hh,Option.bind_some,aC (no _)],by unfold kx;rw [hh',Option.bind_some,aC (no _)],?_⟩
 exact b.Fe.conn.fi (fun z=>r2 (cJ (aJ 0 bP).length h)=r2 z) (fun i j hij=>by rw [hC.co i j (F6.2 hij)]) _ _ u2 v2 hr rfl
end
end Go.Gk
namespace Go.Gk
open Go Classical
section
variable {N:Nat}
theorem DG (hN:4398046511104<=N):gG N=some true:=by
 have hc:dU ([(⟨0,3,[0,2]⟩:aA)].map bN):=⟨fun b hb=>by
  have e:b=bN (⟨0,3,[0,2]⟩:aA):=by simpa using hb
  subst e
  exact⟨by decide,by decide,by unfold kR;decide,by decide⟩,List.pairwise_singleton _ _⟩
 have hr:i6 [(⟨0,0,2,3⟩:aI)]=0:=AG (s:=[⟨0,3,[0,2]⟩]) hc (by decide) (by decide)
 unfold gG
 rw [F0 hr hN,aB]
 have e:AD [(⟨0,0,2,3⟩:aI)]=6:=by rfl
 rw [e]
 rfl
theorem zf {l:List bE} {h:bE} (hl:l.length<=4611686018427387904):gq N l h=some (decide (h∈l)):=by
 have e:gq N l h=o7 l h:=by
  unfold gq kH o7 Bo
  rfl
 rw [e,tI hl]
theorem ox {a:iW} {p q:fX} (ha:bk a<=1048576) (_hp:bk p<=1048576) (_hq:bk q<=1048576) (hN:4398046511104<=N):cO N a p q=some true:=by
 have hs:=AA ha
 have aw:=DG (N:=N) hN
 have none_: ∀{e:Int},iZ N a p q=some ([],false,e)->cO N a p q=some true:=fun{e} h=>by
  unfold cO
  rw [h,aB]
  dsimp only
  rw [lk,Bool.or_true,aS,aw]
  rfl
 rcases DE hs p q hN with ⟨e,he,h,h2⟩ | ⟨b,ho,ep,hx,eq,hy,hn,h,h2⟩ | ⟨b,ho,ep,hx,eq,hy,hh,hh',hr,hF,hd,hdl,h1,h2⟩
 ·exact none_ h
 ·exact none_ h
 rename_i kb bP r gs ofP ofB jI jH i k x y g g' F d
 have hT:=oe b
 have hnb:=hT.nb
 have hmb:=hT.mb
 have hAs: ∀u v,(fun u v=>v∈eN (aJ 0 bP).length (cK a.aL (aJ 0 bP)) u) u v->u∈eN (aJ 0 bP).length (cK a.aL (aJ 0 bP)) v:=fun u v huv=>xk hT huv
 have hlen:=rk (adj:=eN (aJ 0 bP).length (cK a.aL (aJ 0 bP))) (F:=F) d (cJ (aJ 0 bP).length g)
 have hadj:=fun i x y hx hy=>AK hF hAs d _ hd i x y hx hy
 have hhead:=yk (adj:=eN (aJ 0 bP).length (cK a.aL (aJ 0 bP))) (F:=F) d (cJ (aJ 0 bP).length g)
 have hcn: ∀fl,mC a.aL (aJ 0 bP).length fl=0->g8 N a fl p q=some (vC (xn N a bP jI jH fl) i k,0):=fun fl h0=>by
  obtain⟨c1,c2,_⟩:=Hc b h0 hN
  rw [xO b ho h0 c1 c2 p q hN,ep,eq,bG (show ¬((i:Nat):Int)<0 by omega),bG (show ¬((k:Nat):Int)<0 by omega),Bool.or_false,aV,bO,bO]
 generalize hW:oV (eN (aJ 0 bP).length (cK a.aL (aJ 0 bP))) F d (cJ (aJ 0 bP).length g)=W at *
 have hnd: ∀(j w:Nat),W[j]? =some w->E3 a.aL (aJ 0 bP).length w:=fun j w hw=>by
  cases j with
  | zero=>
   rw [hhead] at hw
   injection hw with hw
   subst hw
   exact E5 rfl (pY hh)
  | succ j=>
   have hj:=(aY.1 hw).1
   exact E4 b (hadj j W[j] w (aK (by omega)) hw)
 refine Ok.get ?_
 unfold cO
 refine Ok.eq h1 ?_
 dsimp only
 rw [bne_self_eq_false,j5,Bool.or_false,aV]
 refine Ok.eq h2 ?_
 dsimp only
 rw [bne_self_eq_false,aV]
 refine Ok.bind (Ok.oW (fun _ s=>s= (W.filter (CE (aJ 0 bP).length (cK a.aL (aJ 0 bP)) (cJ (aJ 0 bP).length g) (cJ (aJ 0 bP).length g'))).map (bY (aJ 0 bP).length)) (Go:=fun _=>True) (Rt:=fun _=>False) (by rw [dC];omega) rfl (fun j s hj I=>?_) (fun s I=>trivial)) (fun o ho'=>Ok.cs ho' (fun s _=>?_) (fun r hr=>hr.elim))
 ·subst I
  rw [dC] at hj
  have hw:W[j]? =some W[j]:=aK hj
  have hwm:W[j]∈W:=cM hj
  have hnw:=hnd j _ hw
  generalize W[j]=w at hw hwm hnw
  have hm: (W.map (bY (aJ 0 bP).length))[j]? =some (bY (aJ 0 bP).length w):=by rw [eJ,hw];rfl
  have hc:=hcn [F5 (bY (aJ 0 bP).length w)] (yl hnw)
  rw [BS b hx hy hh hh' hnw hN] at hc
  refine Ok.ix hm (Ok.eq hc ?_)
  dsimp only
  rw [bne_self_eq_false,aV,zf (by rw [dC];have:=j4 (CE (aJ 0 bP).length (cK a.aL (aJ 0 bP)) (cJ (aJ 0 bP).length g) (cJ (aJ 0 bP).length g')) W;omega),aB]
  have hmem:decide (bY (aJ 0 bP).length w∈(W.filter (CE (aJ 0 bP).length (cK a.aL (aJ 0 bP)) (cJ (aJ 0 bP).length g) (cJ (aJ 0 bP).length g'))).map (bY (aJ 0 bP).length))=CE (aJ 0 bP).length (cK a.aL (aJ 0 bP)) (cJ (aJ 0 bP).length g) (cJ (aJ 0 bP).length g') w:=by
   rw [fD,bT,cI]
   constructor
   ·rintro⟨v,hv,e⟩
    rw [lG e] at hv
    exact(hU.1 hv).2
   ·intro h
    exact⟨w,hU.2 ⟨hwm,h⟩,rfl⟩
  rw [hmem]
  generalize CE (aJ 0 bP).length (cK a.aL (aJ 0 bP)) (cJ (aJ 0 bP).length g) (cJ (aJ 0 bP).length g') w=B
  rw [show ((!B)==B)=false by cases B <;> rfl,aB,aV]
  exact Ok.nx rfl
 ·have hc:=hcn [] xm
  rw [BT b hx hy hh hh' hr hN] at hc
  refine Ok.eq hc ?_
  dsimp only
  rw [show ((0:Int)==0&&true)=true from rfl,aS,aw]
  exact Ok.ret rfl
end
end Go.Gk
