/-
  Helping texts: plain functions and plain laws. No statement of the seed is proved here.
-/
import Derived.Test.YtjocleflknekmabGreatDoorE1
import Derived.Test.YtjocleflknekmabGreatDoorA1
import Derived.Test.YtjocleflknekmabGreatDoorA2
set_option linter.unusedVariables false
set_option linter.unusedSimpArgs false
set_option linter.unusedSectionVars false
namespace Go.Gk
open Go Classical
section
variable {N:Nat}
def qy (n:Nat) (h:kb):Nat:=if h.cN=true then n+h.Number.toNat else h.Number.toNat
structure LJ (bs:List cN) (n m:Nat) (h:kb):Prop where
 num: ∃k:Nat,h.Number= ((k:Nat):Int)/\(h.cN=true->k<m/\zX bs k=true)/\(h.cN=false->k<n)
theorem HH {bs:List cN} {pcs:List aI} {l:eQ} {h:kb} (hh:Bo bs pcs l=some h):LJ bs pcs.length bs.length h:=by
 unfold Bo at hh
 cases hf:bs.findIdx? (uZ l) with
 | some k=>
  rw [hf] at hh
  injection hh with hh;subst hh
  obtain⟨hk,hp,_⟩:=List.findIdx?_eq_some_iff_getElem.1 hf
  refine⟨k,rfl,fun _=>⟨hk,?_⟩,fun h=>by cases h⟩
  unfold uZ at hp
  unfold zX
  rw [aK hk]
  rw [cC] at hp
  exact hp.1
 | none=>
  rw [hf] at hh
  dsimp only at hh
  rw [o5] at hh
  obtain⟨k,hk,rfl⟩:=hh
  obtain⟨hk,_⟩:=List.findIdx?_eq_some_iff_getElem.1 hk
  exact⟨k,rfl,fun h=>(by cases h),fun _=>hk⟩
def Ax (bs:List cN) (pcs:List aI) (r:Nat->Nat) (l:eQ):Option Nat:=(Bo bs pcs l).map fun h=>gi bs pcs.length (pcs.length+bs.length) r (r (qy pcs.length h))
def DU (bs:List cN) (pcs:List aI) (r:Nat->Nat) (l:eQ):Int:=match Ax bs pcs r l with | some g=>((g:Nat):Int) | none=> -1
def jh (gs:List bJ) (lg:eQ->Option Nat) (ls:List eQ):List bJ:=gs.mapIdx (fun g x=>{x with aS:=(ls.filter (fun l=>decide (lg l=some g))).map jR})
theorem iR {gs:List bJ} {lg:eQ->Option Nat} {ls:List eQ} {g:Nat}: (jh gs lg ls)[g]? = (gs[g]?).map fun x=>{x with aS:=(ls.filter (fun l=>decide (lg l=some g))).map jR}:=by
 unfold jh;rw [List.getElem?_mapIdx]
theorem wk (gs:List bJ) (lg:eQ->Option Nat) (ls:List eQ): (jh gs lg ls).length=gs.length:=by unfold jh;rw [List.length_mapIdx]
theorem zY {gs:List bJ} {lg:eQ->Option Nat} {ls:List eQ} {l:eQ} (h:lg l=none):jh gs lg (ls++[l])=jh gs lg ls:=by
 apply List.ext_getElem?
 intro g
 rw [iR,iR]
 congr 2
 funext x
 rw [iL]
 simp [h]
theorem Bp {gs:List bJ} {lg:eQ->Option Nat} {ls:List eQ} {l:eQ} {k:Nat} {x:bJ} (h:lg l=some k) (hx: (jh gs lg ls)[k]? =some x):
  (jh gs lg ls).set k {x with aS:=x.aS++[jR l]}=jh gs lg (ls++[l]):=by
 apply List.ext_getElem?
 intro g
 have hk:=(aZ.1 hx).1
 rw [eZ]
 by_cases e:k=g
 ·subst e
  rw [aC rfl,aC hk,iR]
  rw [iR,o5] at hx
  obtain⟨y,hy,rfl⟩:=hx
  rw [hy,iL]
  simp [h]
 ·rw [aD e,iR,iR]
  congr 2
  funext x
  rw [iL]
  have: ¬(lg l=some g):=by rw [h];intro h';injection h' with h';exact e h'
  simp [this]
theorem Jt {bs:List cN} {n t:Nat} {r:Nat->Nat} {i:Nat} (hi:i<n) (ht:i<t):Gh bs n (cls t r (r i))=true:=by
 unfold Gh
 rw [cE]
 have:i∈gP n (cls t r (r i)):=gR.2 ⟨tO.2 ⟨ht,rfl⟩,by simpa using hi⟩
 have:=List.length_pos_of_mem this
 omega
theorem Ju {bs:List cN} {n t:Nat} {r:Nat->Nat} {j:Nat} (hp:zX bs j=true) (ht:n+j<t):Gh bs n (cls t r (r (n+j)))=true:=by
 unfold Gh
 rw [cE]
 have:j∈gB bs n (cls t r (r (n+j))):=cR.2 ⟨n+j,gR.2 ⟨tO.2 ⟨ht,rfl⟩,by simp [hp]⟩,by omega⟩
 have:=List.length_pos_of_mem this
 omega
structure xc (bs:List cN) (ls:List eQ) (pcs:List aI) (r:Nat->Nat) (gs:List bJ) (ofP ofB pz:List Int) (rF:List kb):Prop where
 conn:Ke pcs.length bs.length (oU bs pcs) r
 gs:gs=jh (o4 bs pcs.length (pcs.length+bs.length) r (bW (pcs.length+bs.length) r)) (Ax bs pcs r) ls
 of:LI bs pcs.length bs.length r (bW (pcs.length+bs.length) r) ofP ofB
 pz:pz=ls.map (DU bs pcs r)
 rF:rF=ls.map (fun l=>(Bo bs pcs l).getD ⟨false,0⟩)
theorem HI {bs:List cN} {pcs:List aI} (hp:pcs.length<=1073741824): ∀l∈oU bs pcs,l.length<=1073741824/\∀x∈l,∃i:Nat,i<pcs.length/\x= ((i:Nat):Int):=by
 intro l hl
 unfold oU at hl
 obtain⟨b,_,rfl⟩:=cR.1 hl
 have:=Av (mS b) pcs pcs.length
 refine⟨by rw [lz];omega,fun x hx=>?_⟩
 obtain⟨i,hi,rfl⟩:=zi.1 hx
 exact⟨i,(FP.1 hi).1,rfl⟩
theorem Bq {bs:List cN} {ls:List eQ} {pcs:List aI} (hb:ng bs) (hp:pcs.length<=1000000000) (hr: ∀p∈pcs,p.nT.length<=1073741824) (hl:ls.length<=1073741824) (hN:4398046511104<=N):
  Ok (eW N bs ls pcs (oU bs pcs) [] [] [] []) (fun x=>∃r,xc bs ls pcs r x.1 x.2.1 x.2.2.1 x.2.2.2.1 x.2.2.2.2):=by
 have hbl:=hb.len
 unfold eW
 rw [wrap_add (by omega)]
 obtain⟨up0,u1,u2⟩:=CE (N:=N) (n:=pcs.length+bs.length) (by omega)
 refine Ok.eq u1 ?_
 refine Ok.bind (FQ (n:=pcs.length) (m:=bs.length) (by unfold oU;simp) (HI (by omega)) (by omega) (by omega) u2 hN) ?_
 rintro up1 ⟨r,v1,v2⟩
 refine Ok.eq (vJ 0 (by omega)) (Ok.eq (vJ 0 (by omega)) ?_)
 obtain⟨up2,w1,_⟩:=IY (N:=N) v1 (by omega) (by omega)
 refine Ok.eq w1 ?_
 refine Ok.bind (CO (bs:=bs) (n:=pcs.length) (m:=bs.length) (r:=r) rfl (by omega) (by omega) (op:=List.replicate pcs.length 0) (ob:=List.replicate bs.length 0) (by simp) (by simp) rfl) ?_
 rintro⟨gs,ofP,ofB⟩ ⟨e1,I⟩
 dsimp only at e1 I ⊢
 subst e1
 have hgl: (o4 bs pcs.length (pcs.length+bs.length) r (bW (pcs.length+bs.length) r)).length<=pcs.length+bs.length:=by
  rw [qx]
  have:=rf bs pcs.length (pcs.length+bs.length) r (bW (pcs.length+bs.length) r)
  have:=nc (pcs.length+bs.length) r
  omega
 refine Ok.bind (Ok.jI (fun(k:Nat) (st:List bJ×List Int×List Int×List Int×List kb)=>st= (jh (o4 bs pcs.length (pcs.length+bs.length) r (bW (pcs.length+bs.length) r)) (Ax bs pcs r) (ls.take k),ofP,ofB,(ls.take k).map (DU bs pcs r),(ls.take k).map (fun l=>(Bo bs pcs l).getD ⟨false,0⟩))) (by omega) ?_ (fun k st hk e=>?_)) ?_
 ·congr 1
  unfold jh
  apply List.ext_getElem?
  intro g
  rw [List.getElem?_mapIdx]
  unfold o4
  rw [gH]
  cases (live bs pcs.length (pcs.length+bs.length) r (bW (pcs.length+bs.length) r))[g]? <;> rfl
 ·subst e
  dsimp only
  have hts:ls.take (k+1)=ls.take k++[ls[k]]:=dU hk
  refine Ok.idx hk (Ok.eq (HG hb (by omega) hr _) ?_)
  dsimp only
  refine Ok.bind (P:=fun x=>x= (jh (o4 bs pcs.length (pcs.length+bs.length) r (bW (pcs.length+bs.length) r)) (Ax bs pcs r) (ls.take k++[ls[k]]),DU bs pcs r ls[k])) ?_ ?_
  ·cases hh:Bo bs pcs ls[k] with
   | none=>
    refine Ok.ret ?_
    have h1:Ax bs pcs r ls[k]=none:=by unfold Ax;rw [hh];rfl
    rw [zY h1]
    unfold DU;rw [h1]
   | some h=>
    have h1:Ax bs pcs r ls[k]=some (gi bs pcs.length (pcs.length+bs.length) r (r (qy pcs.length h))):=by unfold Ax;rw [hh];rfl
    have h2:DU bs pcs r ls[k]= ((gi bs pcs.length (pcs.length+bs.length) r (r (qy pcs.length h)):Nat):Int):=by unfold DU;rw [h1]
    obtain⟨q,q1,q2,q3⟩:=(HH hh).num
    have hix:qy pcs.length h<pcs.length+bs.length/\Gh bs pcs.length (cls (pcs.length+bs.length) r (r (qy pcs.length h)))=true/\gk N ofP ofB h=some ((gi bs pcs.length (pcs.length+bs.length) r (r (qy pcs.length h)):Nat):Int):=by
     unfold gk qy
     rw [q1,cK]
     cases hbo:h.cN with
     | true=>
      obtain⟨q4,q5⟩:=q2 hbo
      rw [aT,aC rfl]
      refine⟨by omega,Ju q5 (by omega),?_⟩
      have:=I.bo q q4 (iW.2 ⟨by have:=v2.le (pcs.length+q) (by omega);omega,v2.rr _ (by omega)⟩)
      rw [aC q5] at this
      rw [eX this,aB]
     | false=>
      have q4:=q3 hbo
      rw [aY,aD (by simp)]
      refine⟨by omega,Jt q4 (by omega),?_⟩
      have:=I.pc q q4 (iW.2 ⟨by have:=v2.le q (by omega);omega,v2.rr _ (by omega)⟩)
      rw [eX this,aB]
    obtain⟨i1,i2,i3⟩:=hix
    have hgi:=Js (r:=r) (t:=pcs.length+bs.length) (bs:=bs) (n:=pcs.length) (h:=r (qy pcs.length h)) (iW.2 ⟨by have:=v2.le _ i1;omega,v2.rr _ i1⟩) i2
    have hgx:gi bs pcs.length (pcs.length+bs.length) r (r (qy pcs.length h))< (jh (o4 bs pcs.length (pcs.length+bs.length) r (bW (pcs.length+bs.length) r)) (Ax bs pcs r) (ls.take k)).length:=by
     rw [wk,qx];exact hgi.1
    rw [h2]
    dsimp only [Option.getD,Option.isSome]
    rw [aT]
    refine Ok.eq i3 ?_
    generalize gi bs pcs.length (pcs.length+bs.length) r (r (qy pcs.length h))=g at *
    refine Ok.idx hgx (Ok.eq (qw _) ?_)
    have hpl: ((jh (o4 bs pcs.length (pcs.length+bs.length) r (bW (pcs.length+bs.length) r)) (Ax bs pcs r) (ls.take k))[g]).aS.length<=ls.length:=by
     have:=iR (gs:=o4 bs pcs.length (pcs.length+bs.length) r (bW (pcs.length+bs.length) r)) (lg:=Ax bs pcs r) (ls:=ls.take k) (g:=g)
     rw [aK hgx] at this
     have:=this.symm
     rw [o5] at this
     obtain⟨y,_,hy⟩:=this
     rw [<-hy,gp]
     have:=hU (fun l=>decide (Ax bs pcs r l=some g)) (ls.take k)
     rw [cV] at this;omega
    refine Ok.app (by simp;omega) (Ok.idx hgx (Ok.ret ?_))
    rw [cK]
    congr 1
    exact Bp h1 (aK hgx)
  ·rintro _ rfl
   dsimp only
   refine Ok.app (by simp;omega) (Ok.app (by simp;omega) (Ok.ret ?_))
   rw [hts,fD,fD];rfl
 ·rintro st rfl
  dsimp only
  rw [dJ]
  exact Ok.ret ⟨r,v2,rfl,I,rfl,rfl⟩
end
end Go.Gk
namespace Go.Gk
open Go Classical
section
variable {N:Nat}
theorem Ay {p:aI}: ∀{gv:List (List (List aA))} {k:Nat},p∈cX k gv->∃(i:Nat) (ps:List (List aA)) (q:List aA),gv[i]? =some ps/\q∈ps/\p= ⟨((k+i:Nat):Int),q,aR q⟩
 | [],k,h=>by cases h
 | ps::gv,k,h=>by
  rcases cY.1 h with h | h
  ·obtain⟨q,hq,rfl⟩:=cR.1 h
   exact⟨0,ps,q,rfl,hq,rfl⟩
  ·obtain⟨i,ps',q,h1,h2,h3⟩:=Ay h
   refine⟨i+1,ps',q,by simpa using h1,h2,?_⟩
   rw [h3,show k+1+i=k+ (i+1) by omega]
structure oj (a:kr):Prop where
 BJ:0<a.aO.length/\a.aO.length<=16
 Og: ∀r∈a.aO,kN r=0
 out:kN a.eC=0
 many:a.eC.length+ (a.aO.map List.length).sum<=2000
 wm:mP a=0
 Az:mR a=0
theorem oj.gb {a:kr} (h:oj a):ng a.bL:=⟨(pO h.wm).1,fun b hb=>⟨((pO h.wm).2 b hb).1,((pO h.wm).2 b hb).2.1⟩⟩
theorem oj.cs {a:kr} (h:oj a): ∀r∈a.aO,r.length<=2000/\∀x∈r,C5 x:=fun r hr=>HE (CK.1 (h.Og r hr)).1
structure wo (a:kr) (mX:List (List aA)) (gv:List (List (List aA))) (p:aI) (i:Nat) (r:List aJ) (s:List aA) (ps:List (List aA)) (u:Nat->Nat) (j k:Nat):Prop where
 Oh:a.aO[i]? =some r
 mX:mX[i]? =some s
 gv:gv[i]? =some ps
 dr:tN r (oT a.bL ((i:Nat):Int)) s
 pt:q9 s u ps
 at_:ps[j]? =some p.Set
 head: (bW (aR s).length u)[j]? =some k
 set:rD (mN (aR s) (aR s).length u k) p.Set
 lim:vd (qp r++qp (oT a.bL ((i:Nat):Int))) (l5 r++l5 (oT a.bL ((i:Nat):Int))) (p.Set.map bT)
 LK:p.eU= ((i:Nat):Int)
 LL:p.nT=aR p.Set
theorem HJ {a:kr} {mX:List (List aA)} {gv:List (List (List aA))} (hg:oj a) (hD:w9 a.aO a.bL a.aO.length mX gv) {p:aI} (hp:p∈cX 0 gv): ∃i r s ps u j k,wo a mX gv p i r s ps u j k:=by
 obtain⟨i,ps,q,h1,h2,rfl⟩:=Ay hp
 have hil:i<a.aO.length:=by have:=(aZ.1 h1).1;rw [hD.FO] at this;exact this
 have hc:a.aO[i]? =some a.aO[i]:=aK hil
 have hd:mX[i]? =some (mX[i]'(by rw [hD.len];exact hil)):=aK _
 have hdr:=hD.dr i _ _ hil hc hd
 obtain⟨u,hu⟩:=hD.pt i _ ps hil hd h1
 obtain⟨sx,sy⟩:=hdr.small (hg.cs _ (dK hil)).2 (fun x hx=>(CM hg.gb _ x hx).1)
 obtain⟨j,k,g1,g2,g3,g4⟩:=zh hu hdr.can hdr.lim sx sy h2
 exact⟨i,_,_,ps,u,j,k,hc,hd,h1,hdr,hu,g1,g2,g3,g4,by rw [fQ],rfl⟩
theorem wo.HC {a:kr} {mX:List (List aA)} {gv:List (List (List aA))} (hg:oj a) {p:aI} {i:Nat} {r:List aJ} {s:List aA} {ps:List (List aA)} {u:Nat->Nat} {j k:Nat} (h:wo a mX gv p i r s ps u j k):
  p.Set.length<=5000/\(∀b∈p.Set,b.Xs.length<=5000)/\p.nT.length<=5000*5000:=by
 have h1:=(hg.cs r (eN h.Oh)).1
 have h2:=Au hg.gb ((i:Nat):Int)
 rw [h.LL]
 exact w8 (A:=5000) h.set.can h.lim (by rw [cU,l6,l6];omega) (by rw [cU,j6,j6];omega)
def ER (a0 a1 b0 b1:Int):Bool:=decide (b0<a1)&&decide (a0<b1)
def HK (a b:aJ):Bool:=ER a.X0 a.X1 b.X0 b.X1&&ER a.Y0 a.Y1 b.Y0 b.Y1
theorem zj {a0 a1 b0 b1:Int} (h1: -1000000<=a0/\a0<=1000000) (h2: -1000000<=a1/\a1<=1000000) (h3: -1000000<=b0/\b0<=1000000) (h4: -1000000<=b1/\b1<=1000000): ∃n,kF N a0 a1 b0 b1=some n/\0<=n/\(n=0↔ER a0 a1 b0 b1=true):=by
 unfold kF ER
 have e1:IntKind.wrap .i64 (b0 - a1)=b0 - a1:=dW (by omega) (by omega)
 have e2:IntKind.wrap .i64 (a0 - b1)=a0 - b1:=dW (by omega) (by omega)
 have e3:IntKind.wrap .i64 (b0 - a1+1)=b0 - a1+1:=dW (by omega) (by omega)
 have e4:IntKind.wrap .i64 (a0 - b1+1)=a0 - b1+1:=dW (by omega) (by omega)
 rw [e1,e2,e3,e4]
 refine⟨_,rfl,?_,?_⟩
 ·repeat' split
  all_goals omega
 ·rw [cC,cE,cE]
  repeat' split
  all_goals omega
theorem Kf {a b:aJ} (h1:eT a=true) (h2:eT b=true): ∃n,pT N a b=some n/\(n=0↔HK a b=true):=by
 have b1:=ly h1
 have b2:=ly h2
 obtain⟨n,n1,n2,n3⟩:=zj (N:=N) (a0:=a.X0) (a1:=a.X1) (b0:=b.X0) (b1:=b.X1) (by omega) (by omega) (by omega) (by omega)
 obtain⟨m,m1,m2,m3⟩:=zj (N:=N) (a0:=a.Y0) (a1:=a.Y1) (b0:=b.Y0) (b1:=b.Y1) (by omega) (by omega) (by omega) (by omega)
 unfold pT HK
 rw [n1,aB,m1,aB]
 refine⟨_,rfl,?_⟩
 rw [cC,<-n3,<-m3]
 split <;> omega
def xd (x y:cN):Bool:=(decide (x.dD<=y.To)&&decide (y.dD<=x.To))&&HK (x5 x) (x5 y)
def zk (a:kr):Prop:=∃(i k:Nat) (x y:cN),k<i/\a.bL[i]? =some x/\a.bL[k]? =some y/\xd x y=true
noncomputable def FU (r:List aJ):Option Int:=if kN r≠0 then some (kN r) else none
noncomputable def DV (a:kr):Int:=if 2000<a.eC.length+ (a.aO.map List.length).sum then 2 else if mP a≠0 then mP a else if mR a≠0 then mR a else if zk a then 12 else 0
noncomputable def I0 (a:kr):Int:=match a.aO.findSome? FU with | some e=>e | none=>if kN a.eC≠0 then kN a.eC else DV a
noncomputable def kA (a:kr):Int:=if a.aO.length=0 then 9 else if 16<a.aO.length then 2 else I0 a
def LW (mX:List (List aA)) (gv:List (List (List aA))):Prop:=(∀s∈mX,(aR s).length<=2000)/\(cX 0 gv).length<=2000
abbrev zm:=(List (List aJ))×(List aJ)×(List cN)×(List eQ)×(List (List aA))×(List aI)×(List (List Int))×(List bJ)×(List Int)×(List Int)×(List Int)×(List kb)
def Jv (a:kr) (x:Option zm×Int):Prop:=
 (kA a≠0/\x= (none,kA a))\/(kA a=0/\oj a/\¬zk a/\∃mX gv,w9 a.aO a.bL a.aO.length mX gv/\
  ((¬LW mX gv/\x= (none,2))\/(LW mX gv/\∃r gs ofP ofB pz rF,xc a.bL a.bM (cX 0 gv) r gs ofP ofB pz rF/\
   x= (some (a.aO,a.eC,a.bL,a.bM,mX,cX 0 gv,oU a.bL (cX 0 gv),gs,ofP,ofB,pz,rF),0))))
structure wq (a:kr):Prop where
 cs:a.aO.length<=1048576
 each: ∀r∈a.aO,r.length<=1048576
 out:a.eC.length<=1048576
 bs:a.bL.length<=1048576
 ls:a.bM.length<=1048576
 nm:zf a
theorem CP {a:kr} (h:bk a<=1048576):wq a:=by
 rw [Hi] at h
 have h1:=kL a.aO
 have h2:=kL a.eC
 have h3:=kL a.bL
 have h4:=kL a.bM
 refine⟨by omega,fun r hr=>?_,by omega,by omega,by omega,fun x hx=>?_⟩
 ·have:=yG hr
  have:=kL r;omega
 ·have:=yG hx
  rw [EE,uN,uN] at this;omega
theorem FV {a:kr} (hs:wq a) (hN:4398046511104<=N):Ok (gF N a) (Jv a):=by
 unfold gF
 have pe: ∀e:Int,e≠0->kA a=e->Ok (some ((none:Option zm),e)) (Jv a):=fun e he h=>Ok.ret (.inl ⟨by rw [h];exact he,by rw [h]⟩)
 have c1:=hs.cs
 refine Ok.bif (fun h=>?_) (fun h=>?_)
 ·have:a.aO.length=0:=by have:=beq_iff_eq.1 h;omega
  exact pe 9 (by omega) (by unfold kA;rw [aC this])
 have h0: ¬a.aO.length=0:=by rw [beq_eq_false_iff_ne] at h;omega
 refine Ok.bif (fun h=>?_) (fun h=>?_)
 ·have h1:16<a.aO.length:=by have:=of_decide_eq_true h;omega
  exact pe 2 (by omega) (by unfold kA;rw [aD h0,aC h1])
 have h1: ¬16<a.aO.length:=by have:=of_decide_eq_false h;omega
 have pe1:kA a=I0 a:=by unfold kA;rw [aD h0,aD h1]
 have hso:=hs.out
 have sumle: ∀k,k<=a.aO.length->((a.aO.take k).map List.length).sum<=k*1048576:=by
  intro k
  induction k with
  | zero=>intro _;simp
  | succ k ih=>
   intro hk
   have:=ih (by omega)
   have h2:=hs.each _ (dK (show k<a.aO.length by omega))
   rw [dU (by omega),fD,List.sum_append]
   simp only [dV,List.map_nil,List.sum_cons,List.sum_nil]
   rw [Nat.add_mul];omega
 refine Ok.bind (Ok.qE (Go:=fun s:Int=>s= ((a.eC.length+ (a.aO.map List.length).sum:Nat):Int)/\∀r∈a.aO,kN r=0) (Rt:=fun x:Option zm×Int=>∃e,e≠0/\x= (none,e)/\a.aO.findSome? FU=some e)
  (fun(k:Nat) (s:Int)=>s= ((a.eC.length+ ((a.aO.take k).map List.length).sum:Nat):Int)/\∀r∈a.aO.take k,kN r=0) (by omega) ⟨by simp,fun r hr=>by simp at hr⟩ (fun k s hk hI=>?_) (fun s hI=>by rw [dJ] at hI;exact hI)) ?_
 ·obtain⟨e,hI⟩:=hI
  subst e
  have hkx:a.aO[k]? =some a.aO[k]:=aK hk
  have hts:a.aO.take (k+1)=a.aO.take k++[a.aO[k]]:=dU hk
  have he:=hs.each _ (dK hk)
  refine Ok.ix hkx (Ok.eq (th (by omega) hN) ?_)
  refine Ok.bif (fun h=>Ok.rt ?_) (fun h=>Ok.nx ?_)
  ·have h:kN a.aO[k]≠0:=by simpa using h
   refine⟨_,h,rfl,?_⟩
   rw [List.findSome?_eq_some_iff]
   refine⟨a.aO.take k,a.aO[k],a.aO.drop (k+1),?_,by unfold FU;rw [aC h],fun r hr=>by unfold FU;rw [aD (by simpa using hI r hr)]⟩
   rw [<-qF hk,List.take_append_drop]
  ·have h:kN a.aO[k]=0:=by simpa using h
   have:=sumle k (by omega)
   have hk16:k*1048576<=16*1048576:=Nat.mul_le_mul_right _ (by omega)
   refine⟨?_,fun r hr=>?_⟩
   ·rw [wrap_add (by omega),hts,fD,List.sum_append]
    simp only [dV,List.map_nil,List.sum_cons,List.sum_nil]
    congr 1
    omega
   ·rw [hts] at hr
    rcases cY.1 hr with hr | hr
    ·exact hI r hr
    ·simp at hr;subst hr;exact h
 intro o ho
 refine Ok.cs ho ?_ ?_
 rotate_left
 ·rintro x ⟨e,he,rfl,hf⟩
  exact pe e he (by rw [pe1];unfold I0;rw [hf])
 rintro s ⟨rfl,hreg⟩
 have LR:a.aO.findSome? FU=none:=List.findSome?_eq_none_iff.2 fun r hr=>by unfold FU;rw [aD (by simpa using hreg r hr)]
 have pe2:kA a=if kN a.eC≠0 then kN a.eC else DV a:=by rw [pe1];unfold I0;rw [LR]
 refine Ok.eq (th (by omega) hN) ?_
 refine Ok.bif (fun h=>?_) (fun h=>?_)
 ·have h:kN a.eC≠0:=by simpa using h
  exact pe _ h (by rw [pe2,aC h])
 have hout:kN a.eC=0:=by simpa using h
 have pe3:kA a=DV a:=by rw [pe2,aD (by simpa using hout)]
 refine Ok.bif (fun h=>?_) (fun h=>?_)
 ·have h:2000<a.eC.length+ (a.aO.map List.length).sum:=by have:=of_decide_eq_true h;omega
  exact pe 2 (by omega) (by rw [pe3];unfold DV;rw [aC h])
 have hmany: ¬2000<a.eC.length+ (a.aO.map List.length).sum:=by have:=of_decide_eq_false h;omega
 have hbs:=hs.bs
 have hls:=hs.ls
 refine Ok.eq (zU (by omega) (by omega) (by omega)) ?_
 refine Ok.bif (fun h=>?_) (fun h=>?_)
 ·have h:mP a≠0:=by simpa using h
  exact pe _ h (by rw [pe3];unfold DV;rw [aD hmany,aC h])
 have hbo:mP a=0:=by simpa using h
 refine Ok.eq (zV (by omega) (by omega) hs.nm (by omega)) ?_
 refine Ok.bif (fun h=>?_) (fun h=>?_)
 ·have h:mR a≠0:=by simpa using h
  exact pe _ h (by rw [pe3];unfold DV;rw [aD hmany,aD (by simpa using hbo),aC h])
 have hla:mR a=0:=by simpa using h
 have hg:oj a:=⟨by omega,hreg,hout,by omega,hbo,hla⟩
 have pe4:kA a=if zk a then 12 else 0:=by rw [pe3];unfold DV;rw [aD hmany,aD (by simpa using hbo),aD (by simpa using hla)]
 refine Ok.bind (Ok.qE (Go:=fun _:Unit=>¬zk a) (Rt:=fun x:Option zm×Int=>x= (none,12)/\zk a)
  (fun(k:Nat) (_:Unit)=>∀(i j:Nat) (x y:cN),i<k->j<i->a.bL[i]? =some x->a.bL[j]? =some y->¬xd x y=true) (by omega) (fun i j x y h=>by omega) (fun k s hk hI=>?_) (fun s hI=>?_)) ?_
 ·have hkx:a.bL[k]? =some a.bL[k]:=aK hk
  refine Ok.ix hkx (Ok.eq (p8 _ k (by omega)) ?_)
  have hgk:=hg.gb.ok _ (dK hk)
  refine Ok.bind (Ok.qE (Go:=fun _:Unit=>∀(j:Nat) (y:cN),j<k->a.bL[j]? =some y->¬xd a.bL[k] y=true) (Rt:=fun x:Option zm×Int=>x= (none,12)/\zk a)
   (fun(t:Nat) (_:Unit)=>∀(j:Nat) (y:cN),j<t->a.bL[j]? =some y->¬xd a.bL[k] y=true) (by rw [cV];omega) (fun j y h=>by omega) (fun t s ht hI2=>?_) (fun s hI2 j y hj hy=>hI2 j y (by rw [cV];omega) hy)) ?_
  ·have htk:t<k:=by rw [cV] at ht;omega
   have htx: (a.bL.take k)[t]? =some a.bL[t]:=by rw [List.getElem?_take_of_lt htk];exact aK (by omega)
   have hgt:=hg.gb.ok _ (dK (show t<a.bL.length by omega))
   refine Ok.ix htx ?_
   refine Ok.eq (x:=xd a.bL[k] a.bL[t]) ?_ ?_
   ·unfold xd
    cases hc: (decide (a.bL[k].dD<=a.bL[t].To)&&decide (a.bL[t].dD<=a.bL[k].To)) with
    | false=>rfl
    | true=>
     obtain⟨n,n1,n2⟩:=Kf (N:=N) hgk.2 hgt.2
     rw [aT,mq hgk.1,aB,mq hgt.1,aB,n1,aB,Bool.true_and]
     congr 1
     rw [fH,beq_iff_eq];exact n2
   ·refine Ok.bif (fun h=>Ok.rt ⟨rfl,k,t,_,_,htk,hkx,aK (by omega),h⟩) (fun h=>Ok.nx fun j y hj hy=>?_)
    by_cases e:j<t
    ·exact hI2 j y e hy
    ·have:j=t:=by omega
     subst this
     rw [aK (by omega)] at hy;injection hy with hy
     rw [<-hy,h];simp
  ·intro o ho
   refine Ok.cs ho (fun s hI2=>Ok.nx fun i j x y hi hj hx hy=>?_) (fun x hx=>Ok.rt hx)
   by_cases e:i<k
   ·exact hI i j x y e hj hx hy
   ·have:i=k:=by omega
    subst this
    rw [hkx] at hx;injection hx with hx
    rw [<-hx];exact hI2 j y hj hy
 ·rintro⟨i,j,x,y,hj,hx,hy,hc⟩
  exact hI i j x y (aZ.1 hx).1 hj hx hy hc
 intro o ho
 refine Ok.cs ho ?_ ?_
 rotate_left
 ·rintro x ⟨rfl,hc⟩
  exact pe 12 (by omega) (by rw [pe4,aC hc])
 intro _ hncl
 have pe5:kA a=0:=by rw [pe4,aD hncl]
 refine Ok.bind (DQ (N:=N) (by omega) hg.cs hg.gb hN) ?_
 rintro⟨okk,mX,pcs⟩ ⟨gv,D,e1,e2⟩
 dsimp only at D e1 e2 ⊢
 subst e1
 refine Ok.bif (fun h=>Ok.ret (.inr ⟨pe5,hg,hncl,mX,gv,D, .inl ⟨fun hf=>?_,rfl⟩⟩)) (fun h=>?_)
 ·have:=e2.2 hf
  rw [this] at h;cases h
 ·have hf:LW mX gv:=e2.1 (by cases okk <;> simp_all)
  have hpr: ∀p∈cX 0 gv,p.nT.length<=1073741824:=fun p hp=>by
   obtain⟨i,r,s,ps,u,j,k,hP⟩:=HJ hg D hp
   have:=(hP.HC hg).2.2;omega
  have hf2:=hf.2
  refine Ok.eq (HF hg.gb (by omega) hpr) ?_
  refine Ok.bind (Bq (N:=N) hg.gb (by omega) hpr (by omega) hN) ?_
  rintro⟨gs,ofP,ofB,pz,rF⟩ ⟨r,hC⟩
  exact Ok.ret (.inr ⟨pe5,hg,hncl,mX,gv,D, .inr ⟨hf,r,gs,ofP,ofB,pz,rF,hC,rfl⟩⟩)
end
end Go.Gk
namespace Go.Gk
open Go Classical
section
variable {N:Nat}
theorem ES {w:Nat} {g:Nat->Nat} {a:Nat}: ∀{ks:List Nat},ks.Nodup->a∈ks->(ks.map (fun k=>(if a=k then w else 0)+g k)).sum=w+ (ks.map g).sum
 | [],_,h=>by cases h
 | k::ks,hn,h=>by
  have hn':=List.nodup_cons.1 hn
  simp only [dV,List.sum_cons]
  by_cases e:a=k
  ·subst e
   rw [aC rfl]
   have:ks.map (fun k=>(if a=k then w else 0)+g k)=ks.map g:=List.map_congr_left fun x hx=>by
    rw [aD (fun e=>hn'.1 (by rw [e];exact hx)),fQ]
   rw [this];omega
  ·rw [aD e,ES hn'.2 (by rcases fG.1 h with h | h;exact absurd h e;exact h)];omega
theorem CQ {α:Type} {ks:List Nat} (hn:ks.Nodup) (f w:α->Nat): ∀{l:List α},(∀x∈l,f x∈ks)->(ks.map (fun k=>((l.filter (fun x=>decide (f x=k))).map w).sum)).sum= (l.map w).sum
 | [],_=>by
  have: ∀ks:List Nat,(ks.map (fun _=>0)).sum=0:=fun ks=>by
   induction ks with
   | nil=>rfl
   | cons k ks ih=>simp only [dV,List.sum_cons,ih]
  simpa using this ks
 | x::l,h=>by
  have ih:=CQ hn f w (l:=l) fun y hy=>h y (kc _ hy)
  have: (ks.map (fun k=>(((x::l).filter (fun x=>decide (f x=k))).map w).sum))=ks.map (fun k=>(if f x=k then w x else 0)+ ((l.filter (fun x=>decide (f x=k))).map w).sum):=List.map_congr_left fun k _=>by
   rw [List.filter_cons]
   by_cases e:f x=k
   ·rw [aC (by simpa using e),aC e,dV,List.sum_cons]
   ·rw [aD (by simpa using e),aD e,fQ]
  rw [this,ES hn (h x (by simp)),ih,dV,List.sum_cons]
theorem LN {bs:List cN} {ls:List eQ} {pcs:List aI} {r:Nat->Nat} (hc:Ke pcs.length bs.length (oU bs pcs) r) {l:eQ} {g:Nat} (h:Ax bs pcs r l=some g):g< (o4 bs pcs.length (pcs.length+bs.length) r (bW (pcs.length+bs.length) r)).length:=by
 unfold Ax at h
 rw [o5] at h
 obtain⟨hp,hh,rfl⟩:=h
 obtain⟨q,q1,q2,q3⟩:=(HH hh).num
 have hix:qy pcs.length hp<pcs.length+bs.length/\Gh bs pcs.length (cls (pcs.length+bs.length) r (r (qy pcs.length hp)))=true:=by
  unfold qy
  rw [q1,cK]
  cases hbo:hp.cN with
  | true=>
   obtain⟨q4,q5⟩:=q2 hbo
   rw [aC rfl]
   exact⟨by omega,Ju q5 (by omega)⟩
  | false=>
   have q4:=q3 hbo
   rw [aD (by simp)]
   exact⟨by omega,Jt q4 (by omega)⟩
 rw [qx]
 exact(Js (iW.2 ⟨by have:=hc.le _ hix.1;omega,hc.rr _ hix.1⟩) hix.2).1
theorem wo.ne {a:kr} {mX:List (List aA)} {gv:List (List (List aA))} {p:aI} {i:Nat} {r:List aJ} {s:List aA} {ps:List (List aA)} {u:Nat->Nat} {j k:Nat} (h:wo a mX gv p i r s ps u j k):p.Set≠[]:=by
 intro e
 have hh:=iW.1 (eN h.head)
 have hx: (aR s)[k]? =some (aR s)[k]:=aK hh.1
 have hm: (aR s)[k]∈mN (aR s) (aR s).length u k:=nK.2 ⟨k,hh.1,hh.2,hx⟩
 obtain⟨b,hb,q,hq,hr⟩:=ox (eN hx)
 have hbm:bT b∈s.map bT:=cR.2 ⟨b,hb,rfl⟩
 have hq1:=DI (h.dr.can.each _ hbm).2.2.1 q hq
 have hb1:=(h.dr.can.each _ hbm).1
 have hc:=h.set.cover q.1 b.Y0
 rw [e] at hc
 have:zR (mN (aR s) (aR s).length u k) q.1 b.Y0=true:=kq.2 ⟨_,hm,by rw [hr];exact⟨⟨Int.le_refl _,hq1⟩,Int.le_refl _,hb1⟩⟩
 rw [this] at hc
 cases hc
structure rh (a:kr) (mX:List (List aA)) (gv:List (List (List aA))) (r:Nat->Nat) (gs:List bJ) (ofP ofB pz:List Int) (rF:List kb):Prop where
 Kg:oj a
 Ol: ¬zk a
 dr:w9 a.aO a.bL a.aO.length mX gv
 BJ:LW mX gv
 Kh:xc a.bL a.bM (cX 0 gv) r gs ofP ofB pz rF
inductive Ki (N:Nat) (a:kr):Prop
 | err (e:Int) (he:e≠0) (h:gF N a=some (none,e))
 | ok {mX:List (List aA)} {gv:List (List (List aA))} {r:Nat->Nat} {gs:List bJ} {ofP ofB pz:List Int} {rF:List kb} (b:rh a mX gv r gs ofP ofB pz rF)
  (h:gF N a=some (some (a.aO,a.eC,a.bL,a.bM,mX,cX 0 gv,oU a.bL (cX 0 gv),gs,ofP,ofB,pz,rF),0))
theorem opened {a:kr} (hs:wq a) (hN:4398046511104<=N):Ki N a:=by
 obtain⟨x,hx,hI⟩:=FV (N:=N) hs hN
 rcases hI with ⟨he,rfl⟩ | ⟨_,hg,hcl,mX,gv,D,⟨_,rfl⟩ | ⟨hf,r,gs,ofP,ofB,pz,rF,hC,rfl⟩⟩
 ·exact .err _ he hx
 ·exact .err 2 (by omega) hx
 ·exact .ok ⟨hg,hcl,D,hf,hC⟩ hx
end
end Go.Gk
namespace Go.Gk
open Go Classical
section
variable {S R:Type}
theorem Ok.C4 {body:S->Option (Fl S R)} {N n:Nat} {s:S} (ι:S->Int) (Inv:Nat->S->Prop) {Go:S->Prop} {Rt:R->Prop}
  (h1: ∀k s,k<n->ι s= ((k:Nat):Int)->Inv k s->Ok (body s) (Jp (fun s'=>ι s'= ((k+1:Nat):Int)/\Inv (k+1) s') Go Rt))
  (h2: ∀s,ι s= ((n:Nat):Int)->Inv n s->Ok (body s) (Jp (fun _=>False) Go Rt))
  {k0:Nat} (hk:k0<=n) (hi:ι s= ((k0:Nat):Int)) (h0:Inv k0 s) (hn:n<N):Ok (Gk.nL body N s) (LA Go Rt):=by
 refine Ok.nL (fun s=>∃k:Nat,k<=n/\ι s= ((k:Nat):Int)/\Inv k s) (fun s=>n - (ι s).toNat) ?_ ⟨k0,hk,hi,h0⟩ (by omega)
 rintro s ⟨k,hk,e,hI⟩
 by_cases hlt:k<n
 ·refine(h1 k s hlt e hI).mono ?_
  rintro(s' | s' | r) hp
  ·have hp1:ι s'= ((k+1:Nat):Int):=hp.1
   exact⟨⟨k+1,hlt,hp.1,hp.2⟩,by rw [e,hp1];simp only [cK];omega⟩
  ·exact hp
  ·exact hp
 ·have:k=n:=by omega
  subst this
  refine(h2 s e hI).mono ?_
  rintro(s' | s' | r) hp
  ·exact hp.elim
  ·exact hp
  ·exact hp
theorem NN {k n:Nat} (h:k<n):decide (((k:Nat):Int)< ((n:Nat):Int))=true:=cD (by omega)
theorem NO (n:Nat):decide (((n:Nat):Int)< ((n:Nat):Int))=false:=bS (by omega)
end
section
variable {N:Nat}
end
end Go.Gk
namespace Go.Gk
open Go Classical
section
variable {α:Type} [DecidableEq α] {N:Nat}
end
section
variable {N:Nat}
end
end Go.Gk
namespace Go.Gk
open Go Classical
theorem zn (n:Nat) (g:Nat->Nat): ((List.range (n+1)).map g).sum= ((List.range n).map g).sum+g n:=by
 rw [List.range_succ,fD,List.sum_append];simp
def LX (r:aJ) (x y:Int):Bool:=(decide (r.X0<=x)&&decide (x<r.X1))&&(decide (r.Y0<=y)&&decide (y<r.Y1))
def LO (a b:aJ):Prop:=∀x y,¬(LX a x y=true/\LX b x y=true)
theorem I1 {r:aJ} {x y:Int}:LX r x y=true↔(r.X0<=x/\x<r.X1)/\r.Y0<=y/\y<r.Y1:=by unfold LX;simp
theorem wt: ∀{xs:List Int},mj xs->(Aq xs).Pairwise (fun p q=>p.2<q.1)
 | [],_=>ma
 | [a],_=>ma
 | a::b::l,h=>by
  unfold Aq
  rw [List.pairwise_cons]
  exact⟨fun q hq=>h.tail.head q.1 (Bi q hq).1,wt h.tail.tail⟩
def DW (a b:aJ):Prop:=a.Y1<=b.Y0\/(a.Y0=b.Y0/\a.Y1=b.Y1/\a.X1<b.X0)
theorem DW.apart {a b:aJ} (h:DW a b):LO a b:=fun x y ⟨h1,h2⟩=>by
 rw [I1] at h1 h2
 rcases h with h | h <;> omega
theorem wu: ∀{s:List aA},eJ (s.map bT)->(aR s).Pairwise DW
 | [],_=>ma
 | b::s,h=>by
  rw [mn,List.pairwise_append]
  refine⟨?_,wu h.tail,fun x hx y hy=>?_⟩
  ·unfold mm
   rw [List.pairwise_map]
   exact List.Pairwise.imp (fun hpq=> .inr ⟨rfl,rfl,hpq⟩) (wt (h.each (bT b) (by simp)).2.2.1)
  ·unfold mm at hx
   obtain⟨p,_,rfl⟩:=cR.1 hx
   obtain⟨c,hc,q,_,rfl⟩:=ox hy
   exact .inl (h.yS (bT c) (cR.2 ⟨c,hc,rfl⟩))
theorem AA {s:List aA} (h:eJ (s.map bT)): ∀r∈aR s,r.X0<r.X1/\r.Y0<r.Y1:=fun r hr=>by
 obtain⟨b,hb,p,hp,rfl⟩:=ox hr
 have hc:=h.each (bT b) (cR.2 ⟨b,hb,rfl⟩)
 exact⟨DI hc.2.2.1 p hp,hc.1⟩
theorem CR {s:List aA} (h:eJ (s.map bT)): (aR s).Nodup:=by
 have h1:=wu h
 have h2:=AA h
 refine List.Pairwise.imp_of_mem (fun{a b} ha hb hab e=>?_) h1
 subst e
 have:=h2 a ha
 rcases hab with h | h <;> omega
def nR (s:List Bd):Nat:=(s.map (fun b=>b.xs.length / 2)).sum
theorem tk (s t:List Bd):nR (s++t)=nR s+nR t:=by unfold nR;rw [fD,List.sum_append]
theorem FW (s:List Bd) (b:Bd):nR (ml s b)<=nR s+b.xs.length / 2:=by
 unfold ml
 split
 ·omega
 ·split
  ·rename_i c hc
   have hsp:=q6 hc
   have e:nR s=nR s.dropLast+c.xs.length / 2:=by
    conv=>lhs;rw [hsp,tk]
    simp [nR]
   split
   ·rw [tk,e];simp [nR]
   ·rw [tk];simp [nR]
  ·simp [nR]
structure NZ (t:List Bd):Prop where
 each: ∀b∈t,b.y0<b.y1/\mj b.xs/\b.xs.length % 2=0
 ord:t.Pairwise (fun b c=>b.y1<=c.y0)
theorem fold_push: ∀(t out:List Bd),NZ t->eJ out->(∀c∈out,∀b∈t,c.y1<=b.y0)->eJ (t.foldl ml out)/\nR (t.foldl ml out)<=nR out+nR t/\
  ∀y,rowAt (t.foldl ml out) y=if (∃b∈t,b.y0<=y/\y<b.y1) then rowAt t y else rowAt out y
 | [],out,_,hc,_=>⟨hc,by simp [nR],fun y=>by simp⟩
 | b::t,out,hl,hc,ho=>by
  have hb:=hl.each b (by simp)
  have hord:=List.pairwise_cons.1 hl.ord
  have ho1: ∀c∈out,c.y1<=b.y0:=fun c h=>ho c h b (by simp)
  have h1:=wX hc ho1 hb.2.1 hb.2.2
  have htop:=wY ho1 (show b.y0<=b.y1 by omega)
  obtain⟨f1,f2,f3⟩:=fold_push t (ml out b) ⟨fun c hcm=>hl.each c (kc _ hcm),hord.2⟩ h1 (fun c hcm d hd=>by have:=htop c hcm;have:=hord.1 d hd;omega)
  refine⟨f1,?_,fun y=>?_⟩
  ·have:=FW out b
   have e:nR (b::t)=b.xs.length / 2+nR t:=by simp [nR]
   rw [List.foldl_cons,e];omega
  ·rw [List.foldl_cons,f3 y,wW ho1 (fun c hcm=>(hc.each c hcm).1) (fun h=>absurd h (by omega)),lr]
   by_cases hy:b.y0<=y/\y<b.y1
   ·have hn: ¬∃c∈t,c.y0<=y/\y<c.y1:=fun⟨c,hcm,h⟩=>by have:=hord.1 c hcm;omega
    rw [aD hn,aC hy,aC ⟨b,by simp,hy⟩,aC hy]
   ·rw [aD hy]
    by_cases h: ∃c∈t,c.y0<=y/\y<c.y1
    ·obtain⟨c,hcm,h⟩:=h
     rw [aC ⟨c,hcm,h⟩,aC ⟨c,kc _ hcm,h⟩,aD hy]
    ·rw [aD h,aD hy,aD (show ¬∃c∈b::t,c.y0<=y/\y<c.y1 from fun⟨c,hcm,h2⟩=>by
      rcases fG.1 hcm with rfl | hcm
      ·exact hy h2
      ·exact h ⟨c,hcm,h2⟩)]
noncomputable def nW (C:List aJ) (b:aA):Bd:=⟨b.Y0,b.Y1,pw ((Aq b.Xs).filter (fun p=>decide ((⟨p.1,b.Y0,p.2,b.Y1⟩:aJ)∈C)))⟩
theorem FX {l m:List (Int×Int)} (h:l.Sublist m): (pw l).Sublist (pw m):=by
 induction h with
 | slnil=>exact List.Sublist.refl _
 | cons a _ ih=>rw [nb];exact(ih.cons _).cons _
 | cons_cons a _ ih=>rw [nb,nb];exact(ih.cons_cons _).cons_cons _
theorem zo (l:List (Int×Int)): (pw l).length % 2=0/\(pw l).length / 2=l.length:=by rw [FA];omega
theorem AB {s p:List aA} {C:List aJ} (hs:eJ (s.map bT)) (hp:eJ (p.map bT)) (hC: ∀r∈C,r∈aR s) (hcov: ∀x y,vZ (p.map bT) x y=zR C x y): (aR p).length<=C.length:=by
 have hinc: ∀b∈s,mj (nW C b).xs:=fun b hb=>by
  have h1:=EM hs b hb
  have h2:=FX (List.filter_sublist (l:=Aq b.Xs) (p:=fun p=>decide ((⟨p.1,b.Y0,p.2,b.Y1⟩:aJ)∈C)))
  rw [v8 (qt hs b hb)] at h2
  exact List.Pairwise.sublist h2 h1
 have hlow:NZ (s.map (nW C)):=by
  refine⟨fun b hb=>?_,?_⟩
  ·obtain⟨c,hc,rfl⟩:=cR.1 hb
   exact⟨(hs.each (bT c) (cR.2 ⟨c,hc,rfl⟩)).1,hinc c hc,(zo _).1⟩
  ·have:=hs.ord
   rw [List.pairwise_map] at this ⊢
   exact List.Pairwise.imp (fun h=>h.1) this
 obtain⟨f1,f2,f3⟩:=fold_push (s.map (nW C)) [] hlow eJ.nil (fun c hc=>by cases hc)
 have hrow: ∀{t:List aA},(∀b∈t,b∈s)->∀x y,m0 (rowAt (t.map (nW C)) y) x=true->zR C x y=true:=by
  intro t ht x y h
  induction t with
  | nil=>cases h
  | cons b t ih=>
   rw [dV,lr] at h
   split at h
   ·rename_i hy
    have hbm:=ht b (by simp)
    have h1:=hinc b hbm
    have h:m0 (pw ((Aq b.Xs).filter (fun p=>decide ((⟨p.1,b.Y0,p.2,b.Y1⟩:aJ)∈C)))) x=true:=h
    rw [v5 h1,yW] at h
    obtain⟨q,hq,h2⟩:=h
    have hq:=gR.1 hq
    exact kq.2 ⟨_,of_decide_eq_true hq.2,h2,hy⟩
   ·exact ih (fun c hc=>ht c (kc _ hc)) h
 have hrow2: ∀x y,zR C x y=true->m0 (rowAt (s.map (nW C)) y) x=true:=by
  intro x y h
  obtain⟨r,hr,h1,h2⟩:=kq.1 h
  obtain⟨b,hb,q,hq,rfl⟩:=ox (hC r hr)
  dsimp only at h1 h2
  have key: ∀{t:List aA},(∀c∈t,c∈s)->eJ (t.map bT)->b∈t->rowAt (t.map (nW C)) y= (nW C b).xs:=by
   intro t ht hc hbt
   induction t with
   | nil=>cases hbt
   | cons c t ih=>
    rw [dV,lr]
    by_cases hy:c.Y0<=y/\y<c.Y1
    ·rw [aC (show (nW C c).y0<=y/\y< (nW C c).y1 from hy)]
     rcases fG.1 hbt with rfl | hbt
     ·rfl
     ·have:=hc.yS (bT b) (cR.2 ⟨b,hbt,rfl⟩)
      have e1: (bT c).y1=c.Y1:=rfl
      have e2: (bT b).y0=b.Y0:=rfl
      omega
    ·rw [aD (show ¬((nW C c).y0<=y/\y< (nW C c).y1) from hy)]
     rcases fG.1 hbt with rfl | hbt
     ·exact absurd h2 hy
     ·exact ih (fun d hd=>ht d (kc _ hd)) hc.tail hbt
  rw [key (fun c hc=>hc) hs hb]
  have h1':=hinc b hb
  show m0 (pw ((Aq b.Xs).filter (fun p=>decide ((⟨p.1,b.Y0,p.2,b.Y1⟩:aJ)∈C)))) x=true
  rw [v5 h1',yW]
  exact⟨q,gR.2 ⟨hq,cD hr⟩,h1⟩
 have hsame:p.map bT= (s.map (nW C)).foldl ml []:=yU hp f1 fun x y=>by
  rw [hcov,fH]
  have e:rowAt ((s.map (nW C)).foldl ml []) y=rowAt (s.map (nW C)) y:=by
   rw [f3]
   by_cases h: ∃b∈s.map (nW C),b.y0<=y/\y<b.y1
   ·rw [aC h]
   ·rw [aD h]
    exact(kp fun b hb=>by
     have: ¬(b.y0<=y/\y<b.y1):=fun h2=>h ⟨b,hb,h2⟩
     omega).symm
  unfold vZ
  rw [e]
  exact⟨hrow2 x y,hrow (fun b hb=>hb) x y⟩
 have hc1: (aR p).length=nR (p.map bT):=by
  have: ∀p:List aA,(aR p).length=nR (p.map bT):=fun p=>by
   induction p with
   | nil=>rfl
   | cons b p ih=>rw [mn,cU,lO,ih];unfold nR;rw [dV,dV,List.sum_cons];rfl
  exact this p
 have hc2: ∀s:List aA,nR (s.map (nW C))= ((aR s).filter (fun r=>decide (r∈C))).length:=fun s=>by
  induction s with
  | nil=>rfl
  | cons b s ih=>
   rw [mn,iL,cU,<-ih]
   unfold nR
   rw [dV,dV,List.sum_cons]
   congr 1
   show (pw _).length / 2=_
   rw [(zo _).2]
   unfold mm
   rw [List.filter_map,gp];rfl
 have hc3: ((aR s).filter (fun r=>decide (r∈C))).length<=C.length:=eL (List.Nodup.sublist List.filter_sublist (CR hs)) fun r hr=>of_decide_eq_true (gR.1 hr).2
 rw [hc1,hsame]
 have e0:nR ([]:List Bd)=0:=rfl
 have:=hc2 s
 omega
end Go.Gk
namespace Go.Gk
open Go Classical
section
variable {N:Nat}
theorem I2 (hN:16<=N):dL N=some true:=by
 have:=FI (N:=N - 16)
 rwa [show N - 16+16=N by omega] at this
theorem uq {all:List aJ} (w:aJ->Nat): ∀(c:List Nat),((c.filterMap (fun i=>all[i]?)).map w).sum= (c.map (fun i=>(all[i]?).elim 0 w)).sum
 | []=>rfl
 | i::c=>by
  rw [dV,List.sum_cons,<-uq w c]
  cases h:all[i]? with
  | none=>rw [List.filterMap_cons_none (f:=fun i=>all[i]?) h];simp
  | some x=>rw [List.filterMap_cons_some (f:=fun i=>all[i]?) h,dV,List.sum_cons];rfl
theorem I3 {all:List aJ} {u:Nat->Nat} (h: ∀i,i<all.length->u i∈bW all.length u) (w:aJ->Nat): ((bW all.length u).map (fun k=>((mN all all.length u k).map w).sum)).sum= (all.map w).sum:=by
 have e: (fun k=>((mN all all.length u k).map w).sum)=fun k=>(((List.range all.length).filter (fun x=>decide (u x=k))).map (fun i=>(all[i]?).elim 0 w)).sum:=by
  funext k;unfold mN;rw [uq];rfl
 rw [e,CQ (mo _ _) u _ (fun x hx=>h x (o6.1 hx))]
 have: ∀m,m<=all.length->((List.range m).map (fun i=>(all[i]?).elim 0 w)).sum= ((all.take m).map w).sum:=by
  intro m
  induction m with
  | zero=>intro _;rfl
  | succ m ih=>
   intro hm
   rw [zn,ih (by omega),dU (by omega),fD,List.sum_append,aK (by omega)]
   simp
 rw [this _ (bI _),dJ]
theorem zp: ∀{l m:List Nat},l.length=m.length->(∀(j x y:Nat),l[j]? =some x->m[j]? =some y->x<=y)->l.sum<=m.sum
 | [],[],_,_=>bI _
 | [],_::_,h,_=>by simp at h
 | _::_,[],h,_=>by simp at h
 | a::l,b::m,h,hle=>by
  have h1:=hle 0 a b rfl rfl
  have h2:=zp (l:=l) (m:=m) (by simpa using h) fun j x y hx hy=>hle (j+1) x y (by simpa using hx) (by simpa using hy)
  rw [List.sum_cons,List.sum_cons];omega
theorem I4 {r hs:List aJ} {s:List aA} (h1: ∀x∈r,eT x=true) (h2: ∀x∈hs,eT x=true) (hc:eJ (s.map bT)) (hl:vd (qp r++qp hs) (l5 r++l5 hs) (s.map bT)): ∀q∈aR s,eT q=true/\q.X0<q.X1/\q.Y0<q.Y1:=by
 intro q hq
 have hp:=AA hc q hq
 obtain⟨b,hb,p,hpm,rfl⟩:=ox hq
 have hll:=hl (bT b) (cR.2 ⟨b,hb,rfl⟩)
 have hm:=Bi p hpm
 have bx: ∀c∈qp r++qp hs,-1000000<=c/\c<=1000000:=fun c hcm=>by
  rcases cY.1 hcm with h | h
  ·obtain⟨x,hx,h⟩:=qq.1 h
   have:=ly (h1 x hx)
   rcases h with rfl | rfl <;> omega
  ·obtain⟨x,hx,h⟩:=qq.1 h
   have:=ly (h2 x hx)
   rcases h with rfl | rfl <;> omega
 have by': ∀c∈l5 r++l5 hs,-1000000<=c/\c<=1000000:=fun c hcm=>by
  rcases cY.1 hcm with h | h
  ·obtain⟨x,hx,h⟩:=lv.1 h
   have:=ly (h1 x hx)
   rcases h with rfl | rfl <;> omega
  ·obtain⟨x,hx,h⟩:=lv.1 h
   have:=ly (h2 x hx)
   rcases h with rfl | rfl <;> omega
 have g1:=bx _ (hll.2.2 p.1 hm.1)
 have g2:=bx _ (hll.2.2 p.2 hm.2)
 have g3:=by' _ hll.1
 have g4:=by' _ hll.2.1
 exact⟨ze ⟨g1,g3,g2,g4⟩,hp⟩
structure tl (r hs:List aJ) (s:List aA) (u:Nat->Nat) (ps:List (List aA)):Prop where
 r1: ∀x∈r,eT x=true
 r2: ∀x∈hs,eT x=true
 k1: ∀x∈r,C5 x
 k2: ∀x∈hs,C5 x
 dr:tN r hs s
 pt:q9 s u ps
 BJ: (aR s).length<=2000
theorem tl.part {r hs:List aJ} {s:List aA} {u:Nat->Nat} {ps:List (List aA)} (h:tl r hs s u ps) {p:List aA} (hp:p∈ps):eJ (p.map bT)/\(aR p).length<=2000/\∀q∈aR p,eT q=true/\q.X0<q.X1/\q.Y0<q.Y1:=by
 obtain⟨sx,sy⟩:=h.dr.small h.k1 h.k2
 obtain⟨j,k,g1,g2,g3,g4⟩:=zh h.pt h.dr.can h.dr.lim sx sy hp
 have:=AB h.dr.can g3.can (fun x hx=>by
  obtain⟨i,_,_,hi⟩:=nK.1 hx
  exact eN hi) g3.cover
 have h2:=za (aR s) (aR s).length u k
 have:=h.BJ
 exact⟨g3.can,by omega,I4 h.r1 h.r2 g3.can g4⟩
theorem tl.bW {r hs:List aJ} {s:List aA} {u:Nat->Nat} {ps:List (List aA)} (h:tl r hs s u ps): ∀i,i< (aR s).length->u i∈Gk.bW (aR s).length u:=fun i hi=>iW.2 ⟨by have:=h.pt.join.le i hi;omega,h.pt.join.rr i hi⟩
theorem tl.total {r hs:List aJ} {s:List aA} {u:Nat->Nat} {ps:List (List aA)} (h:tl r hs s u ps): (ps.map (fun p=>(aR p).length)).sum<=(aR s).length:=by
 have h1:=I3 h.bW (fun _=>1)
 have one: ∀l:List aJ,(l.map (fun _=>1)).sum=l.length:=fun l=>by
  induction l with
  | nil=>rfl
  | cons x l ih=>simp only [dV,List.sum_cons,ih,gI];omega
 simp only [one] at h1
 rw [<-h1]
 refine zp (by simp [h.pt.len]) fun j x y hx hy=>?_
 rw [gH,o5] at hx hy
 obtain⟨p,hp,rfl⟩:=hx
 obtain⟨k,hk,rfl⟩:=hy
 have hs:=h.pt.each j k p hk hp
 exact AB h.dr.can hs.can (fun x hx=>by
  obtain⟨i,_,_,hi⟩:=nK.1 hx
  exact eN hi) hs.cover
theorem CS {ps:List (List aA)} {x y:Int}:zR (ps.flatMap aR) x y=true↔∃p∈ps,zR (aR p) x y=true:=by
 rw [kq]
 constructor
 ·rintro⟨r,hr,h⟩
  obtain⟨p,hp,hrp⟩:=List.mem_flatMap.1 hr
  exact⟨p,hp,kq.2 ⟨r,hrp,h⟩⟩
 ·rintro⟨p,hp,h⟩
  obtain⟨r,hr,h⟩:=kq.1 h
  exact⟨r,List.mem_flatMap.2 ⟨p,hp,hr⟩,h⟩
theorem tl.cover {r hs:List aJ} {s:List aA} {u:Nat->Nat} {ps:List (List aA)} (h:tl r hs s u ps) (x y:Int):zR (ps.flatMap aR) x y=vZ (s.map bT) x y:=by
 rw [<-tH h.dr.can,fH,CS]
 constructor
 ·rintro⟨p,hp,hc⟩
  obtain⟨j,hj⟩:=eA hp
  have hjl:=(aZ.1 hj).1
  have hk: (Gk.bW (aR s).length u)[j]? =some ((Gk.bW (aR s).length u)[j]'(by rw [<-h.pt.len];exact hjl)):=aK _
  have hs:=h.pt.each j _ _ hk hj
  rw [tH hs.can,hs.cover] at hc
  obtain⟨q,hq,h2⟩:=kq.1 hc
  obtain⟨i,_,_,hi⟩:=nK.1 hq
  exact kq.2 ⟨q,eN hi,h2⟩
 ·intro hc
  obtain⟨q,hq,h2⟩:=kq.1 hc
  obtain⟨i,hi⟩:=eA hq
  have hil:=(aZ.1 hi).1
  obtain⟨j,hj⟩:=eA (h.bW i hil)
  have hjl:j<ps.length:=by rw [h.pt.len];exact(aZ.1 hj).1
  have hs:=h.pt.each j _ _ hj (aK hjl)
  refine⟨_,dK hjl,?_⟩
  rw [tH hs.can,hs.cover]
  exact kq.2 ⟨q,nK.2 ⟨i,hil,rfl,hi⟩,h2⟩
section
variable {a:kr} {mX:List (List aA)} {gv:List (List (List aA))} {r:Nat->Nat} {gs:List bJ} {ofP ofB pz:List Int} {rF:List kb}
end
end
end Go.Gk
namespace Go.Gk
open Go Classical
def Bs (f:Int->Int->Bool) (x y:Int):Prop:=f x y=true/\∀x' y',f x' y'=true->y<y'\/(y=y'/\x<=x')
theorem Bs.unique {f:Int->Int->Bool} {x y x' y':Int} (h:Bs f x y) (h':Bs f x' y'):x=x'/\y=y':=by
 have h1:=h.2 _ _ h'.1
 have h2:=h'.2 _ _ h.1
 omega
section
variable {N:Nat}
structure BI (all:List aJ) (u:Nat->Nat) (i:Nat) (q:List Nat) (done:List Bool) (own:List aJ):Prop where
 len:done.length=all.length
 nd:q.Nodup
 lt: ∀k∈q,k<all.length/\u k=i
 hd:i∈q
 dn: ∀k,k<all.length->done[k]? =some (decide (u k<i\/k∈q))
 ow:own.map some=q.map (fun k=>all[k]?)
theorem BI.BJ {all:List aJ} {u:Nat->Nat} {i:Nat} {q:List Nat} {done:List Bool} {own:List aJ} (h:BI all u i q done own):q.length<=all.length:=by
 have:=eL h.nd (m:=List.range all.length) (fun k hk=>by rw [o6];exact(h.lt k hk).1)
 rwa [List.length_range] at this
theorem BI.at_ {all:List aJ} {u:Nat->Nat} {i:Nat} {q:List Nat} {done:List Bool} {own:List aJ} (h:BI all u i q done own) {p k:Nat} (hk:q[p]? =some k):own[p]? =all[k]? :=by
 have e:=congrArg (fun l=>l[p]?) h.ow
 simp only [gH,hk,Option.map_some] at e
 cases ho:own[p]? with
 | none=>rw [ho] at e;cases e
 | some x=>rw [ho] at e;injection e
theorem BI.mem {all:List aJ} {u:Nat->Nat} {i:Nat} {q:List Nat} {done:List Bool} {own:List aJ} (h:BI all u i q done own) {r:aJ}:r∈own↔∃k∈q,all[k]? =some r:=by
 have:r∈own↔some r∈own.map some:=by simp
 rw [this,h.ow,cR]
end
end Go.Gk
namespace Go.Gk
open Go Classical
section
variable {α β:Type}
theorem HL {N:Nat} {l:List α} {s:β} {φ:α->β->Option Int} (c:α->Int) (hφ: ∀x,φ x s=some (c x)) (hs: ∀(i j:Nat) (x y:α),i<j->l[i]? =some x->l[j]? =some y->0<=c x->0<c y)
  (hl:l.length<=1048576) (hN:4194304<=N): ∃r,zM N l s φ=some r/\r.2=l.any (fun x=>c x==0)/\(r.2=true->r.1=Cw l (fun x=>c x==0)):=by
 show Ok (zM N l s φ) (fun r=>r.2=l.any (fun x=>c x==0)/\(r.2=true->r.1=Cw l (fun x=>c x==0)))
 unfold zM
 refine Ok.bind (Ok.nL (Go:=fun st:Int×Int=>∃a:Nat,st.1= ((a:Nat):Int)/\a<=l.length/\(∀j x,j<a->l[j]? =some x->c x<0)/\(∀j x,a<=j->l[j]? =some x->0<=c x)) (Rt:=fun _=>True)
  (fun st=>∃a b:Nat,st= (((a:Nat):Int),((b:Nat):Int))/\a<=b/\b<=l.length/\(∀j x,j<a->l[j]? =some x->c x<0)/\(∀j x,b<=j->l[j]? =some x->0<=c x))
  (fun st=>(st.2 - st.1).toNat) ?_ ⟨0,l.length,rfl,by omega,bI _,fun j x hj=>by omega,fun j x hj hx=>by have:=(aZ.1 hx).1;omega⟩ (by simp only;omega)) ?_
 ·rintro st ⟨a,b,rfl,hab,hb,h1,h2⟩
  dsimp only
  by_cases hlt:a<b
  ·have hm: (a+b) / 2<l.length:=by omega
   have hx:l[(a+b) / 2]? =some l[(a+b) / 2]:=aK hm
   rw [show decide (((a:Nat):Int)< ((b:Nat):Int))=true by rw [cE];omega,aT,Ak hlt (by omega:b<=4611686018427387904)]
   refine Ok.ix hx (Ok.eq (hφ _) ?_)
   by_cases hc:c l[(a+b) / 2]<0
   ·rw [cD hc,aT,aB]
    refine Ok.nx ⟨⟨(a+b) / 2+1,b,?_,by omega,hb,fun j x hj hx'=>?_,h2⟩,?_⟩
    ·rw [g8 (by omega)]
    ·by_cases e:j= (a+b) / 2
     ·subst e;rw [hx] at hx';injection hx' with hx';rw [<-hx'];exact hc
     ·by_cases h0:c x<0
      ·exact h0
      ·have:=hs j _ x _ (by omega) hx' hx (by omega)
       omega
    ·rw [g8 (by omega)];simp only;omega
   ·rw [bS hc,aY,aB]
    refine Ok.nx ⟨⟨a,(a+b) / 2,rfl,by omega,by omega,h1,fun j x hj hx'=>?_⟩,by simp only;omega⟩
    by_cases e:j= (a+b) / 2
    ·subst e;rw [hx] at hx';injection hx' with hx';rw [<-hx'];omega
    ·have:=hs _ j _ x (by omega) hx hx' (by omega)
     omega
  ·rw [show decide (((a:Nat):Int)< ((b:Nat):Int))=false by rw [decide_eq_false_iff_not];omega,aY]
   exact Ok.br ⟨a,rfl,by omega,h1,fun j x hj hx=>h2 j x (by omega) hx⟩
 intro o ho
 refine Ok.cs ho ?_ (fun r hr=>r.elim)
 rintro⟨st1,st2⟩ ⟨a,ha,hle,h1,h2⟩
 dsimp only at ha ⊢
 subst ha
 by_cases hlt:a<l.length
 ·have hx:l[a]? =some l[a]:=aK hlt
  rw [show decide (((a:Nat):Int)< ((l.length:Nat):Int))=true by rw [cE];omega,aT,eX hx,aB,hφ,aB,aB]
  refine Ok.ret ?_
  by_cases he:c l[a]=0
  ·have hb: (c l[a]==0)=true:=by rw [beq_iff_eq];exact he
   rw [hb]
   refine⟨(ke.2 ⟨_,dK hlt,hb⟩).symm,fun _=>?_⟩
   rw [Cx hx hb (fun j y hj hy=>by have:=h1 j y hj hy;rw [beq_eq_false_iff_ne];omega)]
  ·have hb: (c l[a]==0)=false:=by rw [beq_eq_false_iff_ne];exact he
   rw [hb]
   refine⟨?_,fun h=>by cases h⟩
   symm
   rw [List.any_eq_false]
   intro x hx'
   obtain⟨j,hj⟩:=eA hx'
   rw [iM,beq_eq_false_iff_ne]
   by_cases hja:j<a
   ·have:=h1 j x hja hj;omega
   ·by_cases e:j=a
    ·subst e;rw [hx] at hj;injection hj with hj;rw [<-hj];exact he
    ·have h3:=h2 a _ (bI _) hx
     have:=hs a j _ x (by omega) hx hj h3
     omega
 ·rw [show decide (((a:Nat):Int)< ((l.length:Nat):Int))=false by rw [decide_eq_false_iff_not];omega,aY,aB]
  refine Ok.ret ⟨?_,fun h=>by cases h⟩
  symm
  rw [List.any_eq_false]
  intro x hx'
  obtain⟨j,hj⟩:=eA hx'
  have:=(aZ.1 hj).1
  have:=h1 j x (by omega) hj
  rw [iM,beq_eq_false_iff_ne];omega
end
def xP (p q:aX):Prop:=bR.lt p.Part q.Part\/(p.Part=q.Part/\bR.lt p.aX q.aX)
theorem ET {p q:aX} (h1:p.Part=q.Part) (h2:p.aX=q.aX):p=q:=by cases p;cases q;simp at h1 h2;subst h1;subst h2;rfl
theorem xP.irrefl (p:aX): ¬xP p p:=fun h=>by
 rcases h with h | ⟨_,h⟩
 ·exact bR.lt_irrefl _ h
 ·exact bR.lt_irrefl _ h
theorem xP.trans {p q r:aX} (h1:xP p q) (h2:xP q r):xP p r:=by
 rcases h1 with h1 | ⟨e1,h1⟩ <;> rcases h2 with h2 | ⟨e2,h2⟩
 ·exact .inl (bR.lt_trans h1 h2)
 ·exact .inl (by rw [<-e2];exact h1)
 ·exact .inl (by rw [e1];exact h2)
 ·exact .inr ⟨e1.trans e2,bR.lt_trans h1 h2⟩
theorem xP.total (p q:aX):xP p q\/p=q\/xP q p:=by
 rcases bR.p9 p.Part q.Part with h | h | h
 ·exact .inl (.inl h)
 ·rcases bR.p9 p.aX q.aX with h' | h' | h'
  ·exact .inl (.inr ⟨h,h'⟩)
  ·exact .inr (.inl (ET h h'))
  ·exact .inr (.inr (.inr ⟨h.symm,h'⟩))
 ·exact .inr (.inr (.inl h))
theorem xP.asymm {p q:aX} (h:xP p q): ¬xP q p:=fun h'=>xP.irrefl p (h.trans h')
theorem xP.ne {p q:aX} (h:xP p q):p≠q:=fun e=>by subst e;exact xP.irrefl _ h
theorem qz {a b:bR}:Lib.compareBytes a.cB b.cB=0↔a=b:=⟨fun h=>bR.ext' ((iE _ _).1 h),fun h=>(iE _ _).2 (by rw [h])⟩
theorem om {p q:aX}:jG p q=0↔p=q:=by
 unfold jG
 by_cases h:Lib.compareBytes p.Part.cB q.Part.cB=0
 ·rw [aD (by simpa using h),qz]
  exact⟨fun h'=>ET (qz.1 h) h',fun h'=>by rw [h']⟩
 ·rw [aC h]
  exact⟨fun h'=>absurd h' h,fun h'=>absurd (qz.2 (by rw [h'])) h⟩
theorem zq {p q:aX}:jG p q<0↔xP p q:=by
 unfold jG xP
 by_cases h:Lib.compareBytes p.Part.cB q.Part.cB=0
 ·rw [aD (by simpa using h),m7]
  have e:=qz.1 h
  constructor
  ·exact fun h'=> .inr ⟨e,h'⟩
  ·rintro(h' | ⟨_,h'⟩)
   ·rw [e] at h';exact absurd h' (bR.lt_irrefl _)
   ·exact h'
 ·rw [aC h,m7]
  constructor
  ·exact fun h'=> .inl h'
  ·rintro(h' | ⟨e,_⟩)
   ·exact h'
   ·exact absurd (qz.2 e) h
theorem u3 {p q:aX}:0<jG p q↔xP q p:=by
 constructor
 ·intro h
  rcases xP.total p q with h' | h' | h'
  ·have:=zq.2 h';omega
  ·have:=om.2 h';omega
  ·exact h'
 ·intro h
  by_cases h1:jG p q<0
  ·exact absurd (zq.1 h1) h.asymm
  ·by_cases h2:jG p q=0
   ·exact absurd (om.1 h2).symm h.ne
   ·omega
section
variable {N:Nat}
structure DX (a:kr) (x:eQ):Prop where
 name:lx x.Part=true/\isWord x.aX=true
 LK:0<=x.eU/\x.eU< ((a.aO.length:Nat):Int)
 at_:uk x.At=true
structure qA (a:kr):Prop where
 BJ:a.bM.length<=1000
 each: ∀x∈a.bM,DX a x
 up:a.bM.Pairwise (fun x y=>xP (jR x) (jR y))
theorem Bt {a:kr} {k:Nat} {x:eQ} (hx:a.bM[k]? =some x) (h:mQ a k=none):DX a x/\∀y,0<k->a.bM[k - 1]? =some y->xP (jR y) (jR x):=by
 unfold mQ at h
 rw [hx,Option.bind_some] at h
 split at h
 ·rename_i h1
  split at h
  ·rename_i h2
   split at h
   ·cases h
   ·rename_i h3
    rw [cC] at h1 h2
    unfold iw at h2
    rw [cC,cE,cE] at h2
    refine⟨⟨h1,⟨by omega,by omega⟩,h2.2⟩,fun y hk hy=>?_⟩
    have h4: ¬jG (jR x) (jR y)<=0:=fun h4=>h3 ⟨hk,y,hy,h4⟩
    exact u3.1 (by omega)
  ·cases h
 ·cases h
theorem DY {a:kr} {k:Nat} {e:Int} (h:mQ a k=some e):e≠0:=by
 unfold mQ at h
 cases hx:a.bM[k]? with
 | none=>rw [hx] at h;cases h
 | some x=>
  rw [hx,Option.bind_some] at h
  repeat' split at h
  all_goals first | (injection h with h;omega) | cases h
theorem FY {a:kr} (h:mR a=0):qA a:=by
 unfold mR at h
 split at h
 ·omega
 rename_i hl
 have hn:lK a.bM.length (mQ a)=none:=by
  cases hf:lK a.bM.length (mQ a) with
  | none=>rfl
  | some e=>
   rw [hf] at h
   obtain⟨k,_,hk,_⟩:=jq.1 hf
   exact absurd h (DY hk)
 rw [jo] at hn
 have hg: ∀(k:Nat) x,a.bM[k]? =some x->DX a x/\∀y,0<k->a.bM[k - 1]? =some y->xP (jR y) (jR x):=fun k x hx=>Bt hx (hn k (aZ.1 hx).1)
 refine⟨by omega,fun x hx=>?_,?_⟩
 ·obtain⟨k,hk⟩:=eA hx
  exact(hg k x hk).1
 ·have hstep: ∀(n i:Nat) x y,a.bM[i]? =some x->a.bM[i+n+1]? =some y->xP (jR x) (jR y):=by
   intro n
   induction n with
   | zero=>intro i x y hx hy;exact(hg (i+1) y hy).2 x (by omega) hx
   | succ n ih=>
    intro i x y hx hy
    have hz:i+n+1<a.bM.length:=by have:=(aZ.1 hy).1;omega
    have h1:=ih i x _ hx (aK hz)
    exact h1.trans ((hg (i+ (n+1)+1) y hy).2 _ (by omega) (by rw [show i+ (n+1)+1 - 1=i+n+1 by omega];exact aK hz))
  rw [nY]
  intro i j hi hj hij
  exact hstep (j - i - 1) i _ _ (aK hi) (by rw [show i+ (j - i - 1)+1=j by omega];exact aK hj)
theorem qA.inj {a:kr} (h:qA a) {i j:Nat} {x y:eQ} (hx:a.bM[i]? =some x) (hy:a.bM[j]? =some y) (e:jR x=jR y):i=j:=by
 obtain⟨h1,rfl⟩:=aZ.1 hx
 obtain⟨h2,rfl⟩:=aZ.1 hy
 have hp:=nY.1 h.up
 rcases Nat.lt_trichotomy i j with h3 | h3 | h3
 ·exact absurd e (hp i j h1 h2 h3).ne
 ·exact h3
 ·exact absurd e.symm (hp j i h2 h1 h3).ne
theorem CT {l:List eQ} {p:aX} (hu:l.Pairwise (fun x y=>xP (jR x) (jR y))) (hl:l.length<=1048576) (hN:4194304<=N) {φ:eQ->aX->Option Int} (hφ: ∀x,φ x p=some (jG (jR x) p)):
  ∃r,zM N l p φ=some r/\(bif (!r.2) then (some (-1)) else (some r.1))=some (Cw l (fun x=>decide (jR x=p))):=by
 obtain⟨r,h1,h2,h3⟩:=HL (N:=N) (l:=l) (s:=p) (φ:=φ) (fun x=>jG (jR x) p) hφ (fun i j x y hij hx hy hc=>by
  obtain⟨g1,rfl⟩:=aZ.1 hx
  obtain⟨g2,rfl⟩:=aZ.1 hy
  have hlt:=nY.1 hu i j g1 g2 hij
  refine u3.2 ?_
  by_cases h0:jG (jR l[i]) p=0
  ·rw [<-om.1 h0];exact hlt
  ·exact(u3.1 (by omega)).trans hlt) hl hN
 have e: (fun x=>jG (jR x) p==0)= (fun x=>decide (jR x=p)):=by
  funext x
  rw [fH,beq_iff_eq,cE,om]
 rw [e] at h2 h3
 refine⟨r,h1,?_⟩
 cases hr:r.2 with
 | true=>simp only [nk,aY];rw [h3 hr]
 | false=>
  simp only [o8,aT]
  rw [hr] at h2
  rw [yI h2.symm]
def pA (a:kr) (p:aX):Int:=Cw a.bM (fun x=>decide (jR x=p))
theorem CU (a:kr) (p:aX): (pA a p = -1/\∀x∈a.bM,jR x≠p)\/∃(k:Nat) (x:eQ),pA a p= ((k:Nat):Int)/\a.bM[k]? =some x/\jR x=p:=by
 rcases j4 a.bM (fun x=>decide (jR x=p)) with ⟨h1,h2⟩ | ⟨k,x,h1,h2,h3,_⟩
 ·exact .inl ⟨h1,fun x hx=>of_decide_eq_false (h2 x hx)⟩
 ·exact .inr ⟨k,x,h1,h2,of_decide_eq_true h3⟩
end
end Go.Gk
namespace Go.Gk
open Go Classical
section
variable {N:Nat}
end
end Go.Gk
namespace Go.Gk
open Go Classical
section
variable {N:Nat}
end
section
variable {N:Nat} {a:kr} {mX:List (List aA)} {gv:List (List (List aA))} {r:Nat->Nat} {gs:List bJ} {ofP ofB pz:List Int} {rF:List kb}
end
end Go.Gk
namespace Go.Gk
open Go Classical
structure PS (n:Nat) (r:Nat->Nat) (h:Nat) (q:List Nat) (seen:List Bool) (pieces todo:List Int):Prop where
 sl:seen.length=n
 sn: ∀p,p<n->seen[p]? =some (decide (r p<h\/p∈q))
 qn:q.Nodup
 qi: ∀p∈q,p<n/\r p=h
 q0:h∈q
 td:todo=ints q
 pi:mj pieces
 pm: ∀x,x∈pieces↔∃p∈q,x= ((p:Nat):Int)
structure QS (n m:Nat) (tch:List (List Int)) (r:Nat->Nat) (h:Nat) (q qb:List Nat) (wm:List Int) (used:List Bool):Prop where
 ul:used.length=m
 un: ∀k,k<m->used[k]? =some (decide (k∈qb))
 bi:mj wm
 bm: ∀x,x∈wm↔∃k∈qb,x= ((k:Nat):Int)
 bk: ∀k∈qb,k<m/\r (n+k)=h/\∀l,tch[k]? =some l->∀p:Nat,((p:Nat):Int)∈l->p∈q
theorem PS.BJ {n:Nat} {r:Nat->Nat} {h:Nat} {q:List Nat} {seen:List Bool} {pieces todo:List Int} (H:PS n r h q seen pieces todo):q.length<=n/\pieces.length<=n:=by
 have h1:=eL H.qn (m:=List.range n) (fun k hk=>by rw [o6];exact(H.qi k hk).1)
 rw [List.length_range] at h1
 have h2:=eL H.pi.nodup (m:=ints q) (fun x hx=>zi.2 ((H.pm x).1 hx))
 rw [lz] at h2
 exact⟨h1,by omega⟩
theorem QS.BJ {n m:Nat} {tch:List (List Int)} {r:Nat->Nat} {h:Nat} {q qb:List Nat} {wm:List Int} {used:List Bool} (H:QS n m tch r h q qb wm used):wm.length<=m:=by
 have h2:=eL H.bi.nodup (m:=ints (List.range m)) (fun x hx=>by
  obtain⟨k,hk,e⟩:=(H.bm x).1 hx
  exact zi.2 ⟨k,o6.2 (H.bk k hk).1,e⟩)
 rwa [lz,List.length_range] at h2
section
variable {N:Nat}
end
end Go.Gk
namespace Go.Gk
open Go Classical
structure Oi (G G':List bJ):Prop where
 len:G'.length=G.length
 each: ∀(g:Nat) x,G[g]? =some x->∃y,G'[g]? =some y/\y.mA=x.mA/\y.bL=x.bL
section
variable {N:Nat}
end
section
variable {N:Nat} {a:kr} {mX:List (List aA)} {gv:List (List (List aA))} {r:Nat->Nat} {gs:List bJ} {ofP ofB pz:List Int} {rF:List kb}
theorem rh.Az (b:rh a mX gv r gs ofP ofB pz rF):qA a:=FY b.Kg.Az
end
end Go.Gk
namespace Go.Gk
open Go Classical
section
variable {N:Nat} {a:kr} {mX:List (List aA)} {gv:List (List (List aA))} {r:Nat->Nat} {gs:List bJ} {ofP ofB pz:List Int} {rF:List kb}
end
section
variable {N:Nat}
end
end Go.Gk
namespace Go.Gk
open Go Classical
section
variable {bs:List cN} {ls:List eQ} {pcs:List aI} {r:Nat->Nat} {gs:List bJ} {ofP ofB pz:List Int} {rF:List kb}
theorem Kj (hc:xc bs ls pcs r gs ofP ofB pz rF) {g:Nat} {x:bJ} (hg:gs[g]? =some x):
  ∃hd,(live bs pcs.length (pcs.length+bs.length) r (bW (pcs.length+bs.length) r))[g]? =some hd/\x.mA=ints (gP pcs.length (cls (pcs.length+bs.length) r hd))/\
   x.bL=ints (gB bs pcs.length (cls (pcs.length+bs.length) r hd))/\x.aS= (ls.filter (fun l=>decide (Ax bs pcs r l=some g))).map jR:=by
 rw [hc.gs,iR] at hg
 obtain⟨y,hy,rfl⟩:=o5.1 hg
 unfold o4 at hy
 rw [gH] at hy
 obtain⟨hd,h1,rfl⟩:=o5.1 hy
 exact⟨hd,h1,rfl,rfl,rfl⟩
theorem HM (hc:xc bs ls pcs r gs ofP ofB pz rF):gs.length= (live bs pcs.length (pcs.length+bs.length) r (bW (pcs.length+bs.length) r)).length/\gs.length<=pcs.length+bs.length:=by
 have e:gs.length= (live bs pcs.length (pcs.length+bs.length) r (bW (pcs.length+bs.length) r)).length:=by
  rw [hc.gs,wk,qx]
 refine⟨e,?_⟩
 rw [e]
 have:=rf bs pcs.length (pcs.length+bs.length) r (bW (pcs.length+bs.length) r)
 have:=nc (pcs.length+bs.length) r
 omega
theorem I5 (hc:xc bs ls pcs r gs ofP ofB pz rF) {g:Nat} {x:bJ} (hg:gs[g]? =some x):x.mA.length<=pcs.length+bs.length/\x.bL.length<=pcs.length+bs.length/\x.aS.length<=ls.length:=by
 obtain⟨hd,h1,h2,h3,h4⟩:=Kj hc hg
 have a1:=DS pcs.length (cls (pcs.length+bs.length) r hd)
 have a2:=DT bs pcs.length (cls (pcs.length+bs.length) r hd)
 have a3:=x4 (pcs.length+bs.length) r hd
 rw [h2,h3,h4,lz,lz,gp]
 have:=hU (fun l=>decide (Ax bs pcs r l=some g)) ls
 omega
end
section
variable {N:Nat} {a:kr} {mX:List (List aA)} {gv:List (List (List aA))} {r:Nat->Nat} {gs:List bJ} {ofP ofB pz:List Int} {rF:List kb}
end
section
variable {N:Nat}
end
end Go.Gk
namespace Go.Gk
open Go Classical
section
variable {N:Nat} {a:kr} {mX:List (List aA)} {gv:List (List (List aA))} {r:Nat->Nat} {gs:List bJ} {ofP ofB pz:List Int} {rF:List kb}
theorem FZ (bs:List cN) (pcs:List aI) (r:Nat->Nat) (l:eQ):DU bs pcs r l = -1\/∃g:Nat,DU bs pcs r l= ((g:Nat):Int):=by
 unfold DU
 cases Ax bs pcs r l with
 | none=>exact .inl rfl
 | some g=>exact .inr ⟨g,rfl⟩
theorem xe (g:qA a) (p:aX) (hN:4398046511104<=N):iT N a p=some (pA a p):=by
 obtain⟨r,h1,h2⟩:=CT (N:=N) (p:=p) g.up (by have:=g.BJ;omega) (by omega) (φ:=gN N) (fun x=>by unfold gN;rw [qw,aB,rE,aB])
 unfold iT
 have e:eP N a.bM p (gN N)=zM N a.bM p (gN N):=rfl
 rw [e,h1,aB];exact h2
end
section
variable {N:Nat}
end
end Go.Gk
namespace Go.Gk
open Go
section
variable {N:Nat}
def u4 (l:List cM) (k:Nat):Option Int:=
 match l[k]? with
 | none=>none
 | some p=>if isWord p.Name=false then some 5 else if (decide (p.Kind<1)||decide (p.Kind>7))=true then some 4 else if (decide (p.bJ<0)||decide (p.bJ>200))=true then some 1 else if lj cM.Name l k=true then some 8 else none
def Bu (p q:cM):Bool:=decide (p.bJ>0)&&(q.bJ==p.bJ)&&(q.Kind != p.Kind)
def DZ (l:List cM) (k:Nat):Option Int:=
 match l[k]? with
 | none=>none
 | some p=>if (l.take k).any (Bu p)=true then some 12 else none
def lP (l:List cM):Int:=if l.length=0 then 9 else if 200<l.length then 2 else ((lK l.length (u4 l)).or (lK l.length (DZ l))).getD 0
def tP (t:List aL) (k:Nat):Option Int:=
 match t[k]? with
 | none=>none
 | some x=>if isWord x.Name=false then some 5 else if lP x.aS≠0 then some (lP x.aS) else if lj aL.Name t k=true then some 8 else none
def checkTypes (t:List aL):Int:=if 200<t.length then 2 else (lK t.length (tP t)).getD 0
theorem EU {R β:Type} (o:Option R) (f:Unit->Option β) (g:R->Option β): (A6 o ()).cs f g=o.elim (f ()) g:=by cases o <;> rfl
theorem zu (o:Option Int): (A6 o ()).cs (fun _=>some (0:Int)) (fun r=>some r)=some (o.getD 0):=by cases o <;> rfl
theorem getD_or (a b:Option Int): (a.elim (some (b.getD 0)) fun r=>some r)=some ((a.or b).getD 0):=by cases a <;> rfl
theorem tm {l:List cM} (h:bk l<=1048576):jv N l=some (lP l):=by
 have hlen:=kL l
 unfold jv lP
 by_cases h0:l.length=0
 ·rw [aC h0,h0];rfl
 ·have e0: (((l.length:Nat):Int)==0)=false:=by rw [beq_eq_false_iff_ne];omega
  rw [aD h0,e0,aY]
  by_cases h1:200<l.length
  ·rw [aC h1,cD (by omega),aT]
  ·rw [aD h1,bS (by omega),aY]
   rw [lh (u4 l) (by omega) (fun k hk _=>by
    have hx:l[k]? =some l[k]:=aK hk
    have hb:=uM hx
    rw [yJ,uN] at hb
    rw [eX hx,aB,kR (by omega),aB,Bb cM.Name hx (by omega)]
    unfold u4
    rw [hx]
    dsimp only
    cases isWord l[k].Name
    ·rfl
    ·cases decide (l[k].Kind<1)||decide (l[k].Kind>7)
     ·cases decide (l[k].bJ<0)||decide (l[k].bJ>200)
      ·cases lj cM.Name l k <;> rfl
      ·rfl
     ·rfl),aB]
   rw [EU]
   rw [lh (DZ l) (by omega) (fun k hk _=>by
    have hx:l[k]? =some l[k]:=aK hk
    rw [eX hx,aB,p8 l k (by omega),aB]
    have e:=m8 (l:=l.take k) (φ:=fun y0=>eV N y0 l[k]) (Bu l[k]) (by rw [cV];omega) (fun q _=>by
     unfold eV Bu
     cases decide (l[k].bJ>0)
     ·rfl
     ·cases q.bJ==l[k].bJ <;> rfl)
    have e2:gm N (l.take k) (fun y0=>eV N y0 l[k])=nu (l.take k) (fun y0=>eV N y0 l[k]):=rfl
    rw [e2,e,aB]
    unfold DZ
    rw [hx]
    dsimp only
    cases (l.take k).any (Bu l[k]) <;> rfl),aB,zu]
   exact getD_or _ _
theorem rW {t:List aL} (h:bk t<=1048576):iY N t=some (checkTypes t):=by
 have hlen:=kL t
 unfold iY checkTypes
 by_cases h1:200<t.length
 ·rw [aC h1,cD (by omega),aT]
 ·rw [aD h1,bS (by omega),aY]
  rw [lh (tP t) (by omega) (fun k hk _=>by
   have hx:t[k]? =some t[k]:=aK hk
   have hb:=uM hx
   rw [pj] at hb
   have hb2:=uN t[k].Name
   rw [eX hx,aB,kR (by omega),aB,tm (by omega),aB,Bb aL.Name hx (by omega)]
   unfold tP
   rw [hx]
   dsimp only
   cases isWord t[k].Name
   ·rfl
   ·by_cases hc:lP t[k].aS=0
    ·rw [hc];cases lj aL.Name t k <;> rfl
    ·have: (lP t[k].aS != 0)=true:=by rw [bne_iff_ne];exact hc
     rw [this];simp [hc,zL]),aB,zu]
structure Bv (t:List aL):Prop where
 sorted:Sorted aL.Name t
 pins: ∀x∈t,Sorted cM.Name x.aS
theorem tQ {e:Nat->Option Int} {m:Nat} (hz: ∀k r,e k=some r->r≠0) (h: (lK m e).getD 0=0): ∀k,k<m->e k=none:=by
 cases hx:lK m e with
 | none=>exact jo.1 hx
 | some r=>
  obtain⟨k,_,hk,_⟩:=jq.1 hx
  rw [hx] at h;exact absurd h (hz k r hk)
theorem F0 {l:List cM} {k:Nat} {r:Int} (h:u4 l k=some r):r≠0:=by
 unfold u4 at h
 repeat' split at h
 all_goals first | (injection h with h;omega) | cases h
theorem Bw {l:List cM} (h:lP l=0):Sorted cM.Name l:=by
 unfold lP at h
 split at h
 ·cases h
 split at h
 ·cases h
 refine nv fun k hk=>?_
 cases hx:lK l.length (u4 l) with
 | some r=>
  obtain⟨j,_,hj,_⟩:=jq.1 hx
  rw [hx] at h;exact absurd h (F0 hj)
 | none=>
  have:=jo.1 hx k hk
  unfold u4 at this
  rw [aK hk] at this
  dsimp only at this
  repeat' split at this
  all_goals first | (simp at this;done) | simp_all
theorem uu {t:List aL} (h:checkTypes t=0):Bv t:=by
 unfold checkTypes at h
 split at h
 ·cases h
 have hz: ∀k r,tP t k=some r->r≠0:=by
  intro k r hk
  unfold tP at hk
  repeat' split at hk
  all_goals first | (injection hk with hk;subst hk;first | assumption | omega) | cases hk
 have hn:=tQ hz h
 have key: ∀k (hk:k<t.length),lP t[k].aS=0/\lj aL.Name t k=false:=by
  intro k hk
  have:=hn k hk
  unfold tP at this
  rw [aK hk] at this
  dsimp only at this
  repeat' split at this
  all_goals first | (simp at this;done) | simp_all
 refine⟨nv fun k hk=>(key k hk).2,fun x hx=>?_⟩
 obtain⟨k,hk⟩:=eA hx
 obtain⟨hlt,rfl⟩:=aZ.1 hk
 exact Bw (key k hlt).1
end
end Go.Gk
namespace Go.Gk
open Go
section
variable {N:Nat}
theorem xf {t:List aL} {s:bR} (hs:Sorted aL.Name t) (ht:bk t<=1048576) (hN:4194304<=N):iZ N t s=some (nat? aL.Name t s):=by
 have:=kL t
 obtain⟨r,h1,h2⟩:=Ba (N:=N) (key:=aL.Name) (l:=t) (s:=s) (φ:=ik N) (fun x=>rfl) hs (by omega) hN
 have e:dN N t s (ik N)=zM N t s (ik N):=rfl
 unfold iZ
 rw [e,h1,aB];exact h2
theorem F1 {l:List Part} {s:bR} (hs:Sorted Part.Name l) (hl:l.length<=1048576) (hN:4194304<=N):kY N l s=some (nat? Part.Name l s):=by
 obtain⟨r,h1,h2⟩:=Ba (N:=N) (key:=Part.Name) (l:=l) (s:=s) (φ:=il N) (fun x=>rfl) hs (by omega) hN
 have e:eD N l s (il N)=zM N l s (il N):=rfl
 unfold kY
 rw [e,h1,aB];exact h2
theorem HN {y:aL} {s:bR} (hs:Sorted cM.Name y.aS) (hl:y.aS.length<=1048576) (hN:4194304<=N):lV N y s=some (nat? cM.Name y.aS s):=by
 obtain⟨r,h1,h2⟩:=Ba (N:=N) (key:=cM.Name) (l:=y.aS) (s:=s) (φ:=iU N) (fun x=>rfl) hs (by omega) hN
 have e:dR N y.aS s (iU N)=zM N y.aS s (iU N):=rfl
 unfold lV
 rw [e,h1,aB];exact h2
theorem u5 {α:Type} (key:α->bR) (l:List α) (s:bR): (nat? key l s = -1/\∀x∈l,key x≠s)\/∃k x,nat? key l s= ((k:Nat):Int)/\l[k]? =some x/\key x=s:=by
 rcases j4 l (fun x=>(key x).oW s) with ⟨h1,h2⟩ | ⟨k,x,h1,h2,h3,_⟩
 ·exact .inl ⟨h1,fun x hx=>ov.1 (h2 x hx)⟩
 ·exact .inr ⟨k,x,h1,h2,ph.1 h3⟩
theorem I6 {α:Type} (key:α->bR) (l:List α) (s:bR):decide (nat? key l s>=0)=l.any (fun x=>(key x).oW s):=DB _ _
def ri (t:List aL) (l:List Part) (k:Nat):Option Int:=
 match l[k]? with
 | none=>none
 | some p=>if lx p.Name=false then some 5 else if nat? aL.Name t p.ju<0 then some 9 else if lj Part.Name l k=true then some 8 else none
def iF (t:List aL) (l:List Part):Int:=if 1000<l.length then 2 else (lK l.length (ri t l)).getD 0
theorem D0 {R:Type} (a:Bool) (z:Int) (b:Bool) (f:Int->R):
  ((bif (!a) then (some (.rt (f 5))) else (bif (decide (z<0)) then (some (.rt (f 9))) else ((some b).bind fun s=>bif s then (some (.rt (f 8))) else (some (.nx ()))))):Option (Fl Unit R)) =
  some (zL ((if a=false then some (5:Int) else if z<0 then some 9 else if b=true then some 8 else none).map f) ()):=by
 cases a
 ·rfl
 ·by_cases hz:z<0
  ·rw [cD hz];simp [zL,hz]
  ·rw [bS hz];cases b <;> simp [zL,hz]
theorem D1 (o:Option Int):o.map (fun x=>x)=o:=by cases o <;> rfl
theorem zZ {t:List aL} {l:List Part} (hs:Sorted aL.Name t) (ht:bk t<=1048576) (hl:bk l<=1048576) (hN:4194304<=N):
  i5 N t l (gW N)=some (iF t l):=by
 have hlen:=kL l
 unfold i5 iF
 by_cases h1:1000<l.length
 ·rw [aC h1,cD (by omega),aT]
 ·rw [aD h1,bS (by omega),aY]
  rw [lh (ri t l) (by omega) (fun k hk _=>by
   have hx:l[k]? =some l[k]:=aK hk
   have hb:=uM hx
   rw [ED] at hb
   have hb2:=uN l[k].Name
   rw [eX hx,aB,mO (by omega) hN,aB,xf hs ht hN,aB,Bb Part.Name hx (by omega)]
   refine(D0 _ _ _ (fun x:Int=>x)).trans ?_
   rw [D1];unfold ri;rw [hx]),aB,zu]
def jP (t:List aL) (l:List Part) (p:aX):Bool:=
 match l.find? (fun x=>x.Name.oW p.Part) with
 | none=>false
 | some x=>match t.find? (fun y=>y.Name.oW x.ju) with
  | none=>false
  | some y=>y.aS.any (fun q=>q.Name.oW p.aX)
theorem tR {α:Type} {l:List α} {p:α->Bool} {k:Nat} {x:α} (hk:Cw l p= ((k:Nat):Int)) (hx:l[k]? =some x):l.find? p=some x:=by
 rcases j4 l p with ⟨h1,_⟩ | ⟨k',x',h1,h2,h3,h4⟩
 ·omega
 ·have:k'=k:=by omega
  subst this
  rw [hx] at h2;injection h2 with h2;subst h2
  rw [List.find?_eq_some_iff_getElem]
  obtain⟨hlt,hxx⟩:=aZ.1 hx
  exact⟨h3,k',hlt,hxx,fun j hj=>by rw [h4 j l[j] hj (aK (by omega))];rfl⟩
theorem tS {α:Type} {l:List α} {p:α->Bool} (hk:Cw l p = -1):l.find? p=none:=by
 rcases j4 l p with ⟨_,h⟩ | ⟨k',x',h1,_⟩
 ·rw [List.find?_eq_none];intro x hx;rw [h x hx];decide
 ·omega
def Typed (t:List aL) (l:List Part):Prop:=∀x∈l,0<=nat? aL.Name t x.ju
theorem CV {t:List aL} {l:List Part} {p:aX} (htl:Typed t l) {fp:Option Int} {ft:bR->Option Int} {fq:aL->Option Int}
  (h1:fp=some (nat? Part.Name l p.Part)) (h2: ∀s,ft s=some (nat? aL.Name t s)) (h3: ∀y∈t,fq y=some (nat? cM.Name y.aS p.aX)):
  (fp.bind fun x2=>(bif (decide (x2>=0)) then ((idx l x2).bind fun x18=>(ft x18.ju).bind fun x21=>(idx t x21).bind fun Iq=>(fq Iq).bind fun x25=>some (decide (x25>=0))) else (some false)).bind fun s16=>some s16)=some (jP t l p):=by
 rw [h1,aB]
 unfold jP
 rcases u5 Part.Name l p.Part with ⟨h4,_⟩ | ⟨k,x,h4,h5,h6⟩
 ·rw [tS h4,h4];rfl
 ·rw [tR h4 h5,h4,cD (by omega),aT,eX h5,aB,h2,aB]
  dsimp only
  have h7:=htl x (eN h5)
  rcases u5 aL.Name t x.ju with ⟨h8,_⟩ | ⟨j,y,h8,h9,_⟩
  ·omega
  ·rw [tR h8 h9,h8,eX h9,aB,h3 y (eN h9),aB,aB,I6]
theorem pB {t:List aL} {l:List Part} {p:aX} (ht:Bv t) (hl:Sorted Part.Name l) (htl:Typed t l) (hbt:bk t<=1048576) (hbl:bk l<=1048576) (hN:4194304<=N):
  kZ N t l p=some (jP t l p):=by
 have:=kL l
 exact CV htl (F1 hl (by omega) hN) (fun s=>xf ht.sorted hbt hN) (fun y hy=>HN (ht.pins y hy) (by
  have h1:=yG hy;rw [pj] at h1;have h2:=kL y.aS;omega) hN)
def j7 (a b:aX):Bool:=a.Part.xF b.Part||(a.Part.oW b.Part&&a.aX.xF b.aX)
def pP (l:List aX) (k:Nat):Bool:=match l[k]?,l[k - 1]? with | some p,some q=>decide (0<k)&& !j7 q p | _,_=>false
theorem HO (a b:bR):0<Lib.compareBytes a.cB b.cB↔bR.lt b a:=by
 have h1:=m7 a.cB b.cB
 have h2:=iE a.cB b.cB
 rcases bR.p9 a b with h | h | h
 ·have h3:=h1.2 h
  exact⟨fun h'=>by omega,fun h'=>absurd h' (bR.lt_asymm h)⟩
 ·subst h
  have h3:=h2.2 rfl
  exact⟨fun h'=>by omega,fun h'=>absurd h' (bR.lt_irrefl _)⟩
 ·refine⟨fun _=>h,fun _=>?_⟩
  have h3: ¬Lib.compareBytes a.cB b.cB<0:=fun h'=>bR.lt_asymm h (h1.1 h')
  have h4: ¬Lib.compareBytes a.cB b.cB=0:=fun h'=>bR.yF h (bR.ext' (h2.1 h')).symm
  omega
def rj (a b:aX):Int:=if Lib.compareBytes a.Part.cB b.Part.cB=0 then Lib.compareBytes a.aX.cB b.aX.cB else Lib.compareBytes a.Part.cB b.Part.cB
theorem tn (a b:aX):dB N a b=some (rj a b):=by
 show (bif (Lib.compareBytes a.Part.cB b.Part.cB != 0) then some (Lib.compareBytes a.Part.cB b.Part.cB) else some (Lib.compareBytes a.aX.cB b.aX.cB))=_
 unfold rj
 by_cases h:Lib.compareBytes a.Part.cB b.Part.cB=0
 ·rw [h];rfl
 ·have: (Lib.compareBytes a.Part.cB b.Part.cB != 0)=true:=by rw [bne_iff_ne];exact h
  rw [this,aD h];rfl
theorem AD (a b:aX):decide (rj a b<=0) = !j7 b a:=by
 unfold rj j7
 by_cases h:Lib.compareBytes a.Part.cB b.Part.cB=0
 ·have e:a.Part=b.Part:=bR.ext' ((iE _ _).1 h)
  have e2:b.Part.xF a.Part=false:=by rw [e,<-iM];exact bR.lt_irrefl _
  rw [aC h,e2,ph.2 e.symm,Bool.false_or,Bool.true_and]
  have:=HO a.aX b.aX
  rw [fH,cE,Bool.not_eq_true',<-iM]
  constructor
  ·intro h1 h2;have:=this.2 h2;omega
  ·intro h1
   by_cases h3:0<Lib.compareBytes a.aX.cB b.aX.cB
   ·exact absurd (this.1 h3) h1
   ·omega
 ·have e:b.Part≠a.Part:=fun e=>h ((iE _ _).2 (by rw [e]))
  rw [aD h,ov.2 e,Bool.false_and,Bool.or_false]
  have:=HO a.Part b.Part
  rw [fH,cE,Bool.not_eq_true',<-iM]
  constructor
  ·intro h1 h2;have:=this.2 h2;omega
  ·intro h1
   by_cases h3:0<Lib.compareBytes a.Part.cB b.Part.cB
   ·exact absurd (this.1 h3) h1
   ·omega
theorem F2 {l:List aX} {k:Nat} {x:aX} {f:aX->Option Bool} (hf: ∀y,f y=some (!j7 y x)) (hx:l[k]? =some x) (hl:l.length<=1048576):
  (bif (decide (((k:Nat):Int)>0)) then ((idx l (IntKind.wrap .i64 (((k:Nat):Int) - 1))).bind f) else (some false))=some (pP l k):=by
 have hk:=(aZ.1 hx).1
 unfold pP
 by_cases h0:0<k
 ·rw [cD (by omega),aT,lL h0 (by omega),gU l _ (by omega),aB,hx,aK (by omega:k - 1<l.length),hf]
  simp [h0]
 ·have:k=0:=by omega
  subst this
  rw [hx];simp
def xg (l:List Net) (p:aX):Bool:=l.any (fun n=>decide (p∈n.aS))
def wv (t:List aL) (x:bK) (i:Nat) (l:List aX) (k:Nat):Option Int:=
 match l[k]? with
 | none=>none
 | some p=>if jP t x.cJ p=false then some 9 else if pP l k=true then some 8 else if xg (x.bE.take i) p=true then some 7 else none
def u6 (t:List aL) (x:bK) (i:Nat):Option Int:=
 match x.bE[i]? with
 | none=>none
 | some n=>if lx n.Name=false then some 5 else if n.aS.length=0 then some 9 else if 500<n.aS.length then some 2 else
   (lK n.aS.length (wv t x i n.aS)).or (if 0<n.ru.length then some 3 else if lj Net.Name x.bE i=true then some 8 else none)
def xh (t:List aL) (x:bK):Int:=if 1000<x.bE.length then 2 else (lK x.bE.length (u6 t x)).getD 0
def fL (t:List aL) (x:bK):Int:=
 if checkTypes t≠0 then checkTypes t else if iF t x.cJ≠0 then iF t x.cJ else xh t x
theorem zv {t:List aL} {l:List Part} {k:Nat} {r:Int} (h:ri t l k=some r):r≠0:=by
 unfold ri at h
 repeat' split at h
 all_goals first | (injection h with h;omega) | cases h
structure EV (t:List aL) (l:List Part):Prop where
 sorted:Sorted Part.Name l
 typed:Typed t l
theorem uv {t:List aL} {l:List Part} (h:iF t l=0):EV t l:=by
 unfold iF at h
 split at h
 ·cases h
 have hn:=tQ (fun k r hk=>zv hk) h
 have key: ∀k (hk:k<l.length),0<=nat? aL.Name t l[k].ju/\lj Part.Name l k=false:=by
  intro k hk
  have:=hn k hk
  unfold ri at this
  rw [aK hk] at this
  dsimp only at this
  repeat' split at this
  all_goals first | (simp at this;done) | simp_all
 refine⟨nv fun k hk=>(key k hk).2,fun x hx=>?_⟩
 obtain⟨k,hk⟩:=eA hx
 obtain⟨hlt,rfl⟩:=aZ.1 hk
 exact(key k hlt).1
theorem CW {t:List aL} {x:bK} {i:Nat} {l:List aX} {k:Nat} {r:Int} (h:wv t x i l k=some r):r≠0:=by
 unfold wv at h
 repeat' split at h
 all_goals first | (injection h with h;omega) | cases h
theorem xQ {l:List aX} {has:aX->Option Bool} {m:List (aX×Bool)} (hB:aX->Bool) (hh: ∀p∈l,has p=some (hB p)) (hl:l.length<=1048576):
  gX N l has m=some (if 500<l.length then ((2:Int),m) else
   (lK l.length (fun k=>match l[k]? with
    | none=>none
    | some p=>if hB p=false then some (9:Int) else if pP l k=true then some 8 else if dH m p false=true then some 7 else none)).elim ((0:Int),lZ m l true) (fun r=>(r,m))):=by
 unfold gX
 by_cases h1:500<l.length
 ·rw [aC h1,cD (by omega),aT]
 ·rw [aD h1,bS (by omega),aY]
  rw [lh (fun k=>Option.map (fun(r:Int)=>(r,m)) (match l[k]? with
    | none=>none
    | some p=>if hB p=false then some (9:Int) else if pP l k=true then some 8 else if dH m p false=true then some 7 else none)) (by omega) (fun k hk _=>by
   have hx:l[k]? =some l[k]:=aK hk
   rw [eX hx,aB,hh _ (dK hk),aB,F2 (fun y=>by rw [tn,aB,AD]) hx hl,hx]
   dsimp only
   cases hB l[k]
   ·rfl
   ·cases pP l k
    ·cases dH m l[k] false <;> rfl
    ·rfl),aB,EU,Ap true (by omega),aB]
  rw [<-Hd]
  generalize lK l.length _=o
  cases o <;> rfl
def rk (x:bK) (i:Nat):List (aX×Bool):=(x.bE.take i).foldl (fun m n=>lZ m n.aS true) []
theorem F3 (l:List Net) (p:aX): ∀(m:List (aX×Bool)),dH (l.foldl (fun m n=>lZ m n.aS true) m) p false= (xg l p||dH m p false):=by
 induction l with
 | nil=>intro m;rfl
 | cons n l ih=>
  intro m
  rw [List.foldl_cons,ih,q7]
  unfold xg
  rw [List.any_cons]
  by_cases h:p∈n.aS <;> simp [h]
theorem Bx (x:bK) (i:Nat) (p:aX):dH (rk x i) p false=xg (x.bE.take i) p:=by
 unfold rk
 rw [F3];simp [dH]
theorem Bz {x:bK} {i:Nat} {n:Net} (h:x.bE[i]? =some n):rk x (i+1)=lZ (rk x i) n.aS true:=by
 unfold rk
 obtain⟨hlt,rfl⟩:=aZ.1 h
 rw [dU hlt,List.foldl_append];rfl
theorem jH {t:List aL} {x:bK} (hbt:bk t<=1048576) (hbx:bk x<=1048576) (hN:4194304<=N):ir N t x=some (fL t x):=by
 have hb:=m9 x
 have hln:=kL x.bE
 unfold ir fL
 rw [rW hbt,aB]
 by_cases h1:checkTypes t≠0
 ·have e: (checkTypes t != 0)=true:=by rw [bne_iff_ne];exact h1
  rw [e,aT,aC h1]
 replace h1:=Decidable.not_not.1 h1
 have ht:=uu h1
 have e: (checkTypes t != 0)=false:=by rw [h1];rfl
 rw [e,aY,aD (fun h=>h h1),zZ ht.sorted hbt (by omega) hN,aB]
 by_cases h2:iF t x.cJ≠0
 ·have e: (iF t x.cJ != 0)=true:=by rw [bne_iff_ne];exact h2
  rw [e,aT,aC h2]
 replace h2:=Decidable.not_not.1 h2
 have hp:=uv h2
 have e: (iF t x.cJ != 0)=false:=by rw [h2];rfl
 rw [e,aY,aD (fun h=>h h2)]
 unfold xh
 by_cases h3:1000<x.bE.length
 ·rw [aC h3,cD (by omega),aT]
 ·rw [aD h3,bS (by omega),aY]
  rw [EA (s:=([]:List (aX×Bool))) (rk x) (u6 t x) (by omega) rfl (fun i hi _=>by
   have hx:x.bE[i]? =some x.bE[i]:=aK hi
   have hb2:=uM hx
   rw [Bc,uN] at hb2
   have hlp:=kL x.bE[i].aS
   rw [Bz hx]
   rw [eX hx,aB,mO (by omega) hN,aB,xQ (jP t x.cJ) (fun p _=>by
    unfold jy
    rw [pB ht hp.sorted hp.typed hbt (by omega) hN,aB]) (by omega),aB,Bb Net.Name hx (by omega)]
   unfold u6
   rw [hx]
   dsimp only
   cases lx x.bE[i].Name
   ·rfl
   simp only [nk,aY,Bool.true_eq_false,if_false]
   by_cases h4:x.bE[i].aS.length=0
   ·rw [aC h4,h4];rfl
   have e4: (((x.bE[i].aS.length:Nat):Int)==0)=false:=by rw [beq_eq_false_iff_ne];omega
   rw [aD h4,e4,aY]
   by_cases h5:500<x.bE[i].aS.length
   ·rw [aC h5,aC h5];rfl
   rw [aD h5,aD h5]
   have e5: (lK x.bE[i].aS.length (fun k=>match x.bE[i].aS[k]? with
    | none=>none
    | some p=>if jP t x.cJ p=false then some (9:Int) else if pP x.bE[i].aS k=true then some 8 else if dH (rk x i) p false=true then some 7 else none))=lK x.bE[i].aS.length (wv t x i x.bE[i].aS):=by
    congr 1
    funext k
    unfold wv
    split
    ·rfl
    ·rw [Bx]
   rw [e5]
   cases h6:lK x.bE[i].aS.length (wv t x i x.bE[i].aS) with
   | some r=>
    obtain⟨j,_,hj,_⟩:=jq.1 h6
    have e6: (r != 0)=true:=by rw [bne_iff_ne];exact CW hj
    simp only [Option.elim_some,e6,aT];rfl
   | none=>
    simp only [Option.elim_none,bne_self_eq_false,aY,Option.none_or]
    by_cases h7:0<x.bE[i].ru.length
    ·rw [aC h7,cD (by omega)];rfl
    ·rw [aD h7,bS (by omega)]
     cases lj Net.Name x.bE i <;> rfl),aB]
  cases lK x.bE.length (u6 t x) <;> rfl
end
end Go.Gk
namespace Go.Gk
open Go
section
variable {N:Nat}
structure rl (t:List aL) (x:bK):Prop where
 types:Bv t
 parts:EV t x.cJ
 BJ:x.cJ.length<=1000
 BA:x.bE.length<=1000
 BB: ∀n∈x.bE,0<n.aS.length/\n.aS.length<=500
 LY: ∀n∈x.bE,n.ru= []
 NP:Sorted Net.Name x.bE
 path: ∀n∈x.bE,lx n.Name=true
 N0: ∀p∈x.cJ,lx p.Name=true
 Om: ∀n∈x.bE,∀p∈n.aS,jP t x.cJ p=true
 NQ: ∀n∈x.bE,∀(i j:Nat) (p q:aX),i<j->n.aS[i]? =some p->n.aS[j]? =some q->j7 p q=true
 once: ∀(i j:Nat) (n m:Net) (p:aX),x.bE[i]? =some n->x.bE[j]? =some m->p∈n.aS->p∈m.aS->i=j
theorem rm (a:aX):j7 a a=false:=by
 unfold j7
 have h1:a.Part.xF a.Part=false:=by rw [<-iM];exact bR.lt_irrefl _
 have h2:a.aX.xF a.aX=false:=by rw [<-iM];exact bR.lt_irrefl _
 rw [h1,h2];simp
theorem pC {a b c:aX} (h1:j7 a b=true) (h2:j7 b c=true):j7 a c=true:=by
 unfold j7 at *
 simp only [dS,cC,ph] at *
 rcases h1 with h1 | ⟨e1,h1⟩
 ·rcases h2 with h2 | ⟨e2,_⟩
  ·exact .inl (bR.lt_trans h1 h2)
  ·rw [<-e2];exact .inl h1
 ·rcases h2 with h2 | ⟨e2,h2⟩
  ·rw [e1];exact .inl h2
  ·exact .inr ⟨e1.trans e2,bR.lt_trans h1 h2⟩
theorem pD (a b:aX):j7 a b=true\/a=b\/j7 b a=true:=by
 unfold j7
 simp only [dS,cC,ph]
 rcases bR.p9 a.Part b.Part with h | h | h
 ·exact .inl (.inl h)
 ·rcases bR.p9 a.aX b.aX with h' | h' | h'
  ·exact .inl (.inr ⟨h,h'⟩)
  ·refine .inr (.inl ?_);cases a;cases b;simp_all
  ·exact .inr (.inr (.inr ⟨h.symm,h'⟩))
 ·exact .inr (.inr (.inl h))
theorem F4 {l:List aX} (h: ∀k,k<l.length->pP l k=false): ∀(i j:Nat) (p q:aX),i<j->l[i]? =some p->l[j]? =some q->j7 p q=true:=by
 intro i j
 induction j with
 | zero=>intro p q hij;omega
 | succ j ih=>
  intro p q hij hp hq
  have hj:=(aZ.1 hq).1
  have h1:=h (j+1) hj
  unfold pP at h1
  rw [hq,Nat.add_sub_cancel,aK (by omega:j<l.length)] at h1
  simp at h1
  by_cases e:i=j
  ·subst e
   rw [aK (by omega:i<l.length)] at hp;injection hp with hp;subst hp;exact h1
  ·exact pC (ih p l[j] (by omega) hp (aK (by omega))) h1
theorem F5 {t:List aL} {x:bK} {k:Nat} {r:Int} (h:u6 t x k=some r):r≠0:=by
 unfold u6 at h
 split at h
 ·cases h
 split at h
 ·injection h with h;omega
 split at h
 ·injection h with h;omega
 split at h
 ·injection h with h;omega
 cases hx:lK _ (wv t x k _) with
 | some r'=>
  rw [hx] at h
  injection h with h
  subst h
  obtain⟨j,_,hj,_⟩:=jq.1 hx
  exact CW hj
 | none=>
  rw [hx] at h
  simp only [Option.none_or] at h
  split at h
  ·injection h with h;omega
  split at h
  ·injection h with h;omega
  ·cases h
theorem oq {t:List aL} {x:bK} (h:fL t x=0):rl t x:=by
 unfold fL at h
 by_cases h1:checkTypes t≠0
 ·rw [aC h1] at h;exact absurd h h1
 rw [aD h1] at h
 by_cases h2:iF t x.cJ≠0
 ·rw [aC h2] at h;exact absurd h h2
 rw [aD h2] at h
 replace h1:=Decidable.not_not.1 h1
 replace h2:=Decidable.not_not.1 h2
 unfold xh at h
 by_cases h3:1000<x.bE.length
 ·rw [aC h3] at h;cases h
 rw [aD h3] at h
 have hn:=tQ (fun k r hk=>F5 hk) h
 have key: ∀i (hi:i<x.bE.length),lx x.bE[i].Name=true/\0<x.bE[i].aS.length/\x.bE[i].aS.length<=500/\x.bE[i].ru= []/\lj Net.Name x.bE i=false/\
   ∀k (hk:k<x.bE[i].aS.length),jP t x.cJ x.bE[i].aS[k]=true/\pP x.bE[i].aS k=false/\xg (x.bE.take i) x.bE[i].aS[k]=false:=by
  intro i hi
  have h4:=hn i hi
  unfold u6 at h4
  rw [aK hi] at h4
  dsimp only at h4
  split at h4
  ·cases h4
  split at h4
  ·cases h4
  split at h4
  ·cases h4
  cases h5:lK x.bE[i].aS.length (wv t x i x.bE[i].aS) with
  | some r=>rw [h5] at h4;cases h4
  | none=>
   rw [h5] at h4
   simp only [Option.none_or] at h4
   split at h4
   ·cases h4
   split at h4
   ·cases h4
   rename_i h6 h7 h8 h9 h10
   refine⟨by simpa using h6,by omega,by omega,List.length_eq_zero_iff.1 (by omega),by simpa using h10,fun k hk=>?_⟩
   have h11:=jo.1 h5 k hk
   unfold wv at h11
   rw [aK hk] at h11
   dsimp only at h11
   repeat' split at h11
   all_goals first | (simp at h11;done) | simp_all
 have hpe: ∀k (hk:k<x.cJ.length),lx x.cJ[k].Name=true:=by
  intro k hk
  have h5:=h2
  unfold iF at h5
  split at h5
  ·cases h5
  have h4:=tQ (fun k r hk=>zv hk) h5 k hk
  unfold ri at h4
  rw [aK hk] at h4
  dsimp only at h4
  split at h4
  ·cases h4
  ·rename_i h6;simpa using h6
 have mem: ∀n∈x.bE,∃i,∃hi:i<x.bE.length,n=x.bE[i]:=fun n hn=>by
  obtain⟨i,hi⟩:=eA hn
  obtain⟨hlt,rfl⟩:=aZ.1 hi
  exact⟨i,hlt,rfl⟩
 refine⟨uu h1,uv h2,?_,by omega,fun n hn=>?_,fun n hn=>?_,nv fun i hi=>(key i hi).2.2.2.2.1,fun n hn=>?_,fun p hp=>?_,fun n hn p hp=>?_,fun n hn=>?_,?_⟩
 ·unfold iF at h2
  split at h2
  ·cases h2
  ·omega
 ·obtain⟨i,hi,rfl⟩:=mem n hn;exact⟨(key i hi).2.1,(key i hi).2.2.1⟩
 ·obtain⟨i,hi,rfl⟩:=mem n hn;exact(key i hi).2.2.2.1
 ·obtain⟨i,hi,rfl⟩:=mem n hn;exact(key i hi).1
 ·obtain⟨k,hk⟩:=eA hp
  obtain⟨hlt,rfl⟩:=aZ.1 hk
  exact hpe k hlt
 ·obtain⟨i,hi,rfl⟩:=mem n hn
  obtain⟨k,hk⟩:=eA hp
  obtain⟨hlt,rfl⟩:=aZ.1 hk
  exact((key i hi).2.2.2.2.2 k hlt).1
 ·obtain⟨i,hi,rfl⟩:=mem n hn
  exact F4 fun k hk=>((key i hi).2.2.2.2.2 k hk).2.1
 ·have one: ∀(i j:Nat) (n m:Net) (p:aX),i<j->x.bE[i]? =some n->x.bE[j]? =some m->p∈n.aS->p∈m.aS->False:=by
   intro i j n m p hij hn hm hpn hpm
   obtain⟨hj,rfl⟩:=aZ.1 hm
   obtain⟨k,hk⟩:=eA hpm
   obtain⟨hlt,rfl⟩:=aZ.1 hk
   have h5:=((key j hj).2.2.2.2.2 k hlt).2.2
   unfold xg at h5
   rw [List.any_eq_false] at h5
   refine h5 n (eN (i:=i) (by rw [List.getElem?_take_of_lt hij];exact hn)) ?_
   simpa using hpn
  intro i j n m p hn hm hpn hpm
  rcases Nat.lt_trichotomy i j with h5 | h5 | h5
  ·exact(one i j n m p h5 hn hm hpn hpm).elim
  ·exact h5
  ·exact(one j i m n p h5 hm hn hpm hpn).elim
def kS (x:bK) (p:aX):Int:=Cw x.bE (fun n=>decide (p∈n.aS))
def mT (x:bK) (i:Nat):List (aX×Int):=(List.range i).foldl (fun m k=>lZ m ((x.bE[k]?.map Net.aS).getD []) ((k:Nat):Int)) []
theorem tp {x:bK} {i:Nat} {n:Net} (h:x.bE[i]? =some n):mT x (i+1)=lZ (mT x i) n.aS ((i:Nat):Int):=by
 unfold mT
 rw [List.range_succ,List.foldl_append,List.foldl_cons,List.foldl_nil,h];rfl
theorem BC {x:bK} (hb:bk x<=1048576):km N x=some (mT x x.bE.length):=by
 rw [m9] at hb
 have:=kL x.bE
 unfold km
 rw [vH (s:=([]:List (aX×Int))) (mT x) (by omega) rfl (fun k hk=>by
  have hx:x.bE[k]? =some x.bE[k]:=aK hk
  have hb2:=uM hx
  rw [Bc] at hb2
  have:=kL x.bE[k].aS
  rw [eX hx,aB,Ap _ (by omega),aB,tp hx]),aB]
theorem xz {x:bK} {p:aX}: ∀(i:Nat),i<=x.bE.length->fR (mT x i) p= (x.bE.take i).any (fun n=>decide (p∈n.aS))
 | 0,_=>by simp [mT,fR]
 | i+1,h=>by
  have hx:x.bE[i]? =some x.bE[i]:=aK (by omega)
  rw [tp hx,DH,xz i (by omega),dU (by omega),List.any_append]
  simp [Bool.or_comm]
theorem xA {x:bK} {p:aX} {j:Nat} (hj: ∀k n,x.bE[k]? =some n->p∈n.aS->k=j) (z:Int): ∀(i:Nat),i<=x.bE.length->dH (mT x i) p z=if ((x.bE.take i).any (fun n=>decide (p∈n.aS)))=true then ((j:Nat):Int) else z
 | 0,_=>by simp [mT,dH]
 | i+1,h=>by
  have hx:x.bE[i]? =some x.bE[i]:=aK (by omega)
  rw [tp hx,q7,xA hj z i (by omega),dU (by omega),List.any_append]
  by_cases hp:p∈x.bE[i].aS
  ·have hji:=hj i _ hx hp
   rw [aC hp,aC (by simp [hp])]
   omega
  ·rw [aD hp];simp [hp]
theorem tT {t:List aL} {x:bK} (h:rl t x) (p:aX):
  fR (mT x x.bE.length) p=decide (kS x p>=0)/\(0<=kS x p->∀z,dH (mT x x.bE.length) p z=kS x p):=by
 have e:fR (mT x x.bE.length) p=x.bE.any (fun n=>decide (p∈n.aS)):=by rw [xz _ (bI _),dJ]
 unfold kS
 refine⟨by rw [e,DB],fun h0 z=>?_⟩
 rcases j4 x.bE (fun n=>decide (p∈n.aS)) with ⟨h1,_⟩ | ⟨k,n,h1,h2,h3,_⟩
 ·rw [h1] at h0;omega
 ·have h3':p∈n.aS:=by simpa using h3
  rw [xA (j:=k) (fun i m hm hp=>h.once i k m n p hm h2 hp h3') z _ (bI _),dJ,h1,aC]
  exact ke.2 ⟨n,eN h2,h3⟩
def BD (t:List aL) (x:bK) (p:aX):bR×Bool×Int:=
 if fL t x≠0 then (⟨[]⟩,false,fL t x) else if jP t x.cJ p=false then (⟨[]⟩,false,9) else
  match x.bE.find? (fun n=>decide (p∈n.aS)) with
  | some n=>(n.Name,true,0)
  | none=>(⟨[]⟩,false,0)
theorem qB {t:List aL} {x:bK} {p:aX} (hbt:bk t<=1048576) (hbx:bk x<=1048576) (hN:4194304<=N):kG N t x p=some (BD t x p):=by
 have hb:=m9 x
 unfold kG BD
 rw [jH hbt hbx hN,aB]
 by_cases h1:fL t x≠0
 ·have e: (fL t x != 0)=true:=by rw [bne_iff_ne];exact h1
  rw [e,aT,aC h1]
 rw [aD h1]
 replace h1:=Decidable.not_not.1 h1
 have ok:=oq h1
 rw [h1,show ((0:Int) != 0)=false by decide,aY,pB ok.types ok.parts.sorted ok.parts.typed hbt (by omega) hN,aB]
 cases jP t x.cJ p
 ·rfl
 simp only [nk,aY,Bool.true_eq_false,if_false]
 rw [BC hbx,aB]
 obtain⟨h2,h3⟩:=tT ok p
 rw [h2]
 rcases j4 x.bE (fun n=>decide (p∈n.aS)) with ⟨h4,_⟩ | ⟨k,n,h4,h5,h6,_⟩
 ·have h4':kS x p = -1:=h4
  rw [tS h4,h4'];rfl
 ·have h4':kS x p= ((k:Nat):Int):=h4
  rw [tR h4 h5,h3 (by omega),h4',cD (by omega),eX h5];rfl
def ot (t:List aL) (p:Part):aL:=(t.find? (fun y=>y.Name.oW p.ju)).getD default
def ni (t:List aL) (p:Part):List aX:=(ot t p).aS.map (fun y=>⟨p.Name,y.Name⟩)
def iz (t:List aL) (x:bK):List aX:=x.cJ.flatMap fun p=>(ni t p).filter (fun q=>decide (kS x q<0))
theorem zw {t:List aL} {p:Part} (h:0<=nat? aL.Name t p.ju): ∃k:Nat,nat? aL.Name t p.ju= ((k:Nat):Int)/\t[k]? =some (ot t p):=by
 rcases u5 aL.Name t p.ju with ⟨h1,_⟩ | ⟨k,y,h1,h2,_⟩
 ·omega
 ·refine⟨k,h1,?_⟩
  unfold ot
  rw [tR h1 h2];exact h2
theorem zx {α β:Type} {l:List α} {body:Nat->List β->Option (List β)} {s0:List β} (f:α->List β) (hl:l.length<=4611686018427387904)
  (h: ∀k y,l[k]? =some y->body k (s0++(l.take k).flatMap f)=some (s0++(l.take k).flatMap f++f y)):jI l.length body s0=some (s0++l.flatMap f):=by
 rw [vH (s:=s0) (fun k=>s0++(l.take k).flatMap f) hl (by simp) (fun k hk=>by
  rw [h k l[k] (aK hk),dU hk,List.flatMap_append,jt];simp),dJ]
theorem lA {α β:Type} (f:α->List β) (b:Nat): ∀(l:List α),(∀x∈l,(f x).length<=b)->(l.flatMap f).length<=l.length*b
 | [],_=>by simp
 | x::l,h=>by
  have h1:=h x (by simp)
  have h2:=lA f b l (fun y hy=>h y (by simp [hy]))
  rw [List.flatMap_cons,cU,gI,Nat.succ_mul];omega
theorem iX {α β:Type} (f:α->List β) (b:Nat) (l:List α) (k:Nat) (h: ∀x∈l,(f x).length<=b): ((l.take k).flatMap f).length<=l.length*b:=
 kd (lA f b _ (fun x hx=>h x (List.mem_of_mem_take hx))) (Nat.mul_le_mul_right b (by rw [cV];omega))
theorem rn {t:List aL} {p:Part} (hbt:bk t<=1048576) (h:0<=nat? aL.Name t p.ju): (ot t p).aS.length<=1048576:=by
 obtain⟨k,_,h2⟩:=zw h
 have h3:=uM h2
 rw [pj] at h3
 have:=kL (ot t p).aS
 omega
theorem F6 {t:List aL} {p:Part} (hs:Sorted aL.Name t) (hbt:bk t<=1048576) (h:0<=nat? aL.Name t p.ju) (hN:4194304<=N):k8 N t p=some (ni t p):=by
 have hl:=rn hbt h
 obtain⟨k,h1,h2⟩:=zw h
 unfold k8
 rw [xf hs hbt hN,aB,h1,eX h2,aB]
 rw [zx (s0:=([]:List aX)) (fun(y:cM)=>[(⟨p.Name,y.Name⟩:aX)]) (by omega) (fun k y hy=>by
  have:=iX (fun(y:cM)=>[(⟨p.Name,y.Name⟩:aX)]) 1 (ot t p).aS k (fun _ _=>by simp)
  rw [eX hy,aB,gL (by simp only [List.nil_append,gI,List.length_nil] at this ⊢;omega),aB]),aB]
 unfold ni
 congr 1
 rw [List.nil_append]
 induction (ot t p).aS with
 | nil=>rfl
 | cons a l ih=>rw [List.flatMap_cons,ih];rfl
theorem xB {t:List aL} {x:bK} (hbt:bk t<=1048576) (ok:rl t x) {f:Part->List aX} (hf: ∀p∈x.cJ,(f p).length<=(ot t p).aS.length) (k:Nat): ((x.cJ.take k).flatMap f).length<=1048576000:=by
 have:=iX f 1048576 x.cJ k (fun p hp=>kd (hf p hp) (rn hbt (ok.parts.typed p hp)))
 have:=ok.BJ
 have:x.cJ.length*1048576<=1000*1048576:=Nat.mul_le_mul_right _ ok.BJ
 omega
theorem CX {α:Type} (p:α->Bool) (l:List α):l.flatMap (fun y=>if p y=true then [y] else [])=l.filter p:=by
 induction l with
 | nil=>rfl
 | cons a l ih=>rw [List.flatMap_cons,ih,List.filter_cons];cases p a <;> simp
theorem D2 {t:List aL} {x:bK} (hbt:bk t<=1048576) (hbx:bk x<=1048576) (ok:rl t x) (hN:4194304<=N):kx N t x=some (iz t x):=by
 have hb:=m9 x
 have hlp:=kL x.cJ
 unfold kx iz
 rw [BC hbx,aB]
 rw [zx (s0:=([]:List aX)) (fun(p:Part)=>(ni t p).filter (fun q=>decide (kS x q<0))) (by omega) (fun k p hp=>by
  have hm:=eN hp
  have hty:=ok.parts.typed p hm
  have hpl: (ni t p).length<=1048576:=by unfold ni;rw [gp];exact rn hbt hty
  have hlen:=xB hbt ok (f:=fun(p:Part)=>(ni t p).filter (fun q=>decide (kS x q<0))) (fun p _=>kd (hU _ _) (by unfold ni;rw [gp];exact bI _)) k
  rw [eX hp,aB,F6 ok.types.sorted hbt hty hN,aB]
  rw [List.nil_append]
  rw [zx (s0:=(x.cJ.take k).flatMap fun(p:Part)=>(ni t p).filter (fun q=>decide (kS x q<0))) (fun q=>if decide (kS x q<0)=true then [q] else []) (by omega) (fun j q hq=>by
   rw [eX hq,aB,(tT ok q).1]
   have e: (!decide (kS x q>=0))=decide (kS x q<0):=by rw [<-decide_not];congr 1;rw [eq_iff_iff];omega
   rw [e]
   have h2:=iX (fun q=>if decide (kS x q<0)=true then [q] else []) 1 (ni t p) j (fun q _=>by split <;> simp)
   cases decide (kS x q<0)
   ·simp
   ·rw [aT,gL (by simp only [cU,gI,List.length_nil];omega)];rfl),aB,CX]),aB,List.nil_append]
def D3 (t:List aL) (x:bK):List aX×Int:=if fL t x≠0 then ([],fL t x) else (iz t x,0)
theorem D4 {t:List aL} {x:bK} (hbt:bk t<=1048576): (D3 t x).1.length<=1048576000:=by
 unfold D3
 by_cases h1:fL t x≠0
 ·rw [aC h1];simp
 rw [aD h1]
 have ok:=oq (Decidable.not_not.1 h1)
 have:=xB hbt ok (f:=fun(p:Part)=>(ni t p).filter (fun q=>decide (kS x q<0))) (fun p _=>kd (hU _ _) (by unfold ni;rw [gp];exact bI _)) x.cJ.length
 rwa [dJ] at this
end
end Go.Gk
namespace Go.Gk
open Go
section
variable {N:Nat}
section
variable {α:Type}
theorem Sorted.lj {key:α->bR} {l:List α} (h:Sorted key l) {k:Nat} (hk:k<l.length):Gk.lj key l k=false:=by
 unfold Gk.lj
 rw [aK hk,aK (by omega:k - 1<l.length)]
 dsimp only
 by_cases h0:0<k
 ·rw [EB.2 (h (k - 1) k _ _ (by omega) (aK (by omega)) (aK hk))];simp
 ·rw [bS h0];simp
end
section
variable {α:Type}
end
end
end Go.Gk
namespace Go.Gk
open Go
section
variable {N:Nat}
end
end Go.Gk
namespace Go.Gk
open Go
section
variable {N:Nat}
theorem tq {a b:aX} (h:j7 a b=true):j7 b a=false:=by
 cases h2:j7 b a with
 | false=>rfl
 | true=>have:=pC h h2;rw [rm] at this;cases this
theorem tr {a b:aX}:rj a b=0↔a=b:=by
 unfold rj
 constructor
 ·intro h
  split at h
  ·rename_i h1
   have e1:=bR.ext' ((iE _ _).1 h1)
   have e2:=bR.ext' ((iE _ _).1 h)
   obtain⟨a1,a2⟩:=a;obtain⟨b1,b2⟩:=b
   simp only at e1 e2
   rw [e1,e2]
  ·rename_i h1;exact absurd h h1
 ·intro h
  subst h
  rw [aC ((iE _ _).2 rfl)]
  exact(iE _ _).2 rfl
theorem u7 {a b:aX}:rj a b<0↔j7 a b=true:=by
 have h:=AD a b
 constructor
 ·intro h1
  rw [cD (by omega)] at h
  rcases pD a b with h2 | h2 | h2
  ·exact h2
  ·rw [tr.2 h2] at h1;omega
  ·rw [h2] at h;cases h
 ·intro h1
  have h2:=tq h1
  rw [h2,o8,cE] at h
  have:rj a b≠0:=fun e=>by rw [tr] at e;subst e;rw [rm] at h1;cases h1
  omega
def BE (l:List aX):Prop:=l.Pairwise (fun a b=>j7 b a=false)
theorem F7 {l m:List aX} (hl:BE l) (hm:BE m) (hp:l.Perm m):l=m:=
 List.Perm.eq_of_pairwise (le:=fun a b=>j7 b a=false) (fun a b _ _ h h'=>by
  rcases pD a b with h2 | h2 | h2
  ·rw [h2] at h';cases h'
  ·exact h2
  ·rw [h2] at h;cases h) hl hm hp
theorem rG {a b c:aX} (h1:j7 b a=false) (h2:j7 c b=false):j7 c a=false:=by
 cases h:j7 c a with
 | false=>rfl
 | true=>
  rcases pD a b with h3 | h3 | h3
  ·rw [pC h h3] at h2;cases h2
  ·subst h3;rw [h] at h2;cases h2
  ·rw [h3] at h1;cases h1
def qC (l:List aX):List aX:=l.mergeSort (fun a b=> !j7 b a)
theorem zy (l:List aX): (qC l).Perm l:=List.mergeSort_perm _ _
theorem HQ (l:List aX):BE (qC l):=by
 have:=List.pairwise_mergeSort (le:=fun a b:aX=> !j7 b a) (fun a b c h1 h2=>by
  simp only [Bool.not_eq_true'] at h1 h2 ⊢;exact rG h1 h2) (fun a b=>by
  rcases pD a b with h | h | h
  ·rw [tq h];rfl
  ·subst h;rw [rm];rfl
  ·rw [tq h];simp) l
 exact this.imp fun h=>by simpa using h
theorem HR {l m:List aX} (hp:m.Perm l) (hm:BE m):m=qC l:=F7 hm (HQ l) (hp.trans (zy l).symm)
theorem D5 {l:List aX} (hl:l.length<4611686018427387904):sd (dB N) l=some (qC l):=by
 obtain⟨m,h1,h2,h3⟩:=vU (φ:=dB N) (l:=l) rj (fun a _ b _=>tn a b) (fun a _=>by rw [tr.2 rfl];decide)
  (fun a _ b _ c _ h1 h2=>by rw [u7] at *;exact pC h1 h2) (fun a _ b _ c _ h1 h2=>by
   rw [u7,iM] at *;exact rG h2 h1) hl
 rw [h1,HR h2 (h3.imp fun h=>by rw [u7,iM] at h;exact h)]
end
end Go.Gk
namespace Go.Gk
open Go
section
variable {N:Nat}
end
end Go.Gk
namespace Go.Gk
open Go
section
variable {N:Nat}
theorem BF {α:Type} (L:List (List α)) (k:Nat): (L.take k).flatten.length<=L.flatten.length:=by
 conv=>rhs;rw [<-List.take_append_drop k L,List.flatten_append,cU]
 omega
theorem HS {n:Nat} (hn:n<=1048576):iI N ((n:Nat):Int)=some []:=by
 unfold iI
 rw [bS (by omega),aY]
 have e1:IntKind.wrap .i64 (((n:Nat):Int) - (IntKind.wrap .i64 (((0:Nat):Int) - ((0:Nat):Int))))= ((n:Nat):Int):=by
  have:IntKind.wrap .i64 (((0:Nat):Int) - ((0:Nat):Int))=0:=by rw [dW (by omega) (by omega)];rfl
  rw [this,dW (by omega) (by omega)];omega
 rw [e1]
 by_cases h:0<n
 ·rw [cD (by omega),aT]
  have:Gv 32 (⟨⟨[]⟩,⟨[]⟩⟩:aX) ((n:Nat):Int)=some (List.replicate n ⟨⟨[]⟩,⟨[]⟩⟩):=by
   unfold Gv;rw [aC (by omega)];rfl
  rw [this,aB,p8 _ _ (by omega),aB,aB]
  rfl
 ·rw [bS (by omega),aY,aB]
theorem D6 {L:List (List aX)} (h1:L.length<=1048576) (h2:L.flatten.length<=1048576):jC N L=some L.flatten:=by
 unfold jC
 have hlen: ∀k,k<=L.length->(L.take k).flatten.length<=1048576:=fun k _=>kd (BF L k) h2
 rw [vH (s:=(0:Int)) (fun k=>(((L.take k).flatten.length:Nat):Int)) (by omega) rfl (fun k hk=>by
  have hx:L[k]? =some L[k]:=aK hk
  have h3:=hlen (k+1) hk
  rw [dU hk,List.flatten_append,cU,List.flatten_singleton] at h3
  rw [eX hx,aB,dU hk,List.flatten_append,cU,List.flatten_singleton]
  have e:IntKind.wrap .i64 ((((L.take k).flatten.length:Nat):Int)+ ((L[k].length:Nat):Int))= (((L.take k).flatten.length+L[k].length:Nat):Int):=by rw [dW (by omega) (by omega)];omega
  rw [e,bS (by omega),aY]),aB,dJ,HS h2,aB]
 rw [vH (s:=([]:List aX)) (fun k=>(L.take k).flatten) (by omega) rfl (fun k hk=>by
  have hx:L[k]? =some L[k]:=aK hk
  have h3:=hlen (k+1) hk
  rw [dU hk,List.flatten_append,cU,List.flatten_singleton] at h3
  rw [eX hx,aB,gL (by omega),aB,dU hk,List.flatten_append,List.flatten_singleton]),aB,dJ]
end
end Go.Gk
namespace Go.Gk
open Go Classical
section
variable {α β γ:Type} {Q:β->Prop}
theorem Ok.push {b:Nat} {l:List α} {y:α} {c:Bool} {f:List α->Option β} (h: (l.length+1)*b<=140737488355328) (k:Ok (f (l++if c=true then [y] else [])) Q):
  Ok ((bif c then (Go.Gk.app b l [y]).bind (fun x=>some x) else some l).bind f) Q:=by
 cases c with
 | true=>rw [aT,gL (by simpa using h)];exact k
 | false=>rw [aY];simpa using k
theorem lQ {l:List α} {k:Nat} (hk:k<l.length) (q:α->Bool): (l.take (k+1)).filter q= (l.take k).filter q++if q l[k]=true then [l[k]] else []:=by
 rw [dU hk,iL]
 congr 1
 cases h:q l[k] <;> simp [h]
theorem mU {l:List α} {k:Nat} (hk:k<l.length) (f:α->List γ): (l.take (k+1)).flatMap f= (l.take k).flatMap f++f l[k]:=by
 rw [dU hk,List.flatMap_append]
 simp
end
def rp (ns:List Int) (g:Int):Option Nat:=if g<0 then none else ns.findIdx? (fun z=>decide (z=g))
def nj (lg:aX->Option Int) (s:List (List aX)×List Int) (p:aX):List (List aX)×List Int:=
 match lg p with
 | none=>s
 | some g=>match rp s.2 g with
  | none=>(s.1++[[p]],s.2++[g])
  | some i=>(s.1.set i ((s.1[i]?).getD []++[p]),s.2)
def AE (lg:aX->Option Int) (ps:List aX):List (List aX)×List Int:=ps.foldl (nj lg) ([],[])
def I7 (lg:aX->Option Int) (ps:List aX):List aX:=if (AE lg ps).1.length<2 then [] else (AE lg ps).1.flatten
theorem F8 {lg:aX->Option Int} {s:List (List aX)×List Int} {p:aX} (h:lg p=none):nj lg s p=s:=by unfold nj;rw [h]
theorem D7 {lg:aX->Option Int} {s:List (List aX)×List Int} {p:aX} {g:Int} (h:lg p=some g) (ha:rp s.2 g=none):nj lg s p= (s.1++[[p]],s.2++[g]):=by
 unfold nj;rw [h];simp only [ha]
theorem D8 {lg:aX->Option Int} {s:List (List aX)×List Int} {p:aX} {g:Int} {i:Nat} (h:lg p=some g) (ha:rp s.2 g=some i):nj lg s p= (s.1.set i ((s.1[i]?).getD []++[p]),s.2):=by
 unfold nj;rw [h];simp only [ha]
theorem xk {ns:List Int} {g:Int} {i:Nat} (h:rp ns g=some i):0<=g/\ns[i]? =some g:=by
 unfold rp at h
 split at h
 ·cases h
 ·rw [List.findIdx?_eq_some_iff_getElem] at h
  obtain⟨hi,hp,_⟩:=h
  exact⟨by omega,by rw [aK hi];simpa using hp⟩
theorem F9 {ns:List Int} {g:Int} (h:rp ns g=none):g<0\/g∉ns:=by
 unfold rp at h
 split at h
 ·left;assumption
 ·right
  rw [List.findIdx?_eq_none_iff] at h
  intro hm
  have:=h g hm
  simp at this
theorem Ga {ns:List Int} {g z:Int} (hn:g<0\/z<0\/z≠g\/rp ns g≠none):rp (ns++[z]) g=rp ns g:=by
 unfold rp at *
 split
 ·rfl
 ·rename_i hg
  rw [List.findIdx?_append]
  rw [aD hg] at hn
  cases hf:ns.findIdx? (fun z=>decide (z=g)) with
  | some i=>rfl
  | none=>
   rw [hf] at hn
   have:z≠g:=by
    rcases hn with h | h | h | h
    ·omega
    ·omega
    ·exact h
    ·exact absurd rfl h
   simp [this]
theorem Gb {ns:List Int} {g:Int} (hg:0<=g) (h:rp ns g=none):rp (ns++[g]) g=some ns.length:=by
 unfold rp at *
 rw [aD (by omega)] at h ⊢
 rw [List.findIdx?_append,h]
 simp
theorem CY (lg:aX->Option Int) {ps:List aX} {k:Nat} (hk:k<ps.length):AE lg (ps.take (k+1))=nj lg (AE lg (ps.take k)) ps[k]:=by
 unfold AE
 rw [dU hk,List.foldl_append];rfl
structure Gi (k:Nat) (gs:List (List aX)) (ns:List Int) (m:List (Int×Int)):Prop where
 len:gs.length=ns.length
 le:gs.length<=k
 each: ∀l∈gs,l.length<=k
 has: ∀g,0<=g->fR m g=decide (g∈ns)
 get: ∀g (i:Nat),rp ns g=some i->dH m g 0= ((i:Nat):Int)
theorem Gi.up {k:Nat} {gs:List (List aX)} {ns:List Int} {m:List (Int×Int)} (h:Gi k gs ns m):Gi (k+1) gs ns m:=
 ⟨h.len,Nat.le_succ_of_le h.le,fun l hl=>Nat.le_succ_of_le (h.each l hl),h.has,h.get⟩
theorem Gi.new {k:Nat} {gs:List (List aX)} {ns:List Int} {m:List (Int×Int)} {g:Int} {p:aX} (h:Gi k gs ns m) (hn:rp ns g=none):Gi (k+1) (gs++[[p]]) (ns++[g]) (kT m g ((gs.length:Nat):Int)) where
 len:=by simp [h.len]
 le:=by have:=h.le;simp;omega
 each:=fun l hl=>by
  rcases cY.1 hl with hl | hl
  ·exact Nat.le_succ_of_le (h.each l hl)
  ·simp at hl;subst hl;simp
 has:=fun g' hg'=>by
  rw [w3,h.has g' hg',fH]
  simp [or_comm]
 get:=fun g' i hi=>by
  rw [qo]
  by_cases e:g'=g
  ·subst e
   have h0:=(xk hi).1
   rw [Gb h0 hn] at hi
   injection hi with hi
   rw [aC rfl,<-hi,h.len]
  ·rw [aD e]
   rw [Ga (.inr (.inr (.inl fun h=>e h.symm)))] at hi
   exact h.get g' i hi
theorem Gi.put {k i:Nat} {gs:List (List aX)} {ns:List Int} {m:List (Int×Int)} {g:Int} {l:List aX} {p:aX} (h:Gi k gs ns m) (hl:gs[i]? =some l):Gi (k+1) (gs.set i (l++[p])) ns m where
 len:=by rw [hQ];exact h.len
 le:=by rw [hQ];have:=h.le;omega
 each:=fun l' hl'=>by
  rcases List.mem_or_eq_of_mem_set hl' with h' | h'
  ·exact Nat.le_succ_of_le (h.each l' h')
  ·subst h'
   have:=h.each l (eN hl)
   simp;omega
 has:=h.has
 get:=h.get
theorem HT {α:Type} (l:List α) (x y:α): (l++[x]).set l.length y=l++[y]:=by simp
theorem CZ (p:aX): ∀(gs:List (List aX)) (i:Nat),(gs.set i ((gs[i]?).getD []++[p])).flatten.length<=gs.flatten.length+1
 | [],_=>by simp
 | g::gs,0=>by simp;omega
 | g::gs,i+1=>by
  have:=CZ p gs i
  simp only [List.set_cons_succ,List.flatten_cons,cU,List.getElem?_cons_succ]
  omega
theorem D9 (lg:aX->Option Int) (s:List (List aX)×List Int) (p:aX): (nj lg s p).1.flatten.length<=s.1.flatten.length+1:=by
 unfold nj
 split
 ·omega
 ·split
  ·simp
  ·exact CZ p s.1 _
theorem I8 (lg:aX->Option Int) (ps:List aX): (AE lg ps).1.flatten.length<=ps.length:=by
 have key: ∀(ps:List aX) (s:List (List aX)×List Int),(ps.foldl (nj lg) s).1.flatten.length<=s.1.flatten.length+ps.length:=by
  intro ps
  induction ps with
  | nil=>intro s;simp
  | cons p ps ih=>
   intro s
   have h1:=ih (nj lg s p)
   have h2:=D9 lg s p
   rw [List.foldl_cons,gI]
   omega
 have:=key ps ([],[])
 simpa [AE] using this
noncomputable def x6 (a:kr) (pcs:List aI) (r:Nat->Nat) (p:aX):Option Int:=(a.bM.find? (fun l=>decide (jR l=p))).map (DU a.bL pcs r)
theorem xl (a:kr) (pcs:List aI) (r:Nat->Nat) (p:aX): (pA a p = -1/\x6 a pcs r p=none)\/∃(k:Nat) (x:eQ),pA a p= ((k:Nat):Int)/\a.bM[k]? =some x/\jR x=p/\x6 a pcs r p=some (DU a.bL pcs r x):=by
 rcases CU a p with ⟨e,h⟩ | ⟨k,x,e,hx,hp⟩
 ·left;refine⟨e,?_⟩
  unfold x6;rw [tS e];rfl
 ·right;exact⟨k,x,e,hx,hp,by unfold x6;rw [tR e hx];rfl⟩
section
variable {N:Nat} {t:List aL} {x:bK} {a:kr} {mX:List (List aA)} {gv:List (List (List aA))} {r:Nat->Nat} {gs:List bJ} {ofP ofB pz:List Int} {rF:List kb}
theorem HU (b:rh a mX gv r gs ofP ofB pz rF) {ps:Net} (hn:ps.aS.length<=1048576) (hN:4398046511104<=N):
  jD N a.aO a.eC a.bL a.bM pz ps=some (I7 (x6 a (cX 0 gv) r) ps.aS):=by
 refine Ok.get ?_
 unfold jD
 refine Ok.bind (Ok.jI (fun k s=>s.1= (AE (x6 a (cX 0 gv) r) (ps.aS.take k)).1/\Gi k s.1 (AE (x6 a (cX 0 gv) r) (ps.aS.take k)).2 s.2) (by omega)
  ⟨rfl,rfl,bI _,fun l hl=>by simp [AE] at hl,fun g hg=>by simp [AE,fR],fun g i h=>by simp [AE,rp] at h⟩ (fun k s hk hI=>?_)) ?_
 ·obtain⟨hs,hI⟩:=hI
  have hx:ps.aS[k]? =some ps.aS[k]:=aK hk
  refine Ok.ix hx (Ok.eq (xe b.Az _ hN) ?_)
  rw [CY _ hk]
  rcases xl a (cX 0 gv) r ps.aS[k] with ⟨e,h⟩ | ⟨j,l,e,hl,hp,h⟩
  ·rw [e,show decide ((-1:Int)<0)=true by decide,aT]
   refine Ok.ret ?_
   rw [F8 h]
   exact⟨hs,hI.up⟩
  ·have ho:pz[j]? =some (DU a.bL (cX 0 gv) r l):=by rw [b.Kh.pz,gH,hl];rfl
   rw [e,show decide (((j:Nat):Int)<0)=false from bS (by omega),aY]
   refine Ok.ix ho ?_
   generalize DU a.bL (cX 0 gv) r l=g at h
   have hle:=hI.le
   have hlen:=hI.len
   cases hat:rp (AE (x6 a (cX 0 gv) r) (ps.aS.take k)).2 g with
   | none=>
    have hc: ((!(fR s.2 g))||decide (g<0))=true:=by
     rcases F9 hat with h0 | h0
     ·simp [h0]
     ·by_cases h1:g<0
      ·simp [h1]
      ·rw [hI.has g (by omega)];simp [h0]
    rw [hc,aT,D7 h hat]
    refine Ok.bind (P:=fun y=>y= (s.1++[[]],kT s.2 g ((s.1.length:Nat):Int),((s.1.length:Nat):Int))) (Ok.app (by simp only [gI,List.length_nil];omega) (Ok.ret rfl)) ?_
    rintro _ rfl
    have hg: (s.1++[([]:List aX)])[s.1.length]? =some []:=by simp
    refine Ok.ix hg (Ok.app (by simp) (Ok.ix hg (Ok.ret ?_)))
    show (s.1++[([]:List aX)]).set (Int.toNat ((s.1.length:Nat):Int)) ([]++[ps.aS[k]])=_/\Gi (k+1) ((s.1++[([]:List aX)]).set (Int.toNat ((s.1.length:Nat):Int)) ([]++[ps.aS[k]])) _ _
    rw [cK,HT]
    exact⟨by rw [hs];rfl,hI.new hat⟩
   | some i=>
    obtain⟨h0,hi⟩:=xk hat
    have hil:i<s.1.length:=by rw [hlen];exact(aZ.1 hi).1
    have hc: ((!(fR s.2 g))||decide (g<0))=false:=by
     rw [hI.has g h0,bS (show ¬g<0 by omega),cD (eN hi)];rfl
    rw [hc,aY,hI.get g i hat,aB,D8 h hat]
    have hg:s.1[i]? =some s.1[i]:=aK hil
    have hll:=hI.each _ (dK hil)
    refine Ok.ix hg (Ok.app (by simp only [gI,List.length_nil];omega) (Ok.ix hg (Ok.ret ?_)))
    show s.1.set (Int.toNat ((i:Nat):Int)) (s.1[i]++[ps.aS[k]])=_/\Gi (k+1) (s.1.set (Int.toNat ((i:Nat):Int)) (s.1[i]++[ps.aS[k]])) _ _
    rw [cK]
    refine⟨?_,hI.put (g:=g) hg⟩
    simp only
    rw [<-hs,hg];rfl
 ·rintro s ⟨hs,hI⟩
  rw [dJ] at hs hI
  unfold I7
  rw [<-hs]
  by_cases h2:s.1.length<2
  ·rw [cD (show ((s.1.length:Nat):Int)<2 by omega),aT,aC h2]
   exact Ok.ret rfl
  ·rw [bS (show ¬((s.1.length:Nat):Int)<2 by omega),aY,aD h2]
   have hf:s.1.flatten.length<=ps.aS.length:=by
    rw [hs]
    exact I8 _ _
   have:=hI.le
   rw [D6 (by omega) (by omega)]
   exact Ok.ret rfl
end
def nameOf (x:bK) (p:aX):bR:=((x.bE[(kS x p).toNat]?).map Net.Name).getD ⟨[]⟩
def xC (x:bK) (p:aX):Bool:=decide (kS x p>=0)
def Ea (t:List aL) (x:bK) (p:aX):Bool:=xC x p||decide (p∈iz t x)
def tt (x:bK) (m:List (bR×Bool)) (p:aX):List (bR×Bool):=if xC x p=true then kT m (nameOf x p) true else m
def zB (x:bK) (ps:List aX):List (bR×Bool):=ps.foldl (tt x) []
def H7 (t:List aL) (x:bK) (p:aX):Bool:= !xC x p&&decide (p∈iz t x)
def Km (t:List aL) (x:bK) (ps:List aX):Nat:=(ps.filter (H7 t x)).length
def sK (m:List (bR×Bool)):List bR:=((m.map fun p=>p.1.cB).mergeSort fun x y=>decide (x<=y)).map bR.mk
theorem HV (x:bK) {ps:List aX} {k:Nat} (hk:k<ps.length):zB x (ps.take (k+1))=tt x (zB x (ps.take k)) ps[k]:=by
 unfold zB
 rw [dU hk,List.foldl_append];rfl
theorem C0 {κ ν:Type} [DecidableEq κ] [GT κ] [KV κ] [GT ν] (m:List (κ×ν)) (k:κ) (v:ν): (kT m k v).length<=m.length+1:=by
 have:=congrArg List.length (vk k v m)
 rw [gp] at this
 rw [this]
 split <;> simp
theorem qD {x:bK} {p:aX} (h:xC x p=true): ∃(k:Nat) (n:Net),kS x p= ((k:Nat):Int)/\x.bE[k]? =some n/\p∈n.aS/\nameOf x p=n.Name:=by
 unfold xC at h
 rw [cE] at h
 unfold kS at h
 rcases j4 x.bE (fun n=>decide (p∈n.aS)) with ⟨h1,_⟩ | ⟨k,n,h1,h2,h3,_⟩
 ·rw [h1] at h;omega
 ·refine⟨k,n,h1,h2,by simpa using h3,?_⟩
  unfold nameOf
  have:kS x p= ((k:Nat):Int):=h1
  rw [this,cK,h2];rfl
theorem C1 {t:List aL} {x:bK}: ∀(ps:List aX),(zB x ps).length<=ps.length/\((zB x ps).map Prod.fst).Nodup/\∀q,q∈(zB x ps).map Prod.fst↔∃p∈ps,xC x p=true/\q=nameOf x p:=by
 intro ps
 have key: ∀(ps:List aX) (m:List (bR×Bool)),(m.map Prod.fst).Nodup->(ps.foldl (tt x) m).length<=m.length+ps.length/\((ps.foldl (tt x) m).map Prod.fst).Nodup/\∀q,q∈(ps.foldl (tt x) m).map Prod.fst↔q∈m.map Prod.fst\/∃p∈ps,xC x p=true/\q=nameOf x p:=by
  intro ps
  induction ps with
  | nil=>intro m hm;exact⟨by simp,hm,fun q=>by simp⟩
  | cons p ps ih=>
   intro m hm
   rw [List.foldl_cons,show tt x m p=if xC x p=true then kT m (nameOf x p) true else m from rfl]
   by_cases hp:xC x p=true
   ·rw [aC hp]
    obtain⟨h1,h2,h3⟩:=ih _ (uG hm (nameOf x p) true)
    have:=C0 m (nameOf x p) true
    refine⟨by rw [gI];omega,h2,fun q=>?_⟩
    rw [h3,vk]
    constructor
    ·rintro(h | ⟨p',hp',h⟩)
     ·split at h
      ·exact .inl h
      ·rcases cY.1 h with h | h
       ·exact .inl h
       ·exact .inr ⟨p,by simp,hp,by simpa using h⟩
     ·exact .inr ⟨p',by simp [hp'],h⟩
    ·rintro(h | ⟨p',hp',h,e⟩)
     ·left;split
      ·exact h
      ·exact List.mem_append_left _ h
     ·rcases fG.1 hp' with h' | h'
      ·subst h';subst e
       left;split
       ·assumption
       ·simp
      ·exact .inr ⟨p',h',h,e⟩
   ·rw [aD hp]
    obtain⟨h1,h2,h3⟩:=ih m hm
    refine⟨by rw [gI];omega,h2,fun q=>?_⟩
    rw [h3]
    constructor
    ·rintro(h | ⟨p',hp',h⟩)
     ·exact .inl h
     ·exact .inr ⟨p',by simp [hp'],h⟩
    ·rintro(h | ⟨p',hp',h,e⟩)
     ·exact .inl h
     ·rcases fG.1 hp' with h' | h'
      ·subst h';exact absurd h hp
      ·exact .inr ⟨p',h',h,e⟩
 have:=key ps [] (by simp)
 simpa [zB] using this
section
variable {N:Nat} {t:List aL} {x:bK}
theorem I9 (ok:rl t x) (p:aX):jd N x.cJ x.bE (mT x x.bE.length) (lZ [] (iz t x) true) p=some (Ea t x p):=by
 have hl:dH (lZ ([]:List (aX×Bool)) (iz t x) true) p false=decide (p∈iz t x):=by
  rw [q7]
  by_cases h:p∈iz t x
  ·rw [aC h,cD h]
  ·rw [aD h,bS h];rfl
 unfold jd Ea xC
 rw [(tT ok p).1,hl]
 cases decide (kS x p>=0) <;> rfl
theorem HW (hbx:bk x<=1048576) (ok:rl t x) {g:bJ} (hg:g.aS.length<=1048576):
  iJ N x.cJ x.bE (mT x x.bE.length) (lZ [] (iz t x) true) g=some (sK (zB x g.aS),g.aS.filter (Ea t x),decide ((((zB x g.aS).length+Km t x g.aS:Nat):Int)>1)):=by
 refine Ok.get ?_
 unfold iJ
 refine Ok.bind (Ok.jI (fun k s=>s= (zB x (g.aS.take k),(g.aS.take k).filter (Ea t x),((((g.aS.take k).filter (H7 t x)).length:Nat):Int))) (by omega) rfl (fun k s hk e=>?_)) ?_
 ·subst e
  have hx:g.aS[k]? =some g.aS[k]:=aK hk
  have hf1: ((g.aS.take k).filter (Ea t x)).length<=k:=kd (hU _ _) (by rw [cV];omega)
  have hf2: ((g.aS.take k).filter (H7 t x)).length<=k:=kd (hU _ _) (by rw [cV];omega)
  rw [HV x hk,lQ hk,lQ hk]
  have hl:dH (lZ ([]:List (aX×Bool)) (iz t x) true) g.aS[k] false=decide (g.aS[k]∈iz t x):=by
   rw [q7]
   by_cases h:g.aS[k]∈iz t x
   ·rw [aC h,cD h]
   ·rw [aD h,bS h];rfl
  refine Ok.ix hx ?_
  obtain⟨hm1,hm2⟩:=tT ok g.aS[k]
  rw [hm1]
  cases hin:decide (kS x g.aS[k]>=0) with
  | true=>
   have hin':xC x g.aS[k]=true:=hin
   obtain⟨j,n,h1,h2,h3,h4⟩:=qD hin'
   rw [aT,hm2 (by rw [h1];omega),h1]
   refine Ok.ix h2 (Ok.app (by simp only [gI,List.length_nil];omega) (Ok.ret ?_))
   have e1:Ea t x g.aS[k]=true:=by unfold Ea;rw [hin'];rfl
   have e2:H7 t x g.aS[k]=false:=by unfold H7;rw [hin'];rfl
   rw [aC e1,aD (by rw [e2];exact ve),mb]
   unfold tt
   rw [aC hin',h4]
  | false=>
   have hin':xC x g.aS[k]=false:=hin
   rw [aY,hl]
   unfold tt
   rw [aD (by rw [hin'];exact ve)]
   have e1:Ea t x g.aS[k]=decide (g.aS[k]∈iz t x):=by unfold Ea;rw [hin'];rfl
   have e2:H7 t x g.aS[k]=decide (g.aS[k]∈iz t x):=by unfold H7;rw [hin'];rfl
   rw [e1,e2]
   cases decide (g.aS[k]∈iz t x) with
   | true=>
    rw [aT]
    refine Ok.app (by simp only [gI,List.length_nil];omega) (Ok.ret ?_)
    rw [g8 (by omega)]
    simp
   | false=>
    rw [aY]
    refine Ok.ret ?_
    simp
 ·rintro _ rfl
  rw [dJ]
  obtain⟨f1,f2,f3⟩:=C1 (t:=t) (x:=x) g.aS
  have hL: (g.aS.filter (H7 t x)).length<=g.aS.length:=hU _ _
  have hk:Ab (zB x g.aS)=some (sK (zB x g.aS)):=by
   have hc: (zB x g.aS).length<=1099511627776/\∀p∈zB x g.aS,p.1.cB.length<=maxLen:=⟨by omega,fun p hp=>by
    obtain⟨q,hq,hi,he⟩:=(f3 p.1).1 (List.mem_map_of_mem hp)
    obtain⟨j,n,h1,h2,h3,h4⟩:=qD hi
    rw [he,h4]
    have hb1:=uM h2
    rw [Bc,uN] at hb1
    rw [m9] at hbx
    simp only [maxLen]
    omega⟩
   unfold Ab sK
   rw [aC hc]
  refine Ok.eq hk (Ok.ret ?_)
  unfold Km
  dsimp only
  rw [wrap_add (by omega)]
end
def rH (a:kr) (x:bK):List aX:=x.bE.flatMap fun n=>n.aS.filter (fun p=>decide (pA a p<0))
def HX (t:List aL) (x:bK) (a:kr):List aX:=(a.bM.map jR).filter (fun p=> !Ea t x p)
def tu (k:Int) (ps:List aX):List dC:=if decide ((ps.length:Int)>0)=true then [⟨k,[],ps⟩] else []
def uw (lg:aX->Option Int) (n:Net):List dC:=if decide (((I7 lg n.aS).length:Int)>0)=true then [⟨2,[n.Name],I7 lg n.aS⟩] else []
def tv (t:List aL) (x:bK) (g:bJ):List dC:=if decide ((((zB x g.aS).length+Km t x g.aS:Nat):Int)>1)=true then [⟨3,sK (zB x g.aS),g.aS.filter (Ea t x)⟩] else []
noncomputable def u9 (t:List aL) (x:bK) (a:kr) (pcs:List aI) (r:Nat->Nat) (gs:List bJ):List dC:=
 tu 1 (qC (rH a x))++x.bE.flatMap (uw (x6 a pcs r))++gs.flatMap (tv t x)++tu 4 (HX t x a)
theorem oV (k:Int) (ps:List aX): (tu k ps).length<=1:=by unfold tu;split <;> simp
theorem tU (lg:aX->Option Int) (n:Net): (uw lg n).length<=1:=by unfold uw;split <;> simp
theorem va (t:List aL) (x:bK) (g:bJ): (tv t x g).length<=1:=by unfold tv;split <;> simp
section
variable {N:Nat} {t:List aL} {x:bK} {a:kr} {mX:List (List aA)} {gv:List (List (List aA))} {r:Nat->Nat} {gs:List bJ} {ofP ofB pz:List Int} {rF:List kb}
theorem AF (ok:rl t x) (k:Nat): ((x.bE.take k).flatMap fun n=>n.aS.filter (fun p=>decide (pA a p<0))).length<=500000:=by
 have h1:=iX (fun n:Net=>n.aS.filter (fun p=>decide (pA a p<0))) 500 x.bE k (fun n hn=>kd (hU _ _) (ok.BB n hn).2)
 have:=ok.BA
 omega
theorem Eb (hbt:bk t<=1048576) (hbx:bk x<=1048576) (hck:fL t x=0) (b:rh a mX gv r gs ofP ofB pz rF)
  (h1:gF N a=some (some (a.aO,a.eC,a.bL,a.bM,mX,cX 0 gv,oU a.bL (cX 0 gv),gs,ofP,ofB,pz,rF),0)) (hN:4398046511104<=N):
  fO N t x a=some (u9 t x a (cX 0 gv) r gs,0):=by
 have ok:=oq hck
 have hfn:=ok.BA
 have hlf:=b.Az.BJ
 have hf:=b.BJ.2
 have hgl:=(HM b.Kh).2
 have hbl:=b.Kg.gb.len
 have hll: (iz t x).length<=1048576000:=by
  have:=D4 (x:=x) hbt
  unfold D3 at this
  rwa [aD (by rw [hck];simp)] at this
 refine Ok.get ?_
 unfold fO jm
 rw [jH hbt hbx (by omega),aB,hck,show ((0:Int) != 0)=false from rfl,aY,h1]
 simp only [Ge,bne_self_eq_false,aY,aB]
 refine Ok.eq (BC hbx) (Ok.eq (D2 hbt hbx ok (by omega)) ?_)
 refine Ok.bind (Ok.jI (fun k s=>s=lZ [] ((iz t x).take k) true) (by omega) rfl (fun k s hk e=>?_)) ?_
 ·subst e
  refine Ok.ix (aK hk) (Ok.ret ?_)
  rw [dU hk]
  unfold lZ
  rw [List.foldl_append];rfl
 rintro _ rfl
 rw [dJ]
 refine Ok.bind (Ok.jI (fun k s=>s= (x.bE.take k).flatMap fun n=>n.aS.filter (fun p=>decide (pA a p<0))) (by omega) rfl (fun k s hk e=>?_)) ?_
 ·subst e
  have hm:=AF (a:=a) ok k
  have hp:=(ok.BB _ (dK hk)).2
  refine Ok.ix (aK hk) ?_
  refine Ok.bind (Ok.jI (fun j s=>s= ((x.bE.take k).flatMap fun n=>n.aS.filter (fun p=>decide (pA a p<0)))++(x.bE[k].aS.take j).filter (fun p=>decide (pA a p<0))) (by omega) (by simp) (fun j s hj e=>?_)) ?_
  ·subst e
   have hq: ((x.bE[k].aS.take j).filter (fun p=>decide (pA a p<0))).length<=500:=kd (hU _ _) (by rw [cV];omega)
   refine Ok.ix (aK hj) (Ok.eq (xe b.Az _ hN) (Ok.push (by rw [cU];omega) (Ok.ret ?_)))
   rw [lQ hj,jt]
  ·rintro _ rfl
   rw [dJ]
   exact Ok.ret (by rw [mU hk])
 rintro _ rfl
 rw [dJ]
 have hm: (rH a x).length<=500000:=by
  have:=AF (a:=a) ok x.bE.length
  rwa [dJ] at this
 refine Ok.eq (D5 (l:=rH a x) (by omega)) (Ok.push (by simp) ?_)
 rw [List.nil_append]
 refine Ok.bind (Ok.jI (fun k s=>s= (pz,tu 1 (qC (rH a x))++(x.bE.take k).flatMap (uw (x6 a (cX 0 gv) r)))) (by omega) (by simp [tu]) (fun k s hk e=>?_)) ?_
 ·subst e
  have hp:=(ok.BB _ (dK hk)).2
  have l1:=oV 1 (qC (rH a x))
  have l2:=iX (uw (x6 a (cX 0 gv) r)) 1 x.bE k (fun n _=>tU _ n)
  refine Ok.ix (aK hk) (Ok.eq (HU b (by omega) hN) (Ok.push (by rw [cU];omega) (Ok.ret ?_)))
  rw [mU hk,jt];rfl
 rintro _ rfl
 rw [dJ]
 refine Ok.bind (Ok.jI (fun k s=>s=tu 1 (qC (rH a x))++x.bE.flatMap (uw (x6 a (cX 0 gv) r))++(gs.take k).flatMap (tv t x)) (by omega) (by simp) (fun k s hk e=>?_)) ?_
 ·subst e
  have l1:=oV 1 (qC (rH a x))
  have l2:=lA (uw (x6 a (cX 0 gv) r)) 1 x.bE (fun n _=>tU _ n)
  have l3:=iX (tv t x) 1 gs k (fun g _=>va t x g)
  have hgx:gs[k]? =some gs[k]:=aK hk
  have hgp:=(I5 b.Kh hgx).2.2
  refine Ok.ix hgx (Ok.eq (HW hbx ok (by omega)) (Ok.push (by rw [cU,cU];omega) (Ok.ret ?_)))
  rw [mU hk,jt];rfl
 rintro _ rfl
 rw [dJ]
 refine Ok.bind (Ok.jI (fun k s=>s= ((a.bM.take k).map jR).filter (fun p=> !Ea t x p)) (by omega) rfl (fun k s hk e=>?_)) ?_
 ·subst e
  have l1: (((a.bM.take k).map jR).filter (fun p=> !Ea t x p)).length<=1000:=kd (hU _ _) (by rw [gp,cV];omega)
  refine Ok.ix (aK hk) (Ok.eq (qw _) (Ok.eq (I9 ok _) ?_))
  rw [qw,aB]
  refine Ok.push (by omega) (Ok.ret ?_)
  rw [dU hk,fD,iL]
  congr 1
  cases h:Ea t x (jR a.bM[k]) <;> simp [h]
 rintro _ rfl
 rw [dJ]
 have l1:=oV 1 (qC (rH a x))
 have l2:=lA (uw (x6 a (cX 0 gv) r)) 1 x.bE (fun n _=>tU _ n)
 have l3:=lA (tv t x) 1 gs (fun g _=>va t x g)
 refine Ok.push (by rw [cU,cU];omega) (Ok.ret ?_)
 rfl
inductive Oj (N:Nat) (t:List aL) (x:bK) (a:kr):Prop
 | bad (e:Int) (he:e≠0) (hl:fL t x=e) (h:fO N t x a=some ([],e))
 | err (e:Int) (he:e≠0) (hl:fL t x=0) (h0:gF N a=some (none,e)) (h:fO N t x a=some ([],e))
 | ok {mX:List (List aA)} {gv:List (List (List aA))} {r:Nat->Nat} {gs:List bJ} {ofP ofB pz:List Int} {rF:List kb} (hl:fL t x=0) (b:rh a mX gv r gs ofP ofB pz rF)
  (h0:gF N a=some (some (a.aO,a.eC,a.bL,a.bM,mX,cX 0 gv,oU a.bL (cX 0 gv),gs,ofP,ofB,pz,rF),0))
  (h:fO N t x a=some (u9 t x a (cX 0 gv) r gs,0))
theorem HY (hbt:bk t<=1048576) (hbx:bk x<=1048576) (hs:wq a) (hN:4398046511104<=N):Oj N t x a:=by
 by_cases hck:fL t x=0
 ·rcases opened (N:=N) hs hN with ⟨e,he,h1⟩ | ⟨b,h1⟩
  ·refine .err e he hck h1 ?_
   have hb: (e != 0)=true:=by simpa using he
   unfold fO jm
   rw [jH hbt hbx (by omega),aB,hck,show ((0:Int) != 0)=false from rfl,aY,h1]
   simp only [Ge,hb,aT,aB]
  ·exact .ok hck b h1 (Eb hbt hbx hck b h1 hN)
 ·refine .bad _ hck rfl ?_
  have hb: (fL t x != 0)=true:=by simpa using hck
  unfold fO jm
  rw [jH hbt hbx (by omega),aB,hb,aT]
  simp only [Ge,hb,aT,aB]
end
end Go.Gk
namespace Go.Gk
open Go Classical
def H8 (lg:aX->Option Int) (p:aX):Bool:=match lg p with | some g=>decide (g<0) | none=>false
structure N1 (lg:aX->Option Int) (ps:List aX) (st:List (List aX)×List Int):Prop where
 len:st.1.length=st.2.length
 full: ∀l∈st.1,l≠[]
 has: ∀p∈ps,∀g,lg p=some g->g∈st.2
 neg: (ps.filter (H8 lg)).length= (st.2.filter (fun g=>decide (g<0))).length
theorem LP (lg:aX->Option Int) (ps:List aX):N1 lg ps (AE lg ps):=by
 have key: ∀k,k<=ps.length->N1 lg (ps.take k) (AE lg (ps.take k)):=by
  intro k
  induction k with
  | zero=>intro _;exact⟨rfl,fun l hl=>by simp [AE] at hl,fun p hp=>by simp at hp,rfl⟩
  | succ k ih=>
   intro hk
   have I:=ih (by omega)
   have hkl:k<ps.length:=hk
   rw [CY lg hkl]
   have hmem: ∀p,p∈ps.take (k+1)->p∈ps.take k\/p=ps[k]:=fun p hp=>by
    rw [dU hkl] at hp
    rcases cY.1 hp with h | h
    ·exact .inl h
    ·exact .inr (by simpa using h)
   have hneg:=lQ hkl (H8 lg)
   unfold nj
   cases hg:lg ps[k] with
   | none=>
    have hn:H8 lg ps[k]=false:=by unfold H8;rw [hg]
    refine⟨I.len,I.full,fun p hp g h=>?_,?_⟩
    ·rcases hmem p hp with h' | h'
     ·exact I.has p h' g h
     ·subst h';rw [hg] at h;cases h
    ·rw [hneg,hn];simpa using I.neg
   | some g=>
    have hn:H8 lg ps[k]=decide (g<0):=by unfold H8;rw [hg]
    simp only
    cases hat:rp (AE lg (ps.take k)).2 g with
    | none=>
     refine⟨by simp [I.len],fun l hl=>?_,fun p hp g' h=>?_,?_⟩
     ·rcases cY.1 hl with h | h
      ·exact I.full l h
      ·simp at h;subst h;simp
     ·rcases hmem p hp with h' | h'
      ·exact List.mem_append_left _ (I.has p h' g' h)
      ·subst h';rw [hg] at h;injection h with h;subst h;simp
     ·rw [hneg,hn,iL,cU,cU,I.neg]
      congr 1
      cases h:decide (g<0) <;> simp [h]
    | some i=>
     obtain⟨h0,hi⟩:=xk hat
     refine⟨by rw [hQ];exact I.len,fun l hl=>?_,fun p hp g' h=>?_,?_⟩
     ·rcases List.mem_or_eq_of_mem_set hl with h | h
      ·exact I.full l h
      ·subst h;simp
     ·rcases hmem p hp with h' | h'
      ·exact I.has p h' g' h
      ·subst h';rw [hg] at h;injection h with h;subst h;exact eN hi
     ·rw [hneg,hn,bS (show ¬g<0 by omega)];simpa using I.neg
 have:=key ps.length (bI _)
 rwa [dJ] at this
theorem x8 {α:Type} {l:List α} {x y:α} (hx:x∈l) (hy:y∈l) (hne:x≠y):2<=l.length:=by
 match l,hx,hy with
 | [],hx,_=>simp at hx
 | [z],hx,hy=>simp at hx hy;exact absurd (hx.trans hy.symm) hne
 | _::_::_,_,_=>simp
theorem Ja {lg:aX->Option Int} {ps:List aX} (h:I7 lg ps= []) {p q:aX} (hp:p∈ps) (hq:q∈ps) (hne:p≠q) {g g':Int} (hg:lg p=some g) (hg':lg q=some g'):g=g'/\0<=g:=by
 have I:=LP lg ps
 have hle: (AE lg ps).1.length<2:=by
  unfold I7 at h
  split at h
  ·assumption
  ·rename_i h2
   exfalso
   match h1: (AE lg ps).1,h2 with
   | [],h2=>simp at h2
   | l::ls,_=>
    rw [h1] at h
    have:=I.full l (by rw [h1];simp)
    simp at h
    exact this h.1
 have h1:=I.has p hp g hg
 have h2:=I.has q hq g' hg'
 have hlen:=I.len
 have e:g=g':=by
  by_cases e:g=g'
  ·exact e
  ·have:=x8 h1 h2 e;omega
 subst e
 refine⟨rfl,?_⟩
 by_cases h0:0<=g
 ·exact h0
 ·exfalso
  have m1:p∈ps.filter (H8 lg):=gR.2 ⟨hp,by unfold H8;rw [hg];simp;omega⟩
  have m2:q∈ps.filter (H8 lg):=gR.2 ⟨hq,by unfold H8;rw [hg'];simp;omega⟩
  have:=x8 m1 m2 hne
  have hn:=I.neg
  have:=hU (fun g=>decide (g<0)) (AE lg ps).2
  omega
theorem BG {t:List aL} {x:bK} (ok:rl t x) {p:aX} (h:jP t x.cJ p=true) (hn:xC x p=false):p∈iz t x:=by
 unfold jP at h
 unfold xC at hn
 rw [decide_eq_false_iff_not] at hn
 cases hf:x.cJ.find? (fun y=>y.Name.oW p.Part) with
 | none=>rw [hf] at h;simp at h
 | some y=>
  rw [hf] at h
  have hy:=List.mem_of_find?_eq_some hf
  have hyn:=List.find?_some hf
  have hyn':y.Name=p.Part:=by rw [A7,cE] at hyn;exact hyn
  unfold iz
  refine List.mem_flatMap.2 ⟨y,hy,gR.2 ⟨?_,by simp;omega⟩⟩
  unfold ni ot
  dsimp only at h
  cases ht:t.find? (fun z=>z.Name.oW y.ju) with
  | none=>rw [ht] at h;simp at h
  | some z=>
   rw [ht] at h
   simp only [ke] at h
   obtain⟨w,hw,hwn⟩:=h
   rw [A7,cE] at hwn
   refine cR.2 ⟨w,hw,?_⟩
   cases p
   simp only at hyn' hwn
   rw [hyn',hwn]
section
variable {N:Nat} {t:List aL} {x:bK} {a:kr} {mX:List (List aA)} {gv:List (List (List aA))} {r:Nat->Nat} {gs:List bJ} {ofP ofB pz:List Int} {rF:List kb}
def Gj:Option Int->Int×Bool×Int
 | none=>(0,false,9)
 | some g=>if g<0 then (0,false,0) else (g,true,0)
theorem wx (g:Int):Gj (some g)=if g<0 then (0,false,0) else (g,true,0):=rfl
theorem xD (b:rh a mX gv r gs ofP ofB pz rF) (h1:gF N a=some (some (a.aO,a.eC,a.bL,a.bM,mX,cX 0 gv,oU a.bL (cX 0 gv),gs,ofP,ofB,pz,rF),0)) (p:aX) (hN:4398046511104<=N):
  jY N a p=some (Gj (x6 a (cX 0 gv) r p)):=by
 have hofL:=b.Kh.pz
 unfold jY
 rw [h1,aB,xe b.Az p hN]
 simp only [Ge,bne_self_eq_false,aY,aB]
 rcases xl a (cX 0 gv) r p with ⟨e,h⟩ | ⟨k,l,e,hl,_,h⟩
 ·rw [e,h,show decide ((-1:Int)<0)=true by decide,aT];rfl
 ·have ho:pz[k]? =some (DU a.bL (cX 0 gv) r l):=by rw [hofL,gH,hl];rfl
  rw [e,h,show decide (((k:Nat):Int)<0)=false from bS (by omega),aY,eX ho,aB]
  rcases FZ a.bL (cX 0 gv) r l with h | ⟨g,h⟩
  ·rw [h];rfl
  ·rw [h,show Gj (some ((g:Nat):Int))= (((g:Nat):Int),true,0) from by unfold Gj;exact aD (by omega),show decide (((g:Nat):Int)<0)=false from bS (by omega),aY];rfl
theorem EW (b:rh a mX gv r gs ofP ofB pz rF) {p:aX} {g:Int} (h:x6 a (cX 0 gv) r p=some g) (hg:0<=g): ∃G,gs[g.toNat]? =some G/\p∈G.aS:=by
 rcases xl a (cX 0 gv) r p with ⟨_,e⟩ | ⟨k,l,_,hl,hp,e⟩
 ·rw [e] at h;cases h
 ·rw [e] at h
  injection h with h
  have hn:Ax a.bL (cX 0 gv) r l=some g.toNat:=by
   unfold DU at h
   cases hh:Ax a.bL (cX 0 gv) r l with
   | none=>rw [hh] at h;simp only at h;omega
   | some j=>rw [hh] at h;simp only at h;rw [<-h];rfl
  have hlt:=LN (ls:=a.bM) b.Kh.conn hn
  have hG:gs[g.toNat]? =some {((o4 a.bL (cX 0 gv).length ((cX 0 gv).length+a.bL.length) r (bW ((cX 0 gv).length+a.bL.length) r))[g.toNat]) with aS:=(a.bM.filter (fun l=>decide (Ax a.bL (cX 0 gv) r l=some g.toNat))).map jR}:=by
   rw [b.Kh.gs,iR,aK hlt];rfl
  exact⟨_,hG,cR.2 ⟨l,gR.2 ⟨eN hl,by rw [hn];simp⟩,hp⟩⟩
theorem Ec {pcs:List aI} (h: ∀w∈u9 t x a pcs r gs,w.Kind=4): (∀n∈x.bE,I7 (x6 a pcs r) n.aS= [])/\(∀G∈gs,(zB x G.aS).length+Km t x G.aS<=1)/\∀n∈x.bE,∀p∈n.aS,0<=pA a p:=by
 refine⟨fun n hn=>?_,fun G hG=>?_,fun n hn p hp=>?_⟩
 ·cases ho:I7 (x6 a pcs r) n.aS with
  | nil=>rfl
  | cons y l=>
   exfalso
   have:=h ⟨2,[n.Name],I7 (x6 a pcs r) n.aS⟩ (by
    unfold u9
    refine List.mem_append_left _ (List.mem_append_left _ (List.mem_append_right _ (List.mem_flatMap.2 ⟨n,hn,?_⟩)))
    unfold uw
    rw [aC (by rw [ho];simp)];simp)
   simp at this
 ·by_cases hc: (zB x G.aS).length+Km t x G.aS<=1
  ·exact hc
  ·exfalso
   have:=h ⟨3,sK (zB x G.aS),G.aS.filter (Ea t x)⟩ (by
    unfold u9
    refine List.mem_append_left _ (List.mem_append_right _ (List.mem_flatMap.2 ⟨G,hG,?_⟩))
    unfold tv
    rw [aC (cD (by omega))];simp)
   simp at this
 ·by_cases hc:0<=pA a p
  ·exact hc
  ·exfalso
   have hm:p∈rH a x:=List.mem_flatMap.2 ⟨n,hn,gR.2 ⟨hp,by simp;omega⟩⟩
   have hm2:p∈qC (rH a x):=(zy _).mem_iff.2 hm
   have:=h ⟨1,[],qC (rH a x)⟩ (by
    unfold u9
    refine List.mem_append_left _ (List.mem_append_left _ (List.mem_append_left _ ?_))
    unfold tu
    rw [aC (by have:=List.length_pos_of_mem hm2;simp;omega)];simp)
   simp at this
theorem Gc (ok:rl t x) (b:rh a mX gv r gs ofP ofB pz rF) (h: ∀w∈u9 t x a (cX 0 gv) r gs,w.Kind=4) {p q:aX} (hne:p≠q) (hp:jP t x.cJ p=true) (hq:jP t x.cJ q=true)
  {g g':Int} (hg:x6 a (cX 0 gv) r p=some g) (hg':x6 a (cX 0 gv) r q=some g'): (0<=g/\0<=g'/\g=g')↔(xC x p=true/\xC x q=true/\nameOf x p=nameOf x q):=by
 obtain⟨k1,k2,k3⟩:=Ec h
 constructor
 ·rintro⟨h0,_,rfl⟩
  obtain⟨G,hG,hpG⟩:=EW b hg h0
  obtain⟨G',hG',hqG⟩:=EW b hg' h0
  rw [hG] at hG';injection hG' with hG';subst hG'
  have hs:=k2 G (eN hG)
  obtain⟨f1,f2,f3⟩:=C1 (t:=t) (x:=x) G.aS
  have names: ∀{y:aX},y∈G.aS->xC x y=true->nameOf x y∈(zB x G.aS).map Prod.fst:=fun hy hi=>(f3 _).2 ⟨_,hy,hi,rfl⟩
  have loose: ∀{y:aX},y∈G.aS->jP t x.cJ y=true->xC x y=false->y∈G.aS.filter (H7 t x):=fun hy hh hi=>
   gR.2 ⟨hy,by unfold H7;rw [hi,cD (BG ok hh hi)];rfl⟩
  unfold Km at hs
  have hln: ((zB x G.aS).map Prod.fst).length= (zB x G.aS).length:=gp _
  cases ip:xC x p with
  | true=>
   have m1:=names hpG ip
   have:=List.length_pos_of_mem m1
   cases iq:xC x q with
   | true=>
    refine⟨rfl,rfl,?_⟩
    have m2:=names hqG iq
    by_cases e:nameOf x p=nameOf x q
    ·exact e
    ·have:=x8 m1 m2 e;omega
   | false=>
    have:=List.length_pos_of_mem (loose hqG hq iq);omega
  | false=>
   have l1:=loose hpG hp ip
   have:=List.length_pos_of_mem l1
   cases iq:xC x q with
   | true=>have:=List.length_pos_of_mem (names hqG iq);omega
   | false=>have:=x8 l1 (loose hqG hq iq) hne;omega
 ·rintro⟨ip,iq,e⟩
  obtain⟨i,n,h1,h2,h3,h4⟩:=qD ip
  obtain⟨j,m,g1,g2,g3,g4⟩:=qD iq
  have hij:i=j:=ok.NP.inj h2 g2 (by rw [<-h4,<-g4];exact e)
  subst hij
  rw [h2] at g2;injection g2 with g2;subst g2
  obtain⟨e1,e2⟩:=Ja (k1 n (eN h2)) h3 g3 hne hg hg'
  exact⟨e2,by omega,e1⟩
end
section
variable {N:Nat}
theorem zz {t:List aL} {x:bK} (hck:fL t x=0) {p:aX}:BD t x p=if jP t x.cJ p=false then (⟨[]⟩,false,9) else if xC x p=true then (nameOf x p,true,0) else (⟨[]⟩,false,0):=by
 unfold BD
 rw [aD (by rw [hck];simp)]
 by_cases hh:jP t x.cJ p=false
 ·rw [aC hh,aC hh]
 ·rw [aD hh,aD hh]
  cases hi:xC x p with
  | true=>
   rw [aC rfl]
   obtain⟨i,n,h1,h2,h3,h4⟩:=qD hi
   have hf:x.bE.find? (fun n=>decide (p∈n.aS))=some n:=tR h1 h2
   rw [hf,h4]
  | false=>
   rw [aD (by simp)]
   have hf:x.bE.find? (fun n=>decide (p∈n.aS))=none:=by
    refine tS ?_
    unfold xC kS at hi
    rcases j4 x.bE (fun n=>decide (p∈n.aS)) with ⟨h,_⟩ | ⟨k,n,h,_⟩
    ·exact h
    ·rw [h] at hi;simp at hi
   rw [hf]
theorem vc {t:List aL} {x:bK} {a:kr} {p q:aX} (hbt:bk t<=1048576) (hbx:bk x<=1048576) (ha:bk a<=1048576) (_hp:bk p<=1048576) (_hq:bk q<=1048576) (hN:4398046511104<=N):
  fJ N t x a p q=some true:=by
 have hs:=CP ha
 have aw:dL N=some true:=I2 (by omega)
 unfold fJ
 rcases HY (N:=N) hbt hbx hs hN with ⟨e,he,_,h⟩ | ⟨e,he,_,_,h⟩ | ⟨hl,b,h0,h⟩
 ·have hb: (e != 0)=true:=by simpa using he
  rw [h,aB,hb,aT,aw];rfl
 ·have hb: (e != 0)=true:=by simpa using he
  rw [h,aB,hb,aT,aw];rfl
 ·rename_i mX gv r gs ofP ofB pz rF
  have ok:=oq hl
  rw [h,aB,show (((u9 t x a (cX 0 gv) r gs,(0:Int)).2) != 0)=false from rfl,aY]
  refine Ok.get ?_
  have hlen: (u9 t x a (cX 0 gv) r gs).length<=1000000:=by
   have l1:=oV 1 (qC (rH a x))
   have l2:=lA (uw (x6 a (cX 0 gv) r)) 1 x.bE (fun n _=>tU _ n)
   have l3:=lA (tv t x) 1 gs (fun g _=>va t x g)
   have l4:=oV 4 (HX t x a)
   have:=ok.BA
   have:=(HM b.Kh).2
   have:=b.BJ.2
   have:=b.Kg.gb.len
   unfold u9
   rw [cU,cU,cU]
   omega
  refine Ok.bind (Ok.C4 (n:=(u9 t x a (cX 0 gv) r gs).length) (fun s=>s) (fun k _=>∀(j:Nat) w,j<k->(u9 t x a (cX 0 gv) r gs)[j]? =some w->w.Kind=4)
   (Go:=fun _=>∀w∈u9 t x a (cX 0 gv) r gs,w.Kind=4) (Rt:=fun r=>r=true) ?_ ?_ (mw _) rfl (fun j w hj=>by omega) (by omega)) ?_
  ·rintro k s hk e hI
   subst e
   have hx: (u9 t x a (cX 0 gv) r gs)[k]? =some (u9 t x a (cX 0 gv) r gs)[k]:=aK hk
   rw [NN hk,aT]
   refine Ok.ix hx (Ok.bif (fun _=>?_) (fun hf=>Ok.nx ⟨g8 (by omega),fun j w hj hw=>?_⟩))
   ·rw [aw,aB];exact Ok.rt rfl
   ·by_cases e:j=k
    ·subst e;rw [hx] at hw;injection hw with hw;rw [<-hw];simpa using hf
    ·exact hI j w (by omega) hw
  ·rintro s e hI
   subst e
   rw [NO,aY]
   refine Ok.br fun w hw=>?_
   obtain⟨j,hj⟩:=eA hw
   exact hI j w (aZ.1 hj).1 hj
  intro o ho
  refine Ok.cs ho (fun s hk=>?_) (fun r hr=>Ok.ret hr)
  rw [qB hbt hbx (by omega),aB,qB hbt hbx (by omega),aB,xD b h0 p hN,aB,xD b h0 q hN,aB,zz hl,zz hl,aw]
  by_cases hpq:p=q
  ·rw [cD hpq];exact Ok.ret rfl
  by_cases hp:jP t x.cJ p=false
  ·rw [aC hp]
   rw [show ((9:Int) != 0)=true from rfl]
   simp only [Bool.or_true,Bool.true_or,aT,aB]
   exact Ok.ret rfl
  by_cases hq:jP t x.cJ q=false
  ·rw [aC hq]
   rw [show ((9:Int) != 0)=true from rfl]
   simp only [Bool.or_true,Bool.true_or,aT,aB]
   exact Ok.ret rfl
  have hp':jP t x.cJ p=true:=by simpa using hp
  have hq':jP t x.cJ q=true:=by simpa using hq
  rw [aD hp,aD hq]
  cases hg:x6 a (cX 0 gv) r p with
  | none=>
   simp only [Gj]
   rw [show ((9:Int) != 0)=true from rfl]
   simp only [Bool.or_true,Bool.true_or,aT,aB]
   exact Ok.ret rfl
  | some g=>
   cases hg':x6 a (cX 0 gv) r q with
   | none=>
    simp only [Gj]
    rw [show ((9:Int) != 0)=true from rfl]
    simp only [Bool.or_true,Bool.true_or,aT,aB]
    exact Ok.ret rfl
   | some g'=>
    have core:=Gc ok b hk hpq hp' hq' hg hg'
    have e1: (((Gj (some g)).2.1&&(Gj (some g')).2.1)&&((Gj (some g)).1==(Gj (some g')).1))=decide (0<=g/\0<=g'/\g=g'):=by
     rw [wx,wx,fH,cE]
     by_cases h1:g<0
     ·rw [aC h1];simp;omega
     ·by_cases h2:g'<0
      ·rw [aD h1,aC h2];simp;omega
      ·rw [aD h1,aD h2];simp;omega
    have e2: ∀(ip iq:Bool) (s s':bR),((((if ip=true then (s,true,(0:Int)) else (⟨[]⟩,false,0)).2.1)&&((if iq=true then (s',true,(0:Int)) else (⟨[]⟩,false,0)).2.1))&&(((if ip=true then (s,true,(0:Int)) else (⟨[]⟩,false,0)).1).oW ((if iq=true then (s',true,(0:Int)) else (⟨[]⟩,false,0)).1)))=decide (ip=true/\iq=true/\s=s'):=by
     intro ip iq s s'
     cases ip <;> cases iq <;> simp [A7]
    have e3: ∀(ip:Bool) (s:bR),((if ip=true then (s,true,(0:Int)) else (⟨[]⟩,false,0)).2.2 != 0)=false:=by
     intro ip s;cases ip <;> rfl
    have e4: ((Gj (some g)).2.2 != 0)=false:=by rw [wx];split <;> rfl
    have e5: ((Gj (some g')).2.2 != 0)=false:=by rw [wx];split <;> rfl
    rw [bS hpq,e3,e3,e4,e5,e1,e2]
    have e6: (decide (0<=g/\0<=g'/\g=g')==decide (xC x p=true/\xC x q=true/\nameOf x p=nameOf x q))=true:=by
     rw [beq_iff_eq,fH,cE,cE];exact core
    rw [e6]
    exact Ok.ret rfl
end
end Go.Gk
