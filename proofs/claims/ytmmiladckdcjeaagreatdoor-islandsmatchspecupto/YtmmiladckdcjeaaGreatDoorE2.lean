/-
  Helping texts: plain functions and plain laws. No statement of the seed is proved here.
-/
import Derived.Test.YtmmiladckdcjeaaGreatDoorE1
import Derived.Test.YtmmiladckdcjeaaGreatDoorA2
set_option linter.unusedVariables false
set_option linter.unusedSimpArgs false
set_option linter.unusedSectionVars false
namespace Go.Gk
open Go Classical
section
variable {N:Nat}
theorem vj {l:List Nat} (h:l.Nodup) {i j a:Nat} (hi:l[i]? =some a) (hj:l[j]? =some a):i=j:=
 (List.getElem_inj (h₀:=(bB.1 hi).1) (h₁:=(bB.1 hj).1) h).1 (by rw [(bB.1 hi).2,(bB.1 hj).2])
theorem o0 {n i k:Nat} {r:Nat->Nat}:i∈cls n r k↔i<n/\r i=k:=by unfold cls;simp
theorem Ge (n:Nat) (r:Nat->Nat) (k:Nat): (cls n r k).Nodup:=List.Nodup.sublist List.filter_sublist List.nodup_range
structure Lx (bs:List cE) (n m:Nat) (r:Nat->Nat) (hs:List Nat) (ofP ofB:List Int):Prop where
 lp:ofP.length=n
 lb:ofB.length=m
 pc: ∀i,i<n->r i∈hs->ofP[i]? =some ((gi bs n (n+m) r (r i):Nat):Int)
 bo: ∀j,j<m->r (n+j)∈hs->ofB[j]? =some (if sF bs j=true then ((gi bs n (n+m) r (r (n+j)):Nat):Int) else -1)
theorem DJ {bs:List cE} {n m:Nat} {r:Nat->Nat} (hm:bs.length=m) (hn:n<=1073741824) (hm2:m<=1073741824) {op ob:List Int} (hop:op.length=n) (hob:ob.length=m)
  {body:Nat->List cC×List Int×List Int->Option (List cC×List Int×List Int)}
  (hbody:body= (fun(k123:Nat) (s124: (List cC)×(List Int)×(List Int))=>((idx (qK (n+m) r) (k123:Int)).bind fun x455=>(nn x455.length (fun(k458:Nat) (s459: (List Int)×(List Int)×(List Int)×(List Int))=>((idx x455 (k458:Int)).bind fun x556=>(bif (decide (x556< (n:Int))) then ((idx s459.1 x556).bind fun x580=>(app 8 s459.2.2.1 ([x556]: (List Int))).bind fun x582=>some ((s459.1.set (Int.toNat x556) (s124.1.length:Int)),s459.2.1,x582,s459.2.2.2)) else ((idx bs (IntKind.wrap .i64 (x556 - (n:Int)))).bind fun x584=>(bif x584.eH then ((idx s459.2.1 (IntKind.wrap .i64 (x556 - (n:Int)))).bind fun x594=>(app 8 s459.2.2.2 ([(IntKind.wrap .i64 (x556 - (n:Int)))]: (List Int))).bind fun x596=>some ((s459.2.1.set (Int.toNat (IntKind.wrap .i64 (x556 - (n:Int)))) (s124.1.length:Int)),x596)) else ((idx s459.2.1 (IntKind.wrap .i64 (x556 - (n:Int)))).bind fun x598=>some ((s459.2.1.set (Int.toNat (IntKind.wrap .i64 (x556 - (n:Int)))) (-1)),s459.2.2.2))).bind fun s592=>some (s459.1,s592.1,s459.2.2.1,s592.2))).bind fun s577=>some (s577.1,s577.2.1,s577.2.2.1,s577.2.2.2):Option ((List Int)×(List Int)×(List Int)×(List Int)))) (s124.2.1,s124.2.2,([]: (List Int)),([]: (List Int)))).bind fun s459=>(bif (decide ((IntKind.wrap .i64 ((s459.2.2.1.length:Int)+ (s459.2.2.2.length:Int)))>0)) then ((app 72 s124.1 [(⟨s459.2.2.1,s459.2.2.2,([]: (List fD))⟩:cC)]).bind fun x610=>some x610) else (some s124.1)).bind fun s606=>some (s606,s459.1,s459.2.1):Option ((List cC)×(List Int)×(List Int))))):
  Ok (nn (qK (n+m) r).length body ([],op,ob)) (fun st=>st.1=kU bs n (n+m) r (bK (n+m) r)/\Lx bs n m r (bK (n+m) r) st.2.1 st.2.2):=by
 subst hbody
 have hsl: (qK (n+m) r).length= (bK (n+m) r).length:=by unfold qK;simp
 have hhl:=kA (n+m) r
 refine Ok.mono (Ok.nn (fun(k:Nat) (st:List cC×List Int×List Int)=>st.1=kU bs n (n+m) r ((bK (n+m) r).take k)/\Lx bs n m r ((bK (n+m) r).take k) st.2.1 st.2.2) (by omega) ⟨rfl,hop,hob,fun i hi h=>by simp at h,fun j hj h=>by simp at h⟩ (fun k st hk hI=>?_)) (fun st h=>by rw [hsl,eQ] at h;exact h)
 obtain⟨gs,ofP,ofB⟩:=st
 obtain⟨e1,I⟩:=hI
 dsimp only at e1 I ⊢
 subst e1
 rw [hsl] at hk
 have hkx: (bK (n+m) r)[k]? =some (bK (n+m) r)[k]:=aO hk
 have hts: (bK (n+m) r).take (k+1)= (bK (n+m) r).take k++[(bK (n+m) r)[k]]:=eC hk
 have hgk:gi bs n (n+m) r (bK (n+m) r)[k]= (kU bs n (n+m) r ((bK (n+m) r).take k)).length:=by
  unfold gi;rw [vQ (lA _ _) hkx,qN]
 generalize hh: (bK (n+m) r)[k]=h at *
 have hsx: (qK (n+m) r)[k]? =some (ints (cls (n+m) r h)):=by unfold qK;rw [gG,hkx];rfl
 refine Ok.ix hsx ?_
 have hcl:=xA (n+m) r h
 rw [jT]
 have hgl: (kU bs n (n+m) r ((bK (n+m) r).take k)).length<=n+m:=by
  rw [qN]
  have:=oH bs n (n+m) r ((bK (n+m) r).take k)
  rw [cL] at this;omega
 have hold: ∀i∈cls (n+m) r h,∀i',r i'∈(bK (n+m) r).take k->i≠i':=fun i hi i' hi' e=>by
  subst e
  rw [(o0.1 hi).2] at hi'
  obtain⟨j,hj⟩:=dV hi'
  have hjk:j<k:=by have:=(bB.1 hj).1;rw [cL] at this;omega
  rw [List.getElem?_take_of_lt hjk] at hj
  have:=vj (lA (n+m) r) hj hkx
  omega
 refine Ok.bind (P:=fun s'=>Lx bs n m r ((bK (n+m) r).take (k+1)) s'.1 s'.2.1/\s'.2.2.1=ints (gP n (cls (n+m) r h))/\s'.2.2.2=ints (gB bs n (cls (n+m) r h))) (Ok.mono (Ok.nn
  (fun(t:Nat) (s':List Int×List Int×List Int×List Int)=>Lx bs n m r ((bK (n+m) r).take k) s'.1 s'.2.1/\s'.2.2.1=ints (gP n ((cls (n+m) r h).take t))/\s'.2.2.2=ints (gB bs n ((cls (n+m) r h).take t))/\
   (∀i∈(cls (n+m) r h).take t,i<n->s'.1[i]? =some ((gi bs n (n+m) r h:Nat):Int))/\∀i∈(cls (n+m) r h).take t,¬i<n->s'.2.1[i - n]? =some (if sF bs (i - n)=true then ((gi bs n (n+m) r h:Nat):Int) else -1)) (by omega)
   ⟨I,rfl,rfl,fun i hi=>by simp at hi,fun i hi=>by simp at hi⟩ (fun t s' ht hI'=>?_)) ?_) ?_
 ·obtain⟨oP,oB,pp,bb⟩:=s'
  obtain⟨J,e2,e3,J1,J2⟩:=hI'
  dsimp only at J e2 e3 J1 J2 ⊢
  subst e2;subst e3
  have htx: (ints (cls (n+m) r h))[t]? =some (((cls (n+m) r h)[t]:Nat):Int):=by unfold ints;rw [gG,aO ht];rfl
  refine Ok.ix htx ?_
  have htt: (cls (n+m) r h).take (t+1)= (cls (n+m) r h).take t++[(cls (n+m) r h)[t]]:=eC ht
  have hcm:=cN ht
  have hdist: ∀i∈(cls (n+m) r h).take t,i≠(cls (n+m) r h)[t]:=fun i hi e=>by
   obtain⟨j,hj⟩:=dV hi
   have hjt:j<t:=by have:=(bB.1 hj).1;rw [cL] at this;omega
   rw [List.getElem?_take_of_lt hjt] at hj
   have:=vj (Ge (n+m) r h) hj (by rw [e];exact aO ht)
   omega
  generalize (cls (n+m) r h)[t]=c at *
  obtain⟨hc1,hc2⟩:=o0.1 hcm
  have hgp:=Cq n ((cls (n+m) r h).take t)
  have hgb:=Cr bs n ((cls (n+m) r h).take t)
  rw [cL] at hgp hgb
  by_cases hcn:c<n
  ·rw [bS (by omega: ((c:Nat):Int)< ((n:Nat):Int)),aP]
   refine Ok.bind (P:=fun x=>x= (oP.set c ((gi bs n (n+m) r h:Nat):Int),oB,ints (gP n ((cls (n+m) r h).take t))++[((c:Nat):Int)],ints (gB bs n ((cls (n+m) r h).take t)))) ?_ ?_
   ·refine Ok.idx (by rw [J.lp];exact hcn) (Ok.app (by rw [jT];simp;omega) (Ok.ret ?_))
    rw [cF,hgk]
   ·rintro _ rfl
    refine Ok.ret ⟨⟨by simp [J.lp],J.lb,fun i hi hr=>?_,J.bo⟩,?_,?_,fun i hi hin=>?_,fun i hi hin=>?_⟩
    ·dsimp only
     rw [nI (by rw [J.lp];exact hcn),aG (fun e=>hold c hcm i hr e.symm)];exact J.pc i hi hr
    ·dsimp only;rw [htt,Ft,aC hcn,oc];rfl
    ·dsimp only;rw [htt,Fu,aC hcn]
    ·dsimp only
     rw [nI (by rw [J.lp];exact hcn)]
     split
     ·rfl
     ·rename_i hne
      rw [htt] at hi
      rcases cY.1 hi with hi | hi
      ·exact J1 i hi hin
      ·exact absurd (by simpa using hi) hne
    ·rw [htt] at hi
     rcases cY.1 hi with hi | hi
     ·exact J2 i hi hin
     ·have:i=c:=by simpa using hi
      subst this;exact absurd hcn hin
  ·rw [cD (by omega: ¬((c:Nat):Int)< ((n:Nat):Int)),aR]
   have hw:IntKind.wrap .i64 (((c:Nat):Int) - ((n:Nat):Int))= ((c - n:Nat):Int):=by rw [fz (by omega) (by omega)];omega
   have hcm2:c - n<bs.length:=by omega
   have hpl:sF bs (c - n)=bs[c - n].eH:=by unfold sF;rw [aO hcm2];rfl
   rw [hw]
   refine Ok.bind (P:=fun x=>x= (oP,oB.set (c - n) (if sF bs (c - n)=true then ((gi bs n (n+m) r h:Nat):Int) else -1),ints (gP n ((cls (n+m) r h).take t)),ints (gB bs n ((cls (n+m) r h).take t++[c])))) ?_ ?_
   ·refine Ok.idx hcm2 ?_
    rw [Fu,aG hcn,hpl]
    cases hp:bs[c - n].eH with
    | true=>
     rw [aP,aC rfl,aC rfl]
     refine Ok.eq (x:=(oB.set (c - n) ((gi bs n (n+m) r h:Nat):Int),ints (gB bs n ((cls (n+m) r h).take t)++[c - n]))) ?_ (Ok.ret rfl)
     rw [kY _ _ (by rw [J.lb];omega),aB,kJ (by rw [jT];simp;omega),aB,cF,hgk,oc];rfl
    | false=>
     rw [aR,aG (by simp),aG (by simp)]
     refine Ok.eq (x:=(oB.set (c - n) (-1),ints (gB bs n ((cls (n+m) r h).take t)))) ?_ (Ok.ret rfl)
     rw [kY _ _ (by rw [J.lb];omega),aB,cF]
   ·rintro _ rfl
    refine Ok.ret ⟨⟨J.lp,by simp [J.lb],J.pc,fun j hj hr=>?_⟩,?_,?_,fun i hi hin=>?_,fun i hi hin=>?_⟩
    ·dsimp only
     rw [nI (by rw [J.lb];omega),aG (fun e=>hold c hcm (n+j) hr (by omega))];exact J.bo j hj hr
    ·dsimp only;rw [htt,Ft,aG hcn]
    ·dsimp only;rw [htt]
    ·rw [htt] at hi
     rcases cY.1 hi with hi | hi
     ·exact J1 i hi hin
     ·have:i=c:=by simpa using hi
      subst this;exact absurd hin hcn
    ·dsimp only
     rw [nI (by rw [J.lb];omega)]
     split
     ·rename_i e;rw [e]
     ·rename_i hne
      rw [htt] at hi
      rcases cY.1 hi with hi | hi
      ·exact J2 i hi hin
      ·exact absurd (by have:i=c:=(by simpa using hi);rw [this]) hne
 ·rintro⟨oP,oB,pp,bb⟩ ⟨J,e2,e3,J1,J2⟩
  dsimp only at J e2 e3 J1 J2 ⊢
  rw [eQ] at e2 e3 J1 J2
  refine⟨⟨J.lp,J.lb,fun i hi hr=>?_,fun j hj hr=>?_⟩,e2,e3⟩
  ·rw [hts] at hr
   rcases cY.1 hr with hr | hr
   ·exact J.pc i hi hr
   ·have hr:r i=h:=by simpa using hr
    rw [hr];exact J1 i (o0.2 ⟨by omega,hr⟩) hi
  ·rw [hts] at hr
   rcases cY.1 hr with hr | hr
   ·exact J.bo j hj hr
   ·have hr:r (n+j)=h:=by simpa using hr
    rw [hr]
    have:=J2 (n+j) (o0.2 ⟨by omega,hr⟩) (by omega)
    rwa [Nat.add_sub_cancel_left] at this
 ·rintro⟨oP,oB,pp,bb⟩ ⟨J,e2,e3⟩
  dsimp only at J e2 e3 ⊢
  subst e2;subst e3
  have hgp:=Cq n (cls (n+m) r h)
  have hgb:=Cr bs n (cls (n+m) r h)
  rw [jT,jT,wrap_add (by omega)]
  have hgs:kU bs n (n+m) r ((bK (n+m) r).take (k+1))=if DI bs n (cls (n+m) r h)=true then kU bs n (n+m) r ((bK (n+m) r).take k)++[Je bs n (cls (n+m) r h)] else kU bs n (n+m) r ((bK (n+m) r).take k):=by
   unfold kU
   rw [hts,BH]
   split
   ·rw [dP];rfl
   ·rfl
  refine Ok.bind (P:=fun x=>x=kU bs n (n+m) r ((bK (n+m) r).take (k+1))) (Ok.bif (fun hb=>?_) (fun hb=>Ok.ret ?_)) (fun x e=>Ok.ret ⟨e,J⟩)
  ·have hne:DI bs n (cls (n+m) r h)=true:=bS (by have:=of_decide_eq_true hb;omega)
   refine Ok.app (by simp;omega) (Ok.ret ?_)
   rw [hgs,aC hne];rfl
  ·have hne: ¬DI bs n (cls (n+m) r h)=true:=fun h'=>by
    have h1:=of_decide_eq_true h'
    have h2:=of_decide_eq_false hb
    omega
   rw [hgs,aG hne]
end
end Go.Gk
namespace Go.Gk
open Go Classical
section
variable {N:Nat}
def lO (n:Nat) (h:km):Nat:=if h.cE=true then n+h.Number.toNat else h.Number.toNat
structure Jf (bs:List cE) (n m:Nat) (h:km):Prop where
 num: ∃k:Nat,h.Number= ((k:Nat):Int)/\(h.cE=true->k<m/\sF bs k=true)/\(h.cE=false->k<n)
theorem Hz {bs:List cE} {pcs:List aK} {l:fW} {h:km} (hh:zn bs pcs l=some h):Jf bs pcs.length bs.length h:=by
 unfold zn at hh
 cases hf:bs.findIdx? (lx l) with
 | some k=>
  rw [hf] at hh
  injection hh with hh;subst hh
  obtain⟨hk,hp,_⟩:=List.findIdx?_eq_some_iff_getElem.1 hf
  refine⟨k,rfl,fun _=>⟨hk,?_⟩,fun h=>by cases h⟩
  unfold lx at hp
  unfold sF
  rw [aO hk]
  rw [bW] at hp
  exact hp.1
 | none=>
  rw [hf] at hh
  dsimp only at hh
  rw [oW] at hh
  obtain⟨k,hk,rfl⟩:=hh
  obtain⟨hk,_⟩:=List.findIdx?_eq_some_iff_getElem.1 hk
  exact⟨k,rfl,fun h=>(by cases h),fun _=>hk⟩
def yU (bs:List cE) (pcs:List aK) (r:Nat->Nat) (l:fW):Option Nat:=(zn bs pcs l).map fun h=>gi bs pcs.length (pcs.length+bs.length) r (r (lO pcs.length h))
def IA (bs:List cE) (pcs:List aK) (r:Nat->Nat) (l:fW):Int:=match yU bs pcs r l with | some g=>((g:Nat):Int) | none=> -1
def gk (gs:List cC) (lg:fW->Option Nat) (ls:List fW):List cC:=gs.mapIdx (fun g x=>{x with eL:=(ls.filter (fun l=>decide (lg l=some g))).map mK})
theorem iV {gs:List cC} {lg:fW->Option Nat} {ls:List fW} {g:Nat}: (gk gs lg ls)[g]? = (gs[g]?).map fun x=>{x with eL:=(ls.filter (fun l=>decide (lg l=some g))).map mK}:=by
 unfold gk;rw [List.getElem?_mapIdx]
theorem tr (gs:List cC) (lg:fW->Option Nat) (ls:List fW): (gk gs lg ls).length=gs.length:=by unfold gk;rw [List.length_mapIdx]
theorem vR {gs:List cC} {lg:fW->Option Nat} {ls:List fW} {l:fW} (h:lg l=none):gk gs lg (ls++[l])=gk gs lg ls:=by
 apply List.ext_getElem?
 intro g
 rw [iV,iV]
 congr 2
 funext x
 rw [kh]
 simp [h]
theorem xH {gs:List cC} {lg:fW->Option Nat} {ls:List fW} {l:fW} {k:Nat} {x:cC} (h:lg l=some k) (hx: (gk gs lg ls)[k]? =some x):
  (gk gs lg ls).set k {x with eL:=x.eL++[mK l]}=gk gs lg (ls++[l]):=by
 apply List.ext_getElem?
 intro g
 have hk:=(bB.1 hx).1
 rw [fw]
 by_cases e:k=g
 ·subst e
  rw [aC rfl,aC hk,iV]
  rw [iV,oW] at hx
  obtain⟨y,hy,rfl⟩:=hx
  rw [hy,kh]
  simp [h]
 ·rw [aG e,iV,iV]
  congr 2
  funext x
  rw [kh]
  have: ¬(lg l=some g):=by rw [h];intro h';injection h' with h';exact e h'
  simp [this]
theorem Fv {bs:List cE} {n t:Nat} {r:Nat->Nat} {i:Nat} (hi:i<n) (ht:i<t):DI bs n (cls t r (r i))=true:=by
 unfold DI
 rw [bR]
 have:i∈gP n (cls t r (r i)):=i7.2 ⟨o0.2 ⟨ht,rfl⟩,by simpa using hi⟩
 have:=List.length_pos_of_mem this
 omega
theorem HA {bs:List cE} {n t:Nat} {r:Nat->Nat} {j:Nat} (hp:sF bs j=true) (ht:n+j<t):DI bs n (cls t r (r (n+j)))=true:=by
 unfold DI
 rw [bR]
 have:j∈gB bs n (cls t r (r (n+j))):=dG.2 ⟨n+j,i7.2 ⟨o0.2 ⟨ht,rfl⟩,by simp [hp]⟩,by omega⟩
 have:=List.length_pos_of_mem this
 omega
structure tt (bs:List cE) (ls:List fW) (pcs:List aK) (r:Nat->Nat) (gs:List cC) (ofP ofB sG:List Int) (sH:List km):Prop where
 conn:Iz pcs.length bs.length (fM bs pcs) r
 gs:gs=gk (kU bs pcs.length (pcs.length+bs.length) r (bK (pcs.length+bs.length) r)) (yU bs pcs r) ls
 of:Lx bs pcs.length bs.length r (bK (pcs.length+bs.length) r) ofP ofB
 sG:sG=ls.map (IA bs pcs r)
 sH:sH=ls.map (fun l=>(zn bs pcs l).getD ⟨false,0⟩)
theorem DK {bs:List cE} {pcs:List aK} (hp:pcs.length<=1073741824): ∀l∈fM bs pcs,l.length<=1073741824/\∀x∈l,∃i:Nat,i<pcs.length/\x= ((i:Nat):Int):=by
 intro l hl
 unfold fM at hl
 obtain⟨b,_,rfl⟩:=dG.1 hl
 have:=yv (g9 b) pcs pcs.length
 refine⟨by rw [jT];omega,fun x hx=>?_⟩
 obtain⟨i,hi,rfl⟩:=mM.1 hx
 exact⟨i,(Gc.1 hi).1,rfl⟩
theorem Cs {bs:List cE} {ls:List fW} {pcs:List aK} (hb:kB bs) (hp:pcs.length<=1000000000) (hr: ∀p∈pcs,p.iN.length<=1073741824) (hl:ls.length<=1073741824) (hN:4398046511104<=N):
  Ok (gu N bs ls pcs (fM bs pcs) [] [] [] []) (fun x=>∃r,tt bs ls pcs r x.1 x.2.1 x.2.2.1 x.2.2.2.1 x.2.2.2.2):=by
 have hbl:=hb.len
 unfold gu
 rw [wrap_add (by omega)]
 obtain⟨up0,u1,u2⟩:=Dy (N:=N) (n:=pcs.length+bs.length) (by omega)
 refine Ok.eq u1 ?_
 refine Ok.bind (Gd (n:=pcs.length) (m:=bs.length) (by unfold fM;simp) (DK (by omega)) (by omega) (by omega) u2 hN) ?_
 rintro up1 ⟨r,v1,v2⟩
 refine Ok.eq (ri 0 (by omega)) (Ok.eq (ri 0 (by omega)) ?_)
 obtain⟨up2,w1,_⟩:=Ix (N:=N) v1 (by omega) (by omega)
 refine Ok.eq w1 ?_
 refine Ok.bind (DJ (bs:=bs) (n:=pcs.length) (m:=bs.length) (r:=r) rfl (by omega) (by omega) (op:=List.replicate pcs.length 0) (ob:=List.replicate bs.length 0) (by simp) (by simp) rfl) ?_
 rintro⟨gs,ofP,ofB⟩ ⟨e1,I⟩
 dsimp only at e1 I ⊢
 subst e1
 have hgl: (kU bs pcs.length (pcs.length+bs.length) r (bK (pcs.length+bs.length) r)).length<=pcs.length+bs.length:=by
  rw [qN]
  have:=oH bs pcs.length (pcs.length+bs.length) r (bK (pcs.length+bs.length) r)
  have:=kA (pcs.length+bs.length) r
  omega
 refine Ok.bind (Ok.nn (fun(k:Nat) (st:List cC×List Int×List Int×List Int×List km)=>st= (gk (kU bs pcs.length (pcs.length+bs.length) r (bK (pcs.length+bs.length) r)) (yU bs pcs r) (ls.take k),ofP,ofB,(ls.take k).map (IA bs pcs r),(ls.take k).map (fun l=>(zn bs pcs l).getD ⟨false,0⟩))) (by omega) ?_ (fun k st hk e=>?_)) ?_
 ·congr 1
  unfold gk
  apply List.ext_getElem?
  intro g
  rw [List.getElem?_mapIdx]
  unfold kU
  rw [gG]
  cases (live bs pcs.length (pcs.length+bs.length) r (bK (pcs.length+bs.length) r))[g]? <;> rfl
 ·subst e
  dsimp only
  have hts:ls.take (k+1)=ls.take k++[ls[k]]:=eC hk
  refine Ok.idx hk (Ok.eq (Hx hb (by omega) hr _) ?_)
  dsimp only
  refine Ok.bind (P:=fun x=>x= (gk (kU bs pcs.length (pcs.length+bs.length) r (bK (pcs.length+bs.length) r)) (yU bs pcs r) (ls.take k++[ls[k]]),IA bs pcs r ls[k])) ?_ ?_
  ·cases hh:zn bs pcs ls[k] with
   | none=>
    refine Ok.ret ?_
    have h1:yU bs pcs r ls[k]=none:=by unfold yU;rw [hh];rfl
    rw [vR h1]
    unfold IA;rw [h1]
   | some h=>
    have h1:yU bs pcs r ls[k]=some (gi bs pcs.length (pcs.length+bs.length) r (r (lO pcs.length h))):=by unfold yU;rw [hh];rfl
    have h2:IA bs pcs r ls[k]= ((gi bs pcs.length (pcs.length+bs.length) r (r (lO pcs.length h)):Nat):Int):=by unfold IA;rw [h1]
    obtain⟨q,q1,q2,q3⟩:=(Hz hh).num
    have hix:lO pcs.length h<pcs.length+bs.length/\DI bs pcs.length (cls (pcs.length+bs.length) r (r (lO pcs.length h)))=true/\iA N ofP ofB h=some ((gi bs pcs.length (pcs.length+bs.length) r (r (lO pcs.length h)):Nat):Int):=by
     unfold iA lO
     rw [q1,cF]
     cases hbo:h.cE with
     | true=>
      obtain⟨q4,q5⟩:=q2 hbo
      rw [aP,aC rfl]
      refine⟨by omega,HA q5 (by omega),?_⟩
      have:=I.bo q q4 (iY.2 ⟨by have:=v2.le (pcs.length+q) (by omega);omega,v2.rr _ (by omega)⟩)
      rw [aC q5] at this
      rw [dM this,aB]
     | false=>
      have q4:=q3 hbo
      rw [aR,aG (by simp)]
      refine⟨by omega,Fv q4 (by omega),?_⟩
      have:=I.pc q q4 (iY.2 ⟨by have:=v2.le q (by omega);omega,v2.rr _ (by omega)⟩)
      rw [dM this,aB]
    obtain⟨i1,i2,i3⟩:=hix
    have hgi:=Hy (r:=r) (t:=pcs.length+bs.length) (bs:=bs) (n:=pcs.length) (h:=r (lO pcs.length h)) (iY.2 ⟨by have:=v2.le _ i1;omega,v2.rr _ i1⟩) i2
    have hgx:gi bs pcs.length (pcs.length+bs.length) r (r (lO pcs.length h))< (gk (kU bs pcs.length (pcs.length+bs.length) r (bK (pcs.length+bs.length) r)) (yU bs pcs r) (ls.take k)).length:=by
     rw [tr,qN];exact hgi.1
    rw [h2]
    dsimp only [Option.getD,Option.isSome]
    rw [aP]
    refine Ok.eq i3 ?_
    generalize gi bs pcs.length (pcs.length+bs.length) r (r (lO pcs.length h))=g at *
    refine Ok.idx hgx (Ok.eq (BG _) ?_)
    have hpl: ((gk (kU bs pcs.length (pcs.length+bs.length) r (bK (pcs.length+bs.length) r)) (yU bs pcs r) (ls.take k))[g]).eL.length<=ls.length:=by
     have:=iV (gs:=kU bs pcs.length (pcs.length+bs.length) r (bK (pcs.length+bs.length) r)) (lg:=yU bs pcs r) (ls:=ls.take k) (g:=g)
     rw [aO hgx] at this
     have:=this.symm
     rw [oW] at this
     obtain⟨y,_,hy⟩:=this
     rw [<-hy,cV]
     have:=l9 (fun l=>decide (yU bs pcs r l=some g)) (ls.take k)
     rw [cL] at this;omega
    refine Ok.app (by simp;omega) (Ok.idx hgx (Ok.ret ?_))
    rw [cF]
    congr 1
    exact xH h1 (aO hgx)
  ·rintro _ rfl
   dsimp only
   refine Ok.app (by simp;omega) (Ok.app (by simp;omega) (Ok.ret ?_))
   rw [hts,dP,dP];rfl
 ·rintro st rfl
  dsimp only
  rw [eQ]
  exact Ok.ret ⟨r,v2,rfl,I,rfl,rfl⟩
end
end Go.Gk
namespace Go.Gk
open Go Classical
section
variable {N:Nat}
theorem yw {p:aK}: ∀{gq:List (List (List aA))} {k:Nat},p∈dO k gq->∃(i:Nat) (ps:List (List aA)) (q:List aA),gq[i]? =some ps/\q∈ps/\p= ⟨((k+i:Nat):Int),q,aS q⟩
 | [],k,h=>by cases h
 | ps::gq,k,h=>by
  rcases cY.1 h with h | h
  ·obtain⟨q,hq,rfl⟩:=dG.1 h
   exact⟨0,ps,q,rfl,hq,rfl⟩
  ·obtain⟨i,ps',q,h1,h2,h3⟩:=yw h
   refine⟨i+1,ps',q,by simpa using h1,h2,?_⟩
   rw [h3,show k+1+i=k+ (i+1) by omega]
structure o4 (a:k7):Prop where
 yS:0<a.aJ.length/\a.aJ.length<=16
 M5: ∀r∈a.aJ,jW r=0
 out:jW a.cG=0
 many:a.cG.length+ (a.aJ.map List.length).sum<=2000
 xI:jf a=0
 HB:mL a=0
theorem o4.gb {a:k7} (h:o4 a):kB a.aM:=⟨(lY h.xI).1,fun b hb=>⟨((lY h.xI).2 b hb).1,((lY h.xI).2 b hb).2.1⟩⟩
theorem o4.cs {a:k7} (h:o4 a): ∀r∈a.aJ,r.length<=2000/\∀x∈r,AU x:=fun r hr=>Ap (uS.1 (h.M5 r hr)).1
structure xJ (a:k7) (mP:List (List aA)) (gq:List (List (List aA))) (p:aK) (i:Nat) (r:List aI) (s:List aA) (ps:List (List aA)) (u:Nat->Nat) (j k:Nat):Prop where
 Ns:a.aJ[i]? =some r
 mP:mP[i]? =some s
 gq:gq[i]? =some ps
 dr:tp r (jY a.aM ((i:Nat):Int)) s
 pt:rl s u ps
 at_:ps[j]? =some p.Set
 head: (bK (aS s).length u)[j]? =some k
 set:sB (nC (aS s) (aS s).length u k) p.Set
 lim:wF (sw r++sw (jY a.aM ((i:Nat):Int))) (jw r++jw (jY a.aM ((i:Nat):Int))) (p.Set.map bY)
 Ly:p.cU= ((i:Nat):Int)
 Lz:p.iN=aS p.Set
theorem HC {a:k7} {mP:List (List aA)} {gq:List (List (List aA))} (hg:o4 a) (hD:wy a.aJ a.aM a.aJ.length mP gq) {p:aK} (hp:p∈dO 0 gq): ∃i r s ps u j k,xJ a mP gq p i r s ps u j k:=by
 obtain⟨i,ps,q,h1,h2,rfl⟩:=yw hp
 have hil:i<a.aJ.length:=by have:=(bB.1 h1).1;rw [hD.zm] at this;exact this
 have hc:a.aJ[i]? =some a.aJ[i]:=aO hil
 have hd:mP[i]? =some (mP[i]'(by rw [hD.len];exact hil)):=aO _
 have hdr:=hD.dr i _ _ hil hc hd
 obtain⟨u,hu⟩:=hD.pt i _ ps hil hd h1
 obtain⟨sx,sy⟩:=hdr.small (hg.cs _ (cN hil)).2 (fun x hx=>(qM hg.gb _ x hx).1)
 obtain⟨j,k,g1,g2,g3,g4⟩:=As hu hdr.can hdr.lim sx sy h2
 exact⟨i,_,_,ps,u,j,k,hc,hd,h1,hdr,hu,g1,g2,g3,g4,by rw [iJ],rfl⟩
theorem xJ.DF {a:k7} {mP:List (List aA)} {gq:List (List (List aA))} (hg:o4 a) {p:aK} {i:Nat} {r:List aI} {s:List aA} {ps:List (List aA)} {u:Nat->Nat} {j k:Nat} (h:xJ a mP gq p i r s ps u j k):
  p.Set.length<=5000/\(∀b∈p.Set,b.Xs.length<=5000)/\p.iN.length<=5000*5000:=by
 have h1:=(hg.cs r (eV h.Ns)).1
 have h2:=yu hg.gb ((i:Nat):Int)
 rw [h.Lz]
 exact vh (A:=5000) h.set.can h.lim (by rw [cZ,lM,lM];omega) (by rw [cZ,jD,jD];omega)
def xK (a0 a1 b0 b1:Int):Bool:=decide (b0<a1)&&decide (a0<b1)
def DL (a b:aI):Bool:=xK a.X0 a.X1 b.X0 b.X1&&xK a.Y0 a.Y1 b.Y0 b.Y1
theorem Au {a0 a1 b0 b1:Int} (h1: -1000000<=a0/\a0<=1000000) (h2: -1000000<=a1/\a1<=1000000) (h3: -1000000<=b0/\b0<=1000000) (h4: -1000000<=b1/\b1<=1000000): ∃n,lU N a0 a1 b0 b1=some n/\0<=n/\(n=0↔xK a0 a1 b0 b1=true):=by
 unfold lU xK
 have e1:IntKind.wrap .i64 (b0 - a1)=b0 - a1:=fz (by omega) (by omega)
 have e2:IntKind.wrap .i64 (a0 - b1)=a0 - b1:=fz (by omega) (by omega)
 have e3:IntKind.wrap .i64 (b0 - a1+1)=b0 - a1+1:=fz (by omega) (by omega)
 have e4:IntKind.wrap .i64 (a0 - b1+1)=a0 - b1+1:=fz (by omega) (by omega)
 rw [e1,e2,e3,e4]
 refine⟨_,rfl,?_,?_⟩
 ·repeat' split
  all_goals omega
 ·rw [bW,bR,bR]
  repeat' split
  all_goals omega
theorem JT {a b:aI} (h1:fB a=true) (h2:fB b=true): ∃n,rQ N a b=some n/\(n=0↔DL a b=true):=by
 have b1:=mJ h1
 have b2:=mJ h2
 obtain⟨n,n1,n2,n3⟩:=Au (N:=N) (a0:=a.X0) (a1:=a.X1) (b0:=b.X0) (b1:=b.X1) (by omega) (by omega) (by omega) (by omega)
 obtain⟨m,m1,m2,m3⟩:=Au (N:=N) (a0:=a.Y0) (a1:=a.Y1) (b0:=b.Y0) (b1:=b.Y1) (by omega) (by omega) (by omega) (by omega)
 unfold rQ DL
 rw [n1,aB,m1,aB]
 refine⟨_,rfl,?_⟩
 rw [bW,<-n3,<-m3]
 split <;> omega
def qO (x y:cE):Bool:=(decide (x.cM<=y.To)&&decide (y.cM<=x.To))&&DL (t6 x) (t6 y)
def qP (a:k7):Prop:=∃(i k:Nat) (x y:cE),k<i/\a.aM[i]? =some x/\a.aM[k]? =some y/\qO x y=true
noncomputable def vG (r:List aI):Option Int:=if jW r≠0 then some (jW r) else none
noncomputable def DM (a:k7):Int:=if 2000<a.cG.length+ (a.aJ.map List.length).sum then 2 else if jf a≠0 then jf a else if mL a≠0 then mL a else if qP a then 12 else 0
noncomputable def HD (a:k7):Int:=match a.aJ.findSome? vG with | some e=>e | none=>if jW a.cG≠0 then jW a.cG else DM a
noncomputable def kO (a:k7):Int:=if a.aJ.length=0 then 9 else if 16<a.aJ.length then 2 else HD a
def J4 (mP:List (List aA)) (gq:List (List (List aA))):Prop:=(∀s∈mP,(aS s).length<=2000)/\(dO 0 gq).length<=2000
abbrev Av:=(List (List aI))×(List aI)×(List cE)×(List fW)×(List (List aA))×(List aK)×(List (List Int))×(List cC)×(List Int)×(List Int)×(List Int)×(List km)
def Jg (a:k7) (x:Option Av×Int):Prop:=
 (kO a≠0/\x= (none,kO a))\/(kO a=0/\o4 a/\¬qP a/\∃mP gq,wy a.aJ a.aM a.aJ.length mP gq/\
  ((¬J4 mP gq/\x= (none,2))\/(J4 mP gq/\∃r gs ofP ofB sG sH,tt a.aM a.bV (dO 0 gq) r gs ofP ofB sG sH/\
   x= (some (a.aJ,a.cG,a.aM,a.bV,mP,dO 0 gq,fM a.aM (dO 0 gq),gs,ofP,ofB,sG,sH),0))))
structure uT (a:k7):Prop where
 cs:a.aJ.length<=1048576
 each: ∀r∈a.aJ,r.length<=1048576
 out:a.cG.length<=1048576
 bs:a.aM.length<=1048576
 ls:a.bV.length<=1048576
 nm:Aq a
theorem DN {a:k7} (h:bk a<=1048576):uT a:=by
 rw [Hh] at h
 have h1:=yg a.aJ
 have h2:=yg a.cG
 have h3:=yg a.aM
 have h4:=yg a.bV
 refine⟨by omega,fun r hr=>?_,by omega,by omega,by omega,fun x hx=>?_⟩
 ·have:=Ew hr
  have:=yg r;omega
 ·have:=Ew hx
  rw [Fe,He,He] at this;omega
theorem BJ {a:k7} (hs:uT a) (hN:4398046511104<=N):Ok (i5 N a) (Jg a):=by
 unfold i5
 have pe: ∀e:Int,e≠0->kO a=e->Ok (some ((none:Option Av),e)) (Jg a):=fun e he h=>Ok.ret (.inl ⟨by rw [h];exact he,by rw [h]⟩)
 have c1:=hs.cs
 refine Ok.bif (fun h=>?_) (fun h=>?_)
 ·have:a.aJ.length=0:=by have:=beq_iff_eq.1 h;omega
  exact pe 9 (by omega) (by unfold kO;rw [aC this])
 have h0: ¬a.aJ.length=0:=by rw [beq_eq_false_iff_ne] at h;omega
 refine Ok.bif (fun h=>?_) (fun h=>?_)
 ·have h1:16<a.aJ.length:=by have:=of_decide_eq_true h;omega
  exact pe 2 (by omega) (by unfold kO;rw [aG h0,aC h1])
 have h1: ¬16<a.aJ.length:=by have:=of_decide_eq_false h;omega
 have pe1:kO a=HD a:=by unfold kO;rw [aG h0,aG h1]
 have hso:=hs.out
 have sumle: ∀k,k<=a.aJ.length->((a.aJ.take k).map List.length).sum<=k*1048576:=by
  intro k
  induction k with
  | zero=>intro _;simp
  | succ k ih=>
   intro hk
   have:=ih (by omega)
   have h2:=hs.each _ (cN (show k<a.aJ.length by omega))
   rw [eC (by omega),dP,List.sum_append]
   simp only [dZ,List.map_nil,List.sum_cons,List.sum_nil]
   rw [Nat.add_mul];omega
 refine Ok.bind (Ok.vn (Go:=fun s:Int=>s= ((a.cG.length+ (a.aJ.map List.length).sum:Nat):Int)/\∀r∈a.aJ,jW r=0) (Rt:=fun x:Option Av×Int=>∃e,e≠0/\x= (none,e)/\a.aJ.findSome? vG=some e)
  (fun(k:Nat) (s:Int)=>s= ((a.cG.length+ ((a.aJ.take k).map List.length).sum:Nat):Int)/\∀r∈a.aJ.take k,jW r=0) (by omega) ⟨by simp,fun r hr=>by simp at hr⟩ (fun k s hk hI=>?_) (fun s hI=>by rw [eQ] at hI;exact hI)) ?_
 ·obtain⟨e,hI⟩:=hI
  subst e
  have hkx:a.aJ[k]? =some a.aJ[k]:=aO hk
  have hts:a.aJ.take (k+1)=a.aJ.take k++[a.aJ[k]]:=eC hk
  have he:=hs.each _ (cN hk)
  refine Ok.ix hkx (Ok.eq (uR (by omega) hN) ?_)
  refine Ok.bif (fun h=>Ok.rt ?_) (fun h=>Ok.nx ?_)
  ·have h:jW a.aJ[k]≠0:=by simpa using h
   refine⟨_,h,rfl,?_⟩
   rw [List.findSome?_eq_some_iff]
   refine⟨a.aJ.take k,a.aJ[k],a.aJ.drop (k+1),?_,by unfold vG;rw [aC h],fun r hr=>by unfold vG;rw [aG (by simpa using hI r hr)]⟩
   rw [<-sP hk,List.take_append_drop]
  ·have h:jW a.aJ[k]=0:=by simpa using h
   have:=sumle k (by omega)
   have hk16:k*1048576<=16*1048576:=Nat.mul_le_mul_right _ (by omega)
   refine⟨?_,fun r hr=>?_⟩
   ·rw [wrap_add (by omega),hts,dP,List.sum_append]
    simp only [dZ,List.map_nil,List.sum_cons,List.sum_nil]
    congr 1
    omega
   ·rw [hts] at hr
    rcases cY.1 hr with hr | hr
    ·exact hI r hr
    ·simp at hr;subst hr;exact h
 intro o ho
 refine Ok.cs ho ?_ ?_
 rotate_left
 ·rintro x ⟨e,he,rfl,hf⟩
  exact pe e he (by rw [pe1];unfold HD;rw [hf])
 rintro s ⟨rfl,hreg⟩
 have LD:a.aJ.findSome? vG=none:=List.findSome?_eq_none_iff.2 fun r hr=>by unfold vG;rw [aG (by simpa using hreg r hr)]
 have pe2:kO a=if jW a.cG≠0 then jW a.cG else DM a:=by rw [pe1];unfold HD;rw [LD]
 refine Ok.eq (uR (by omega) hN) ?_
 refine Ok.bif (fun h=>?_) (fun h=>?_)
 ·have h:jW a.cG≠0:=by simpa using h
  exact pe _ h (by rw [pe2,aC h])
 have hout:jW a.cG=0:=by simpa using h
 have pe3:kO a=DM a:=by rw [pe2,aG (by simpa using hout)]
 refine Ok.bif (fun h=>?_) (fun h=>?_)
 ·have h:2000<a.cG.length+ (a.aJ.map List.length).sum:=by have:=of_decide_eq_true h;omega
  exact pe 2 (by omega) (by rw [pe3];unfold DM;rw [aC h])
 have hmany: ¬2000<a.cG.length+ (a.aJ.map List.length).sum:=by have:=of_decide_eq_false h;omega
 have hbs:=hs.bs
 have hls:=hs.ls
 refine Ok.eq (A9 (by omega) (by omega) (by omega)) ?_
 refine Ok.bif (fun h=>?_) (fun h=>?_)
 ·have h:jf a≠0:=by simpa using h
  exact pe _ h (by rw [pe3];unfold DM;rw [aG hmany,aC h])
 have hbo:jf a=0:=by simpa using h
 refine Ok.eq (Ba (by omega) (by omega) hs.nm (by omega)) ?_
 refine Ok.bif (fun h=>?_) (fun h=>?_)
 ·have h:mL a≠0:=by simpa using h
  exact pe _ h (by rw [pe3];unfold DM;rw [aG hmany,aG (by simpa using hbo),aC h])
 have hla:mL a=0:=by simpa using h
 have hg:o4 a:=⟨by omega,hreg,hout,by omega,hbo,hla⟩
 have pe4:kO a=if qP a then 12 else 0:=by rw [pe3];unfold DM;rw [aG hmany,aG (by simpa using hbo),aG (by simpa using hla)]
 refine Ok.bind (Ok.vn (Go:=fun _:Unit=>¬qP a) (Rt:=fun x:Option Av×Int=>x= (none,12)/\qP a)
  (fun(k:Nat) (_:Unit)=>∀(i j:Nat) (x y:cE),i<k->j<i->a.aM[i]? =some x->a.aM[j]? =some y->¬qO x y=true) (by omega) (fun i j x y h=>by omega) (fun k s hk hI=>?_) (fun s hI=>?_)) ?_
 ·have hkx:a.aM[k]? =some a.aM[k]:=aO hk
  refine Ok.ix hkx (Ok.eq (qy _ k (by omega)) ?_)
  have hgk:=hg.gb.ok _ (cN hk)
  refine Ok.bind (Ok.vn (Go:=fun _:Unit=>∀(j:Nat) (y:cE),j<k->a.aM[j]? =some y->¬qO a.aM[k] y=true) (Rt:=fun x:Option Av×Int=>x= (none,12)/\qP a)
   (fun(t:Nat) (_:Unit)=>∀(j:Nat) (y:cE),j<t->a.aM[j]? =some y->¬qO a.aM[k] y=true) (by rw [cL];omega) (fun j y h=>by omega) (fun t s ht hI2=>?_) (fun s hI2 j y hj hy=>hI2 j y (by rw [cL];omega) hy)) ?_
  ·have htk:t<k:=by rw [cL] at ht;omega
   have htx: (a.aM.take k)[t]? =some a.aM[t]:=by rw [List.getElem?_take_of_lt htk];exact aO (by omega)
   have hgt:=hg.gb.ok _ (cN (show t<a.aM.length by omega))
   refine Ok.ix htx ?_
   refine Ok.eq (x:=qO a.aM[k] a.aM[t]) ?_ ?_
   ·unfold qO
    cases hc: (decide (a.aM[k].cM<=a.aM[t].To)&&decide (a.aM[t].cM<=a.aM[k].To)) with
    | false=>rfl
    | true=>
     obtain⟨n,n1,n2⟩:=JT (N:=N) hgk.2 hgt.2
     rw [aP,mI hgk.1,aB,mI hgt.1,aB,n1,aB,Bool.true_and]
     congr 1
     rw [fu,beq_iff_eq];exact n2
   ·refine Ok.bif (fun h=>Ok.rt ⟨rfl,k,t,_,_,htk,hkx,aO (by omega),h⟩) (fun h=>Ok.nx fun j y hj hy=>?_)
    by_cases e:j<t
    ·exact hI2 j y e hy
    ·have:j=t:=by omega
     subst this
     rw [aO (by omega)] at hy;injection hy with hy
     rw [<-hy,h];simp
  ·intro o ho
   refine Ok.cs ho (fun s hI2=>Ok.nx fun i j x y hi hj hx hy=>?_) (fun x hx=>Ok.rt hx)
   by_cases e:i<k
   ·exact hI i j x y e hj hx hy
   ·have:i=k:=by omega
    subst this
    rw [hkx] at hx;injection hx with hx
    rw [<-hx];exact hI2 j y hj hy
 ·rintro⟨i,j,x,y,hj,hx,hy,hc⟩
  exact hI i j x y (bB.1 hx).1 hj hx hy hc
 intro o ho
 refine Ok.cs ho ?_ ?_
 rotate_left
 ·rintro x ⟨rfl,hc⟩
  exact pe 12 (by omega) (by rw [pe4,aC hc])
 intro _ hncl
 have pe5:kO a=0:=by rw [pe4,aG hncl]
 refine Ok.bind (EH (N:=N) (by omega) hg.cs hg.gb hN) ?_
 rintro⟨okk,mP,pcs⟩ ⟨gq,D,e1,e2⟩
 dsimp only at D e1 e2 ⊢
 subst e1
 refine Ok.bif (fun h=>Ok.ret (.inr ⟨pe5,hg,hncl,mP,gq,D, .inl ⟨fun hf=>?_,rfl⟩⟩)) (fun h=>?_)
 ·have:=e2.2 hf
  rw [this] at h;cases h
 ·have hf:J4 mP gq:=e2.1 (by cases okk <;> simp_all)
  have hpr: ∀p∈dO 0 gq,p.iN.length<=1073741824:=fun p hp=>by
   obtain⟨i,r,s,ps,u,j,k,hP⟩:=HC hg D hp
   have:=(hP.DF hg).2.2;omega
  have hf2:=hf.2
  refine Ok.eq (Hv hg.gb (by omega) hpr) ?_
  refine Ok.bind (Cs (N:=N) hg.gb (by omega) hpr (by omega) hN) ?_
  rintro⟨gs,ofP,ofB,sG,sH⟩ ⟨r,hC⟩
  exact Ok.ret (.inr ⟨pe5,hg,hncl,mP,gq,D, .inr ⟨hf,r,gs,ofP,ofB,sG,sH,hC,rfl⟩⟩)
end
end Go.Gk
namespace Go.Gk
open Go Classical
section
variable {N:Nat}
theorem Fw {w:Nat} {g:Nat->Nat} {a:Nat}: ∀{ks:List Nat},ks.Nodup->a∈ks->(ks.map (fun k=>(if a=k then w else 0)+g k)).sum=w+ (ks.map g).sum
 | [],_,h=>by cases h
 | k::ks,hn,h=>by
  have hn':=List.nodup_cons.1 hn
  simp only [dZ,List.sum_cons]
  by_cases e:a=k
  ·subst e
   rw [aC rfl]
   have:ks.map (fun k=>(if a=k then w else 0)+g k)=ks.map g:=List.map_congr_left fun x hx=>by
    rw [aG (fun e=>hn'.1 (by rw [e];exact hx)),iJ]
   rw [this];omega
  ·rw [aG e,Fw hn'.2 (by rcases dC.1 h with h | h;exact absurd h e;exact h)];omega
theorem DO {α:Type} {ks:List Nat} (hn:ks.Nodup) (f w:α->Nat): ∀{l:List α},(∀x∈l,f x∈ks)->(ks.map (fun k=>((l.filter (fun x=>decide (f x=k))).map w).sum)).sum= (l.map w).sum
 | [],_=>by
  have: ∀ks:List Nat,(ks.map (fun _=>0)).sum=0:=fun ks=>by
   induction ks with
   | nil=>rfl
   | cons k ks ih=>simp only [dZ,List.sum_cons,ih]
  simpa using this ks
 | x::l,h=>by
  have ih:=DO hn f w (l:=l) fun y hy=>h y (hZ _ hy)
  have: (ks.map (fun k=>(((x::l).filter (fun x=>decide (f x=k))).map w).sum))=ks.map (fun k=>(if f x=k then w x else 0)+ ((l.filter (fun x=>decide (f x=k))).map w).sum):=List.map_congr_left fun k _=>by
   rw [List.filter_cons]
   by_cases e:f x=k
   ·rw [aC (by simpa using e),aC e,dZ,List.sum_cons]
   ·rw [aG (by simpa using e),aG e,iJ]
  rw [this,Fw hn (h x (by simp)),ih,dZ,List.sum_cons]
def Fx (s:List aA):jt:=match s with | b::_=>⟨b.Xs.headD 0,b.Y0⟩ | []=>⟨0,0⟩
theorem xJ.ne {a:k7} {mP:List (List aA)} {gq:List (List (List aA))} {p:aK} {i:Nat} {r:List aI} {s:List aA} {ps:List (List aA)} {u:Nat->Nat} {j k:Nat} (h:xJ a mP gq p i r s ps u j k):p.Set≠[]:=by
 intro e
 have hh:=iY.1 (eV h.head)
 have hx: (aS s)[k]? =some (aS s)[k]:=aO hh.1
 have hm: (aS s)[k]∈nC (aS s) (aS s).length u k:=lN.2 ⟨k,hh.1,hh.2,hx⟩
 obtain⟨b,hb,q,hq,hr⟩:=qp (eV hx)
 have hbm:bY b∈s.map bY:=dG.2 ⟨b,hb,rfl⟩
 have hq1:=EA (h.dr.can.each _ hbm).2.2.1 q hq
 have hb1:=(h.dr.can.each _ hbm).1
 have hc:=h.set.cover q.1 b.Y0
 rw [e] at hc
 have:sj (nC (aS s) (aS s).length u k) q.1 b.Y0=true:=iU.2 ⟨_,hm,by rw [hr];exact⟨⟨Int.le_refl _,hq1⟩,Int.le_refl _,hb1⟩⟩
 rw [this] at hc
 cases hc
structure oV (a:k7) (mP:List (List aA)) (gq:List (List (List aA))) (r:Nat->Nat) (gs:List cC) (ofP ofB sG:List Int) (sH:List km):Prop where
 wA:o4 a
 Nt: ¬qP a
 dr:wy a.aJ a.aM a.aJ.length mP gq
 yS:J4 mP gq
 IB:tt a.aM a.bV (dO 0 gq) r gs ofP ofB sG sH
inductive JU (N:Nat) (a:k7):Prop
 | err (e:Int) (he:e≠0) (h:i5 N a=some (none,e))
 | ok {mP:List (List aA)} {gq:List (List (List aA))} {r:Nat->Nat} {gs:List cC} {ofP ofB sG:List Int} {sH:List km} (b:oV a mP gq r gs ofP ofB sG sH)
  (h:i5 N a=some (some (a.aJ,a.cG,a.aM,a.bV,mP,dO 0 gq,fM a.aM (dO 0 gq),gs,ofP,ofB,sG,sH),0))
theorem opened {a:k7} (hs:uT a) (hN:4398046511104<=N):JU N a:=by
 obtain⟨x,hx,hI⟩:=BJ (N:=N) hs hN
 rcases hI with ⟨he,rfl⟩ | ⟨_,hg,hcl,mP,gq,D,⟨_,rfl⟩ | ⟨hf,r,gs,ofP,ofB,sG,sH,hC,rfl⟩⟩
 ·exact .err _ he hx
 ·exact .err 2 (by omega) hx
 ·exact .ok ⟨hg,hcl,D,hf,hC⟩ hx
end
end Go.Gk
namespace Go.Gk
open Go Classical
section
variable {S R:Type}
theorem Ok.pr {body:S->Option (Fl S R)} {N n:Nat} {s:S} (ι:S->Int) (Inv:Nat->S->Prop) {Go:S->Prop} {Rt:R->Prop}
  (h1: ∀k s,k<n->ι s= ((k:Nat):Int)->Inv k s->Ok (body s) (HV (fun s'=>ι s'= ((k+1:Nat):Int)/\Inv (k+1) s') Go Rt))
  (h2: ∀s,ι s= ((n:Nat):Int)->Inv n s->Ok (body s) (HV (fun _=>False) Go Rt))
  {k0:Nat} (hk:k0<=n) (hi:ι s= ((k0:Nat):Int)) (h0:Inv k0 s) (hn:n<N):Ok (Gk.jE body N s) (Ls Go Rt):=by
 refine Ok.jE (fun s=>∃k:Nat,k<=n/\ι s= ((k:Nat):Int)/\Inv k s) (fun s=>n - (ι s).toNat) ?_ ⟨k0,hk,hi,h0⟩ (by omega)
 rintro s ⟨k,hk,e,hI⟩
 by_cases hlt:k<n
 ·refine(h1 k s hlt e hI).mono ?_
  rintro(s' | s' | r) hp
  ·have hp1:ι s'= ((k+1:Nat):Int):=hp.1
   exact⟨⟨k+1,hlt,hp.1,hp.2⟩,by rw [e,hp1];simp only [cF];omega⟩
  ·exact hp
  ·exact hp
 ·have:k=n:=by omega
  subst this
  refine(h2 s e hI).mono ?_
  rintro(s' | s' | r) hp
  ·exact hp.elim
  ·exact hp
  ·exact hp
theorem kn {k n:Nat} (h:k<n):decide (((k:Nat):Int)< ((n:Nat):Int))=true:=bS (by omega)
theorem mN (n:Nat):decide (((n:Nat):Int)< ((n:Nat):Int))=false:=cD (by omega)
theorem xL {k n:Nat} (h:n<=k):decide (((k:Nat):Int)< ((n:Nat):Int))=false:=cD (by omega)
end
theorem p9 {α:Type} {p:α->Bool}: ∀{l:List α} {k:Nat},(∀(j:Nat) x,j<k->l[j]? =some x->p x=true)->(∀x,l[k]? =some x->p x=false)->l.takeWhile p=l.take k/\l.dropWhile p=l.drop k
 | [],k,_,_=>by simp
 | y::l,0,_,h2=>by
  have:=h2 y rfl
  rw [List.takeWhile_cons,List.dropWhile_cons,this];simp
 | y::l,k+1,h1,h2=>by
  have h:=h1 0 y (by omega) rfl
  obtain⟨e1,e2⟩:=p9 (l:=l) (k:=k) (fun j x hj hx=>h1 (j+1) x (by omega) hx) (fun x hx=>h2 x hx)
  rw [List.takeWhile_cons,List.dropWhile_cons,h,aC rfl,aC rfl,e1,e2];simp
section
variable {N:Nat}
def qc (l:List Int) (c:Int):List Int:=if c∈l then l else l.takeWhile (fun x=>decide (x<c))++c::l.dropWhile (fun x=>decide (x<c))
theorem uU (l:List Int) (c:Int): (qc l c).length<=l.length+1:=by
 unfold qc
 split
 ·omega
 ·have: (l.takeWhile (fun x=>decide (x<c))).length+ (l.dropWhile (fun x=>decide (x<c))).length=l.length:=by rw [<-cZ,List.takeWhile_append_dropWhile]
  rw [cZ,dN];omega
theorem xM {l:List Int} {c x:Int}:x∈qc l c↔x∈l\/x=c:=by
 unfold qc
 split
 ·rename_i h
  exact⟨.inl,fun h'=>h'.elim id fun e=>e▸h⟩
 ·have:x∈l↔x∈l.takeWhile (fun x=>decide (x<c))\/x∈l.dropWhile (fun x=>decide (x<c)):=by rw [<-cY,List.takeWhile_append_dropWhile]
  rw [cY,dC,this]
  constructor
  ·rintro(h | h | h)
   ·exact .inl (.inl h)
   ·exact .inr h
   ·exact .inl (.inr h)
  ·rintro((h | h) | h)
   ·exact .inl h
   ·exact .inr (.inr h)
   ·exact .inr (.inl h)
theorem Fy {l:List Int} (h:jd l) (c:Int): ∀x∈l.dropWhile (fun x=>decide (x<c)),c<=x:=by
 induction l with
 | nil=>intro x hx;cases hx
 | cons a l ih=>
  rw [List.dropWhile_cons]
  by_cases ha:a<c
  ·rw [aC (by simpa using ha)];exact ih h.tail
  ·rw [aG (by simpa using ha)]
   intro x hx
   rcases dC.1 hx with rfl | hx
   ·omega
   ·have:=h.head x hx;omega
theorem IC (l:List Int) (c:Int): ∀x∈l.takeWhile (fun x=>decide (x<c)),x<c:=by
 induction l with
 | nil=>intro x hx;cases hx
 | cons a l ih=>
  rw [List.takeWhile_cons]
  by_cases ha:a<c
  ·rw [aC (by simpa using ha)]
   intro x hx
   rcases dC.1 hx with rfl | hx
   ·exact ha
   ·exact ih x hx
  ·rw [aG (by simpa using ha)]
   intro x hx;cases hx
theorem qQ {l:List Int} {c:Int} (h:jd l):jd (qc l c):=by
 unfold qc
 split
 ·exact h
 ·rename_i hc
  have hs:=h
  rw [<-List.takeWhile_append_dropWhile (p:=fun x=>decide (x<c)) (l:=l)] at hs
  unfold jd at hs ⊢
  rw [mQ] at hs ⊢
  refine⟨hs.1,oj.2 ⟨fun x hx=>?_,hs.2.1⟩,fun x hx y hy=>?_⟩
  ·have h1:=Fy h c x hx
   have h2:x≠c:=fun e=>hc (by rw [<-e,<-List.takeWhile_append_dropWhile (p:=fun x=>decide (x<c)) (l:=l)];exact List.mem_append_right _ hx)
   omega
  ·have h1:=IC l c x hx
   rcases dC.1 hy with rfl | hy
   ·exact h1
   ·have:=Fy h c y hy;omega
def kp (l:List Int):List Int:=l.foldl qc []
theorem tu: ∀(cs l:List Int),jd l->jd (cs.foldl qc l)/\(∀x,x∈cs.foldl qc l↔x∈l\/x∈cs)/\(cs.foldl qc l).length<=l.length+cs.length
 | [],l,h=>⟨h,fun x=>by simp,by simp⟩
 | c::cs,l,h=>by
  obtain⟨h1,h2,h3⟩:=tu cs (qc l c) (qQ h)
  refine⟨h1,fun x=>?_,?_⟩
  ·rw [List.foldl_cons,h2,xM,dC,or_assoc]
  ·rw [List.foldl_cons,dN]
   have:=uU l c;omega
theorem m8 (l:List Int):jd (kp l):=(tu l [] jG).1
theorem yx {l:List Int} {x:Int}:x∈kp l↔x∈l:=by
 have:=(tu l [] jG).2.1 x
 unfold kp;rw [this];simp
theorem sI (l:List Int): (kp l).length<=l.length:=by
 have:=(tu l [] jG).2.2
 unfold kp;simpa using this
theorem uV (l:List Int) (c d:Int):kp (l++[c,d])=qc (qc (kp l) c) d:=by unfold kp;rw [List.foldl_append];rfl
theorem EI {a b:Nat} (h:a+b<=4611686018427387904):IntKind.wrap .i64 (Int.tdiv (IntKind.wrap .i64 (((a:Nat):Int)+ ((b:Nat):Int))) 2)= (((a+b) / 2:Nat):Int):=by
 rw [wrap_add h,Int.tdiv_eq_ediv_of_nonneg (by omega),fz (by omega) (by omega)];omega
theorem vk {l:List Int} {c:Int} (h:jd l) (hl:l.length<=1099511627776) (hN:4398046511104<=N):fA N l c=some (qc l c):=by
 refine Ok.get ?_
 unfold fA
 refine Ok.bind (Ok.jE (Go:=fun st:Int×Int=>∃a:Nat,st.1= ((a:Nat):Int)/\a<=l.length/\(∀(j:Nat) x,j<a->l[j]? =some x->x<c)/\(∀(j:Nat) x,a<=j->l[j]? =some x->c<=x)) (Rt:=fun _=>True)
  (fun st=>∃a b:Nat,st= (((a:Nat):Int),((b:Nat):Int))/\a<=b/\b<=l.length/\(∀(j:Nat) x,j<a->l[j]? =some x->x<c)/\(∀(j:Nat) x,b<=j->l[j]? =some x->c<=x))
  (fun st=>(st.2 - st.1).toNat) ?_ ⟨0,l.length,rfl,by omega,bU _,fun j x hj=>by omega,fun j x hj hx=>by have:=(bB.1 hx).1;omega⟩ (by simp only;omega)) ?_
 ·rintro st ⟨a,b,rfl,hab,hb,h1,h2⟩
  dsimp only
  by_cases hlt:a<b
  ·have hm: (a+b) / 2<l.length:=by omega
   have hx:l[(a+b) / 2]? =some l[(a+b) / 2]:=aO hm
   rw [kn hlt,aP,EI (by omega)]
   refine Ok.ix hx ?_
   by_cases hc:l[(a+b) / 2]<c
   ·rw [bS hc,aP,aB]
    refine Ok.nx ⟨⟨(a+b) / 2+1,b,?_,by omega,hb,fun j x hj hx'=>?_,h2⟩,?_⟩
    ·rw [bN (by omega)]
    ·by_cases e:j= (a+b) / 2
     ·subst e;rw [hx] at hx';injection hx' with hx';omega
     ·have:=h.lt (i:=j) (j:=(a+b) / 2) (by omega) hx' hx
      omega
    ·rw [bN (by omega)];simp only;omega
   ·rw [cD hc,aR,aB]
    refine Ok.nx ⟨⟨a,(a+b) / 2,rfl,by omega,by omega,h1,fun j x hj hx'=>?_⟩,by simp only;omega⟩
    by_cases e:j= (a+b) / 2
    ·subst e;rw [hx] at hx';injection hx' with hx';omega
    ·have:=h.lt (i:=(a+b) / 2) (j:=j) (by omega) hx hx'
     omega
  ·rw [xL (by omega),aR]
   exact Ok.br ⟨a,rfl,by omega,h1,fun j x hj hx=>h2 j x (by omega) hx⟩
 intro o ho
 refine Ok.cs ho ?_ (fun r hr=>r.elim)
 rintro⟨st1,st2⟩ ⟨a,ha,hle,h1,h2⟩
 dsimp only at ha ⊢
 subst ha
 have hin:l[a]? =some c->qc l c=l:=fun hx=>by unfold qc;rw [aC (eV hx)]
 have hout:l[a]? ≠some c->qc l c=l.take a++c::l.drop a:=fun hx=>by
  have hc:c∉l:=fun hc=>by
   obtain⟨j,hj⟩:=dV hc
   by_cases h3:j<a
   ·have:=h1 j c h3 hj;omega
   ·by_cases e:j=a
    ·subst e;exact hx hj
    ·have h5:a<l.length:=by have:=(bB.1 hj).1;omega
     have h6:l[a]? =some l[a]:=aO h5
     have h7:=h.lt (i:=a) (j:=j) (by omega) h6 hj
     have h8:=h2 a _ (bU _) h6
     omega
  unfold qc
  rw [aG hc]
  obtain⟨e1,e2⟩:=p9 (p:=fun x=>decide (x<c)) (l:=l) (k:=a) (fun j x hj hx'=>bS (h1 j x hj hx')) (fun x hx'=>cD (by have:=h2 a x (bU _) hx';omega))
  rw [e1,e2]
 have hrest:l[a]? ≠some c->Ok ((sO l 0 ((a:Nat):Int)).bind fun x49=>(app 8 ([]:List Int) x49).bind fun x51=>(app 8 x51 ([c]:List Int)).bind fun x54=>(sO l ((a:Nat):Int) ((l.length:Nat):Int)).bind fun x56=>(app 8 x54 x56).bind fun x58=>some x58) (fun r=>r=qc l c):=fun hx=>by
  have htk: (l.take a).length=a:=by rw [cL];omega
  refine Ok.eq (qy l a hle) (Ok.app (by simp only [List.length_nil];omega) (Ok.app (by rw [List.nil_append];simp only [dN,List.length_nil];omega) (Ok.eq (o9 l a hle) (Ok.app ?_ (Ok.ret ?_)))))
  ·rw [List.nil_append,cZ,iI];simp only [dN,List.length_nil];omega
  ·rw [hout hx];simp
 by_cases hlt:a<l.length
 ·have hx:l[a]? =some l[a]:=aO hlt
  rw [kn hlt,aP,dM hx,aB,aB]
  refine Ok.bif (fun hb=>Ok.ret ?_) (fun hb=>hrest ?_)
  ·rw [beq_iff_eq] at hb
   rw [hin (by rw [hx,hb])]
  ·rw [beq_eq_false_iff_ne] at hb
   rw [hx];intro e;injection e with e;exact hb e
 ·rw [xL (by omega),aR,aB,aR]
  exact hrest (by rw [List.getElem?_eq_none (by omega)];intro e;cases e)
theorem DQ (l m:List aI):jw (l++m)=jw l++jw m:=List.flatMap_append
theorem Aw {l:List aI} (hl:l.length<=268435456) (hN:4398046511104<=N):gU N l=some (kp (jw l)):=by
 refine Ok.get ?_
 unfold gU
 refine Ok.bind (Ok.pr (n:=l.length) (fun s=>s.2) (fun k s=>s.1=kp (jw (l.take k))) (Go:=fun s=>s.1=kp (jw l)) (Rt:=fun _=>False) ?_ ?_ (dH _) rfl rfl (by omega)) ?_
 ·rintro k ⟨out,i⟩ hk e hI
  dsimp only at e hI ⊢
  subst e;subst hI
  rw [kn hk,aP]
  have hx:l[k]? =some l[k]:=aO hk
  have h1:=sI (jw (l.take k))
  rw [jD,cL] at h1
  have h2:=uU (kp (jw (l.take k))) l[k].Y0
  refine Ok.ix hx (Ok.ix hx (Ok.eq (vk (m8 _) (by omega) hN) (Ok.eq (vk (qQ (m8 _)) (by omega) hN) (Ok.nx ⟨bN (by omega),?_⟩))))
  rw [eC hk,DQ]
  exact(uV _ _ _).symm
 ·rintro⟨out,i⟩ e hI
  dsimp only at e hI ⊢
  subst e
  rw [mN,aR]
  exact Ok.br (by rw [eQ] at hI;exact hI)
 intro o ho
 exact Ok.cs ho (fun s hs=>Ok.ret hs) (fun r hr=>hr.elim)
def sp (s:aF):Int×Int:=(s.from_,s.to)
theorem HE: ∀{l m:List aF},l.map sp=m.map sp->l=m
 | [],[],_=>rfl
 | [],_::_,h=>by cases h
 | _::_,[],h=>by cases h
 | ⟨a,b⟩::l,⟨c,d⟩::m,h=>by
  rw [dZ,dZ] at h
  injection h with h1 h2
  unfold sp at h1
  injection h1 with h3 h4
  simp only at h3 h4
  rw [h3,h4,HE h2]
theorem tv (a b:Int): (if b<a then b else a)=min a b:=by split <;> omega
theorem tw (a b:Int): (if a<b then b else a)=max a b:=by split <;> omega
theorem BK {l:List aF} {s:aF} (hl:l.length<=268435456) (hN:4398046511104<=N):Ok (iC N l s) (fun r=>r.map sp=lH (l.map sp) (sp s)):=by
 unfold iC
 have hget: ∀(j:Nat) (x:Int×Int),(l.map sp)[j]? =some x->∃y,l[j]? =some y/\x=sp y:=fun j x h=>by
  rw [gG] at h
  cases hy:l[j]? with
  | none=>rw [hy] at h;cases h
  | some y=>rw [hy] at h;injection h with h;exact⟨y,rfl,h.symm⟩
 refine Ok.bind (Ok.jE (Go:=fun st:List aF×Int=>∃k:Nat,st= (l.take k,((k:Nat):Int))/\k<=l.length/\(∀(j:Nat) x,j<k->l[j]? =some x->x.to<s.from_)/\(∀x,l[k]? =some x->¬x.to<s.from_)) (Rt:=fun _=>False)
  (fun st=>∃k:Nat,st= (l.take k,((k:Nat):Int))/\k<=l.length/\∀(j:Nat) x,j<k->l[j]? =some x->x.to<s.from_) (fun st=>l.length - st.2.toNat) ?_ ⟨0,by simp,by omega,fun j x hj=>by omega⟩ (by simp;omega)) ?_
 ·rintro st ⟨k,rfl,hk,hI⟩
  dsimp only
  by_cases hlt:k<l.length
  ·have hx:l[k]? =some l[k]:=aO hlt
   rw [kn hlt,aP,dM hx,aB,aB]
   refine Ok.bif (fun hb=>?_) (fun hb=>?_)
   ·have hb:=of_decide_eq_true hb
    refine Ok.eq rfl (Ok.app ?_ (Ok.nx ⟨⟨k+1,?_,hlt,?_⟩,?_⟩))
    ·rw [cL];simp only [dN,List.length_nil];omega
    ·rw [bN (by omega),eC hlt]
    ·intro j x hj hx'
     by_cases e:j=k
     ·subst e;rw [hx] at hx';injection hx' with hx';rw [<-hx'];exact hb
     ·exact hI j x (by omega) hx'
    ·rw [bN (by omega)];simp only [cF];omega
   ·have hb:=of_decide_eq_false hb
    exact Ok.br ⟨k,rfl,hk,hI,fun x hx'=>by rw [hx] at hx';injection hx' with hx';rw [<-hx'];exact hb⟩
  ·rw [xL (by omega),aR,aB,aR]
   exact Ok.br ⟨k,rfl,hk,hI,fun x hx'=>by have:=(bB.1 hx').1;omega⟩
 intro o ho
 refine Ok.cs ho ?_ (fun r hr=>hr.elim)
 rintro st ⟨k,rfl,hk,hI,hE⟩
 dsimp only
 obtain⟨e1,e2⟩:=p9 (p:=fun a:Int×Int=>decide (a.2< (sp s).1)) (l:=l.map sp) (k:=k) (fun j x hj hx=>by
  obtain⟨y,hy,rfl⟩:=hget j x hx
  exact bS (hI j y hj hy)) (fun x hx=>by
  obtain⟨y,hy,rfl⟩:=hget k x hx
  exact cD (hE y hy))
 refine Ok.bind (Ok.jE (Go:=fun st:aF×Int=>∃i:Nat,st.2= ((i:Nat):Int)/\i<=l.length/\kr (sp s) ((l.drop k).map sp)= (sp st.1,(l.drop i).map sp)) (Rt:=fun _=>False)
  (fun st=>∃i:Nat,st.2= ((i:Nat):Int)/\i<=l.length/\kr (sp s) ((l.drop k).map sp)=kr (sp st.1) ((l.drop i).map sp)) (fun st=>l.length - st.2.toNat) ?_ ⟨k,rfl,hk,rfl⟩ (by simp only [cF];omega)) ?_
 ·rintro⟨s',i'⟩ ⟨i,e,hi,hm⟩
  dsimp only at e hm ⊢
  subst e
  by_cases hlt:i<l.length
  ·have hx:l[i]? =some l[i]:=aO hlt
   have hd: (l.drop i).map sp=sp l[i]::(l.drop (i+1)).map sp:=by rw [sP hlt,dZ]
   rw [kn hlt,aP,dM hx,aB,aB]
   refine Ok.bif (fun hb=>?_) (fun hb=>?_)
   ·have hb:=of_decide_eq_true hb
    refine Ok.eq rfl (Ok.eq rfl (Ok.nx ⟨⟨i+1,bN (by omega),hlt,?_⟩,?_⟩))
    ·rw [hm,hd]
     conv=>lhs;unfold kr
     rw [aC (show (sp l[i]).1<=(sp s').2 from hb),tv,tw]
     rfl
    ·dsimp only;rw [bN (by omega)];simp only [cF];omega
   ·have hb:=of_decide_eq_false hb
    refine Ok.br ⟨i,rfl,hi,?_⟩
    rw [hm,hd]
    conv=>lhs;unfold kr
    rw [aG (show ¬(sp l[i]).1<=(sp s').2 from hb)]
  ·rw [xL (by omega),aR,aB,aR]
   refine Ok.br ⟨i,rfl,hi,?_⟩
   rw [hm,List.drop_eq_nil_of_le (by omega)];rfl
 intro o ho
 refine Ok.cs ho ?_ (fun r hr=>hr.elim)
 rintro⟨s',i'⟩ ⟨i,e,hi,hm⟩
 dsimp only at e hm ⊢
 subst e
 refine Ok.app ?_ (Ok.eq (o9 l i hi) (Ok.app ?_ (Ok.ret ?_)))
 ·rw [cL];simp only [dN,List.length_nil];omega
 ·rw [cZ,cL,iI];simp only [dN,List.length_nil];omega
 ·unfold lH
  rw [e1,e2,<-List.map_take,<-List.map_drop,hm]
  simp
theorem Ax: ∀(l:List (Int×Int)) (s:Int×Int),(kr s l).2.length<=l.length
 | [],s=>bU _
 | a::l,s=>by
  unfold kr
  split
  ·have:=Ax l (min s.1 a.1,max s.2 a.2)
   rw [dN];omega
  ·exact bU _
theorem yV (l:List (Int×Int)) (s:Int×Int): (lH l s).length<=l.length+1:=by
 unfold lH
 have h1:=Ax (l.dropWhile fun a=>decide (a.2<s.1)) s
 have h2: (l.takeWhile (fun x=>decide (x.2<s.1))).length+ (l.dropWhile (fun x=>decide (x.2<s.1))).length=l.length:=by rw [<-cZ,List.takeWhile_append_dropWhile]
 rw [cZ,dN];omega
def jM (y:Int) (out:List (Int×Int)) (r:aI):List (Int×Int):=if r.Y0<=y/\y<r.Y1 then lH out (r.X0,r.X1) else out
def kP (l:List aI) (y:Int):List (Int×Int):=l.foldl (jM y) []
theorem Gf (l:List aI) (r:aI) (y:Int):kP (l++[r]) y=jM y (kP l y) r:=by unfold kP;rw [List.foldl_append];rfl
theorem yW (y:Int): ∀(l:List aI) (out:List (Int×Int)),(l.foldl (jM y) out).length<=out.length+l.length
 | [],out=>by simp
 | r::l,out=>by
  rw [List.foldl_cons,dN]
  have h1:=yW y l (jM y out r)
  have h2: (jM y out r).length<=out.length+1:=by
   unfold jM
   split
   ·exact yV _ _
   ·omega
  omega
theorem qR (l:List aI) (y:Int): (kP l y).length<=l.length:=by
 have:=yW y l []
 unfold kP;simpa using this
theorem xN (y:Int): ∀(l:List aI) (out:List (Int×Int)),(∀r∈l,r.X0<r.X1)->jd (dD out)->jd (dD (l.foldl (jM y) out))/\∀x,jq (l.foldl (jM y) out) x= (jq out x||sj l x y)
 | [],out,_,h=>⟨h,fun x=>by simp [sj]⟩
 | r::l,out,hr,h=>by
  have h0:=hr r (by simp)
  rw [List.foldl_cons]
  have hst:jd (dD (jM y out r))/\∀x,jq (jM y out r) x= (jq out x||((decide (r.X0<=x)&&decide (x<r.X1))&&(decide (r.Y0<=y)&&decide (y<r.Y1)))):=by
   unfold jM
   by_cases hy:r.Y0<=y/\y<r.Y1
   ·rw [aC hy]
    obtain⟨j1,j2⟩:=xx (l:=out) (s:=(r.X0,r.X1)) h h0
    refine⟨j1,fun x=>?_⟩
    rw [j2,bS hy.1,bS hy.2,Bool.or_comm];simp
   ·rw [aG hy]
    refine⟨h,fun x=>?_⟩
    have: (decide (r.Y0<=y)&&decide (y<r.Y1))=false:=by rw [Bool.and_eq_false_iff,decide_eq_false_iff_not,decide_eq_false_iff_not];omega
    rw [this];simp
  obtain⟨m1,m2⟩:=xN y l (jM y out r) (fun r' hr'=>hr r' (hZ _ hr')) hst.1
  refine⟨m1,fun x=>?_⟩
  rw [m2,hst.2,Bool.or_assoc];rfl
theorem sJ {l:List aI} (h: ∀r∈l,r.X0<r.X1) (y:Int):jd (dD (kP l y))/\∀x,jq (kP l y) x=sj l x y:=by
 obtain⟨h1,h2⟩:=xN y l [] h jG
 exact⟨h1,fun x=>by rw [show jq (kP l y) x=_ from h2 x,show jq [] x=false from rfl,Bool.false_or]⟩
theorem vS {y y':Int}: ∀(l:List aI) (out:List (Int×Int)),(∀r∈l,(r.Y0<=y/\y<r.Y1)↔(r.Y0<=y'/\y'<r.Y1))->l.foldl (jM y) out=l.foldl (jM y') out
 | [],out,_=>rfl
 | r::l,out,h=>by
  rw [List.foldl_cons,List.foldl_cons,vS l _ (fun r' hr'=>h r' (hZ _ hr'))]
  congr 1
  unfold jM
  have:=h r (by simp)
  by_cases h1:r.Y0<=y/\y<r.Y1
  ·rw [aC h1,aC (this.1 h1)]
  ·rw [aG h1,aG (fun h2=>h1 (this.2 h2))]
theorem EJ {l:List aI} {y y':Int} (h: ∀r∈l,(r.Y0<=y/\y<r.Y1)↔(r.Y0<=y'/\y'<r.Y1)):kP l y=kP l y':=vS l [] h
theorem HF {l:List aI} {y:Int} (h: ∀r∈l,¬(r.Y0<=y/\y<r.Y1)):kP l y= []:=by
 have: ∀(l:List aI) (out:List (Int×Int)),(∀r∈l,¬(r.Y0<=y/\y<r.Y1))->l.foldl (jM y) out=out:=by
  intro l
  induction l with
  | nil=>intro out _;rfl
  | cons r l ih=>
   intro out h
   rw [List.foldl_cons,ih _ (fun r' hr'=>h r' (hZ _ hr'))]
   unfold jM;rw [aG (h r (by simp))]
 exact this l [] h
theorem Ct {l:List aI} {y:Int} (hl:l.length<=134217728) (hN:4398046511104<=N):Ok (gT N l y) (fun r=>r.map sp=kP l y):=by
 unfold gT
 refine Ok.bind (Ok.pr (n:=l.length) (fun s=>s.2) (fun k s=>s.1.map sp=kP (l.take k) y) (Go:=fun s=>s.1.map sp=kP l y) (Rt:=fun _=>False) ?_ ?_ (dH _) rfl rfl (by omega)) ?_
 ·rintro k ⟨out,i⟩ hk e hI
  dsimp only at e hI ⊢
  subst e
  rw [kn hk,aP]
  have hx:l[k]? =some l[k]:=aO hk
  have hlen:out.length<=l.length:=by
   have h1:=qR (l.take k) y
   rw [<-hI,cV,cL] at h1;omega
  rw [dM hx,aB]
  have hst:kP (l.take (k+1)) y=jM y (kP (l.take k) y) l[k]:=by rw [eC hk,Gf]
  have hno: ¬(l[k].Y0<=y/\y<l[k].Y1)->Ok ((some out).bind fun s141=>some (Fl.nx (s141,IntKind.wrap .i64 (((k:Nat):Int)+1)):Fl (List aF×Int) Empty)) (HV (fun s'=>s'.2= ((k+1:Nat):Int)/\s'.1.map sp=kP (l.take (k+1)) y) (fun s=>s.1.map sp=kP l y) (fun _=>False)):=fun hy=>by
   rw [aB]
   refine Ok.nx ⟨bN (by omega),?_⟩
   rw [hst];unfold jM;rw [aG hy];exact hI
  by_cases h1:l[k].Y0<=y
  ·rw [bS h1,aP,aB,aB]
   by_cases h2:y<l[k].Y1
   ·rw [bS h2,aP]
    refine Ok.bind (P:=fun r:List aF=>r.map sp=kP (l.take (k+1)) y) (Ok.eq rfl (Ok.eq rfl (Ok.bind (BK (by omega) hN) (fun r hr=>Ok.ret ?_)))) (fun r hr=>Ok.nx ⟨bN (by omega),hr⟩)
    rw [hr,hI,hst];unfold jM;rw [aC ⟨h1,h2⟩];rfl
   ·rw [cD h2,aR]
    exact hno (fun h=>h2 h.2)
  ·rw [cD h1,aR,aB,aR]
   exact hno (fun h=>h1 h.1)
 ·rintro⟨out,i⟩ e hI
  dsimp only at e hI ⊢
  subst e
  rw [mN,aR]
  exact Ok.br (by rw [eQ] at hI;exact hI)
 intro o ho
 exact Ok.cs ho (fun s hs=>Ok.ret hs) (fun r hr=>hr.elim)
theorem yy {l:List aF} {x:Int} (hl:l.length<=1099511627776) (hN:4398046511104<=N):gw N l x=some (jq (l.map sp) x):=by
 refine Ok.get ?_
 unfold gw
 have hm: ∀b:Bool,(jq (l.map sp) x=b↔(l.any fun s=>decide (s.from_<=x)&&decide (x<s.to))=b):=fun b=>by unfold jq;rw [List.any_map];rfl
 refine Ok.bind (Ok.pr (n:=l.length) (fun s=>s) (fun k s=>∀(j:Nat) y,j<k->l[j]? =some y->¬(y.from_<=x/\x<y.to)) (Go:=fun s=>jq (l.map sp) x=false) (Rt:=fun r=>r=jq (l.map sp) x) ?_ ?_ (dH _) rfl (fun j y hj=>by omega) (by omega)) ?_
 ·rintro k i hk e hI
  subst e
  rw [kn hk,aP]
  have hx:l[k]? =some l[k]:=aO hk
  rw [dM hx,aB]
  have hno: ¬(l[k].from_<=x/\x<l[k].to)->Ok (some (Fl.nx (IntKind.wrap .i64 (((k:Nat):Int)+1)):Fl Int Bool)) (HV (fun s'=>s'= ((k+1:Nat):Int)/\∀(j:Nat) y,j<k+1->l[j]? =some y->¬(y.from_<=x/\x<y.to)) (fun s=>jq (l.map sp) x=false) (fun r=>r=jq (l.map sp) x)):=fun hy=>Ok.nx ⟨bN (by omega),fun j y hj hjy=>by
   by_cases e:j=k
   ·subst e;rw [hx] at hjy;injection hjy with hjy;rw [<-hjy];exact hy
   ·exact hI j y (by omega) hjy⟩
  by_cases h1:l[k].from_<=x
  ·rw [bS h1,aP,aB,aB]
   by_cases h2:x<l[k].to
   ·rw [bS h2,aP]
    refine Ok.rt ?_
    symm;rw [hm,kW]
    exact⟨l[k],cN hk,by rw [bS h1,bS h2];rfl⟩
   ·rw [cD h2,aR];exact hno (fun h=>h2 h.2)
  ·rw [cD h1,aR,aB,aR];exact hno (fun h=>h1 h.1)
 ·rintro i e hI
  subst e
  rw [mN,aR]
  refine Ok.br ?_
  rw [hm,List.any_eq_false]
  intro y hy
  obtain⟨j,hj⟩:=dV hy
  have:=hI j y (bB.1 hj).1 hj
  rw [jU,Bool.and_eq_false_iff,decide_eq_false_iff_not,decide_eq_false_iff_not];omega
 intro o ho
 exact Ok.cs ho (fun s hs=>Ok.ret hs.symm) (fun r hr=>Ok.ret hr)
end
end Go.Gk
namespace Go.Gk
open Go Classical
section
variable {α:Type} [DecidableEq α] {N:Nat}
def Jh (N:Nat) (p0 p1:List α):Option Bool:=
 bif ((p0.length:Int) != (p1.length:Int)) then (some false) else ((jE (fun(s32:Int)=>(bif (decide (s32< (p0.length:Int))) then ((idx p0 s32).bind fun x45=>(idx p1 s32).bind fun x48=>bif (!(decide (x45=x48))) then (some (.rt false)) else (some (.nx (IntKind.wrap .i64 (s32+1))))) else (some (.br s32)):Option (Fl (Int) Bool))) N 0).bind fun o51=>o51.cs (fun(s32:Int)=>some true) (fun r=>some r))
theorem DR {l m:List α} (hl:l.length<=1099511627776) (hN:4398046511104<=N):Jh N l m=some (decide (l=m)):=by
 refine Ok.get ?_
 unfold Jh
 by_cases he:l.length=m.length
 ·rw [show ((((l.length:Nat):Int)) != ((m.length:Nat):Int))=false by rw [he];simp,aR]
  refine Ok.bind (Ok.pr (n:=l.length) (fun s=>s) (fun k s=>∀j,j<k->l[j]? =m[j]?) (Go:=fun s=>l=m) (Rt:=fun r=>r=false/\l≠m) ?_ ?_ (dH _) rfl (fun j hj=>by omega) (by omega)) ?_
  ·rintro k i hk e hI
   subst e
   have hx:l[k]? =some l[k]:=aO hk
   have hy:m[k]? =some (m[k]'(by omega)):=aO _
   rw [kn hk,aP]
   refine Ok.ix hx (Ok.ix hy (Ok.bif (fun hb=>Ok.rt ⟨rfl,fun e=>?_⟩) (fun hb=>Ok.nx ⟨bN (by omega),fun j hj=>?_⟩)))
   ·have h1:some l[k]=some (m[k]'(by omega)):=hx.symm.trans ((by rw [e]:l[k]? =m[k]?).trans hy)
    injection h1 with h1
    rw [h1] at hb;simp at hb
   ·by_cases e:j=k
    ·subst e;rw [hx,hy];simpa using hb
    ·exact hI j (by omega)
  ·rintro i e hI
   subst e
   rw [mN,aR]
   refine Ok.br (List.ext_getElem? fun j=>?_)
   by_cases hj:j<l.length
   ·exact hI j hj
   ·rw [List.getElem?_eq_none (by omega),List.getElem?_eq_none (by omega)]
  intro o ho
  exact Ok.cs ho (fun s hs=>Ok.ret (bS hs).symm) (fun r hr=>Ok.ret (by rw [hr.1,cD hr.2]))
 ·rw [show ((((l.length:Nat):Int)) != ((m.length:Nat):Int))=true by rw [bne_iff_ne];omega,aP]
  exact Ok.ret (cD fun h=>he (by rw [h])).symm
end
section
variable {N:Nat}
theorem Cu {l m:List aI} (hl:l.length<=1099511627776) (hN:4398046511104<=N):jK N l m=some (decide (l=m)):=DR hl hN
theorem Cv {l m:List aF} (hl:l.length<=1099511627776) (hN:4398046511104<=N):jJ N l m=some (decide (l=m)):=DR hl hN
def rN (b:aL):Bd:=⟨b.from_,b.to,dD (b.iZ.map sp)⟩
theorem Gg {l:List (Int×Int)}:dD l= []↔l= []:=by
 cases l with
 | nil=>exact⟨fun _=>rfl,fun _=>rfl⟩
 | cons s l=>exact⟨fun h=>(by cases h),fun h=>(by cases h)⟩
theorem Gh {l m:List aF}:dD (l.map sp)=dD (m.map sp)↔l=m:=⟨fun h=>HE (BA h),fun h=>by rw [h]⟩
theorem EK {l:List aL} {b:aL} (hlt:b.from_<b.to) (hl:l.length<=1073741824) (hs: ∀c∈l,c.iZ.length<=1099511627776) (hN:4398046511104<=N):
  Ok (fY N l b) (fun r=>r.map rN=jL (l.map rN) (rN b)):=by
 unfold fY jL
 by_cases h0:b.iZ= []
 ·rw [show (((b.iZ.length:Nat):Int)==0)=true by rw [h0];rfl,aP,aC (.inl (by unfold rN;rw [h0];rfl))]
  exact Ok.ret rfl
 ·rw [show (((b.iZ.length:Nat):Int)==0)=false by rw [beq_eq_false_iff_ne];intro h;exact h0 (List.eq_nil_of_length_eq_zero (by omega)),aR]
  have hne: ¬((rN b).xs= []\/(rN b).y1<=(rN b).y0):=by
   rintro(h | h)
   ·have h:=Gg.1 h
    exact h0 (List.map_eq_nil_iff.1 h)
   ·have h:b.to<=b.from_:=h
    omega
  rw [aG hne]
  rcases List.eq_nil_or_concat l with rfl | ⟨A,c,hA⟩
  ·rw [show decide (((([]:List aL).length:Nat):Int)>0)=false by decide,aR,aB,aR]
   exact Ok.app (by simp) (Ok.ret rfl)
  ·rw [List.concat_eq_append] at hA
   subst hA
   have hlen: (A++[c]).length=A.length+1:=by simp
   have hwp:IntKind.wrap .i64 ((((A++[c]).length:Nat):Int) - 1)= ((A.length:Nat):Int):=by rw [z8 (by omega) (by omega),hlen];rfl
   have hlast: (A++[c])[A.length]? =some c:=by simp
   rw [hwp,bS (by omega),aP,dM hlast,aB,aB,Cv (by have:=hs c (by simp);omega) hN,aB,aB,cF]
   have hl2: ((A++[c]).map rN).getLast? =some (rN c):=by simp
   have hd2: ((A++[c]).map rN).dropLast=A.map rN:=by simp
   rw [hl2,hd2]
   dsimp only
   by_cases h1:c.to=b.from_/\c.iZ=b.iZ
   ·rw [aC (show (rN c).y1= (rN b).y0/\(rN c).xs= (rN b).xs from ⟨h1.1,by unfold rN;rw [h1.2]⟩),show (c.to==b.from_)=true by rw [h1.1];simp,aP,bS h1.2,aB,aP]
    refine Ok.ret ?_
    rw [List.set_append_right _ _ (bU _),Nat.sub_self]
    simp [rN]
   ·rw [aG (show ¬((rN c).y1= (rN b).y0/\(rN c).xs= (rN b).xs) from fun h=>h1 ⟨h.1,Gh.1 h.2⟩)]
    have e2: (bif (c.to==b.from_) then (some (decide (c.iZ=b.iZ))) else (some false))=some false:=by
     by_cases h2:c.to=b.from_
     ·rw [show (c.to==b.from_)=true by rw [h2];simp,aP,cD (fun h=>h1 ⟨h2,h⟩)]
     ·rw [show (c.to==b.from_)=false by simpa using h2,aR]
    rw [e2,aB,aR]
    exact Ok.app (by rw [hlen];simp;omega) (Ok.ret (by simp))
theorem HG {s:List Bd} {b c:Bd} (h:c∈jL s b):c.xs=b.xs\/∃d∈s,c.xs=d.xs:=by
 unfold jL at h
 split at h
 ·exact .inr ⟨c,h,rfl⟩
 ·split at h
  ·rename_i d hd
   split at h
   ·rcases cY.1 h with h | h
    ·exact .inr ⟨c,List.dropLast_subset _ h,rfl⟩
    ·simp at h
     exact .inr ⟨d,List.mem_of_getLast? hd,by rw [h]⟩
   ·rcases cY.1 h with h | h
    ·exact .inr ⟨c,h,rfl⟩
    ·simp at h;exact .inl (by rw [h])
  ·simp at h;exact .inl (by rw [h])
theorem qd {f:Int->List Int} {B:Nat} (hf: ∀y,(f y).length<=B): ∀(ss:List (Int×Int)) (out:List Bd),(∀c∈out,c.xs.length<=B)->(∀c∈l7 f ss out,c.xs.length<=B)/\(l7 f ss out).length<=out.length+ss.length
 | [],out,h=>⟨h,by simp [l7]⟩
 | s::ss,out,h=>by
  obtain⟨h1,h2⟩:=qd hf ss (jL out ⟨s.1,s.2,f s.1⟩) (fun c hc=>by
   rcases HG hc with h3 | ⟨d,hd,h3⟩
   ·rw [h3];exact hf _
   ·rw [h3];exact h d hd)
  refine⟨h1,?_⟩
  have:=F3 out ⟨s.1,s.2,f s.1⟩
  show (l7 f ss (jL out ⟨s.1,s.2,f s.1⟩)).length<=_
  rw [dN];omega
theorem mO: ∀(ys:List Int),(kg ys).length=ys.length - 1
 | []=>rfl
 | [_]=>rfl
 | a::b::l=>by
  show (kg (b::l)).length+1=_
  rw [mO (b::l)];simp
theorem Ay: ∀(ys:List Int) (k:Nat) (h:k+1<ys.length),(kg ys)[k]? =some (ys[k],ys[k+1])
 | [],k,h=>by simp at h
 | [_],k,h=>by simp at h
 | a::b::l,0,h=>rfl
 | a::b::l,k+1,h=>by
  have:=Ay (b::l) k (by simp at h ⊢;omega)
  show (kg (b::l))[k]? =_
  rw [this];rfl
theorem DS (f:Int->List Int) (ss:List (Int×Int)) (s:Int×Int) (out:List Bd):l7 f (ss++[s]) out=jL (l7 f ss out) ⟨s.1,s.2,f s.1⟩:=by unfold l7;rw [List.foldl_append];rfl
theorem Az {ys:List Int} (hy:jd ys) {f:Int->List Int} {B:Nat} (hf: ∀y,(f y).length<=B) (hB:B<=1099511627776) (hys:ys.length<=1073741824) {out:List aL} {k:Nat} (h1:1<=k) (hk:k<ys.length)
  (hI:out.map rN=l7 f ((kg ys).take (k - 1)) []) {r:List aF} (hr:dD (r.map sp)=f (ys[k - 1]'(by omega))) (hN:4398046511104<=N):
  Ok (fY N out ⟨ys[k - 1]'(by omega),ys[k],r⟩) (fun o=>o.map rN=l7 f ((kg ys).take k) []):=by
 have hlt:ys[k - 1]'(by omega)<ys[k]:=mR.1 hy (k - 1) k (by omega) hk (by omega)
 obtain⟨s1,s2⟩:=qd hf ((kg ys).take (k - 1)) [] (fun c hc=>by cases hc)
 have hol:out.length<=ys.length:=by
  have: (out.map rN).length<=ys.length:=by
   rw [hI]
   have h3:=mO ys
   rw [cL] at s2
   simp only [List.length_nil] at s2;omega
  rwa [cV] at this
 refine(EK hlt (by omega) (fun c hc=>?_) hN).mono fun o ho=>?_
 ·have h3: (rN c).xs.length<=B:=s1 _ (by rw [<-hI];exact dG.2 ⟨c,hc,rfl⟩)
  have h4: (rN c).xs.length=2*c.iZ.length:=by unfold rN;rw [j4,cV]
  omega
 ·have hg:=Ay ys (k - 1) (by omega)
  have hts: (kg ys).take k= (kg ys).take (k - 1)++[(ys[k - 1]'(by omega),ys[k])]:=by
   have hl:k - 1< (kg ys).length:=by rw [mO];omega
   have e:=eC hl
   rw [show k - 1+1=k by omega] at e
   rw [e]
   congr 1
   rw [aO hl] at hg
   injection hg with hg
   rw [hg];simp only [show k - 1+1=k by omega]
  rw [ho,hI,hts,DS]
  congr 1
  unfold rN
  simp only [hr]
def pL (b:aL):List aI:=b.iZ.map fun s=>⟨s.from_,b.from_,s.to,b.to⟩
def lJ (l:List aL):List aI:=l.flatMap pL
theorem DT: ∀(l:List (Int×Int)),Aa (dD l)=l
 | []=>rfl
 | s::l=>by rw [jr];show (s.1,s.2)::Aa (dD l)=_;rw [DT l]
theorem yz: ∀{l:List aL} {s:List aA},l.map rN=s.map bY->lJ l=aS s
 | [],[],_=>rfl
 | [],_::_,h=>by cases h
 | _::_,[],h=>by cases h
 | b::l,c::s,h=>by
  rw [dZ,dZ] at h
  injection h with h1 h2
  have e:=yz h2
  show pL b++lJ l=mG c++aS s
  rw [e]
  congr 1
  unfold rN bY at h1
  injection h1 with g1 g2 g3
  unfold pL mG
  rw [<-g3,DT,g1,g2,List.map_map]
  rfl
theorem DU (l:List aL) (b:aL):lJ (l++[b])=lJ l++pL b:=by unfold lJ;rw [List.flatMap_append];simp
theorem Fz {l:List aL} (hl:l.length<=1099511627776) (hs: ∀b∈l,b.iZ.length<=1099511627776) (hr: (lJ l).length<=1099511627776) (hN:4398046511104<=N):jh N l=some (lJ l):=by
 refine Ok.get ?_
 unfold jh
 refine Ok.bind (Ok.pr (n:=l.length) (fun s=>s.2) (fun k s=>s.1=lJ (l.take k)) (Go:=fun s=>s.1=lJ l) (Rt:=fun _=>False) ?_ ?_ (dH _) rfl rfl (by omega)) ?_
 ·rintro k ⟨out,i⟩ hk e hI
  dsimp only at e hI ⊢
  subst e;subst hI
  rw [kn hk,aP]
  have hx:l[k]? =some l[k]:=aO hk
  have hsl:=hs _ (cN hk)
  have hts:lJ (l.take (k+1))=lJ (l.take k)++pL l[k]:=by rw [eC hk,DU]
  have hlen: (lJ (l.take k)).length+l[k].iZ.length<=(lJ l).length:=by
   have h1: (lJ l).length= (lJ (l.take (k+1))).length+ (lJ (l.drop (k+1))).length:=by
    rw [<-cZ];unfold lJ;rw [<-List.flatMap_append,List.take_append_drop]
   have h2: (pL l[k]).length=l[k].iZ.length:=by unfold pL;rw [cV]
   rw [hts,cZ,h2] at h1;omega
  refine Ok.bind (Ok.pr (n:=l[k].iZ.length) (fun s=>s.2) (fun j s=>s.1=lJ (l.take k)++(pL l[k]).take j) (Go:=fun s=>s.1=lJ (l.take (k+1))) (Rt:=fun _=>False) ?_ ?_ (dH _) rfl (by simp) (by omega)) ?_
  ·rintro j ⟨o2,i2⟩ hj e hI
   dsimp only at e hI ⊢
   subst e;subst hI
   have hy:l[k].iZ[j]? =some l[k].iZ[j]:=aO hj
   have hjr:j< (pL l[k]).length:=by unfold pL;rw [cV];exact hj
   refine Ok.ix hx ?_
   rw [kn hj,aP]
   refine Ok.ix hx (Ok.ix hy (Ok.ix hx (Ok.ix hx (Ok.ix hy (Ok.ix hx (Ok.app ?_ (Ok.nx ⟨bN (by omega),?_⟩)))))))
   ·rw [cZ,cL];simp only [dN,List.length_nil];omega
   ·dsimp only
    rw [kC]
    congr 1
    rw [eC hjr]
    congr 1
    simp [pL]
  ·rintro⟨o2,i2⟩ e hI
   dsimp only at e hI ⊢
   subst e;subst hI
   refine Ok.ix hx ?_
   rw [mN,aR]
   refine Ok.br ?_
   dsimp only
   rw [hts]
   congr 1
   exact kV (by unfold pL;rw [cV];omega)
  intro o ho
  exact Ok.cs ho (fun s hs=>Ok.nx ⟨bN (by omega),hs⟩) (fun r hr=>hr.elim)
 ·rintro⟨out,i⟩ e hI
  dsimp only at e hI ⊢
  subst e
  rw [mN,aR]
  exact Ok.br (by rw [eQ] at hI;exact hI)
 intro o ho
 exact Ok.cs ho (fun s hs=>Ok.ret hs) (fun r hr=>hr.elim)
theorem yA {l:List aI} {ys:List Int} (hm: ∀r∈l,r.Y0∈ys/\r.Y1∈ys) {s:Int×Int} {y:Int} (hs:s∈kg ys) (hy:jd ys) (h1:s.1<=y) (h2:y<s.2):kP l y=kP l s.1:=EJ fun r hr=>by
 obtain⟨m1,m2⟩:=hm r hr
 obtain⟨_,_,_,h⟩:=qo hy s hs
 rcases h _ m1 with h3 | h3 <;> rcases h _ m2 with h4 | h4 <;> constructor <;> intro h5 <;> omega
theorem Cw {l:List aI} {ys:List Int} (hm: ∀r∈l,r.Y0∈ys/\r.Y1∈ys) {y:Int} (h: (∀c∈ys,y<c)\/(∀c∈ys,c<=y)):kP l y= []:=HF fun r hr hc=>by
 obtain⟨m1,m2⟩:=hm r hr
 rcases h with h | h
 ·have:=h _ m1;omega
 ·have:=h _ m2;omega
theorem Cx {l:List aI}: ∀r∈l,r.Y0∈kp (jw l)/\r.Y1∈kp (jw l):=fun r hr=>⟨yx.2 (lu.2 ⟨r,hr, .inl rfl⟩),yx.2 (lu.2 ⟨r,hr, .inr rfl⟩)⟩
theorem HH (l:List aI): (kp (jw l)).length<=2*l.length:=by
 have:=sI (jw l)
 rwa [jD] at this
theorem tx {l:List aI} {s:List aA} (hc:eT (s.map bY)) (hcov: ∀x y,t5 (s.map bY) x y=sj l x y) (hl:l.length<=10000000) (hok: ∀r∈l,r.X0<r.X1) (hr: (aS s).length<=1099511627776) (hN:4398046511104<=N):
  eX N l=some (aS s):=by
 refine Ok.get ?_
 unfold eX
 refine Ok.eq (Aw (by omega) hN) ?_
 have hyl:=HH l
 have hyi:=m8 (jw l)
 have hf: ∀y,jd (dD (kP l y))/\(dD (kP l y)).length % 2=0:=fun y=>⟨(sJ hok y).1,by rw [j4];omega⟩
 have hfl: ∀y,(dD (kP l y)).length<=20000000:=fun y=>by rw [j4];have:=qR l y;omega
 obtain⟨b1,b2⟩:=yP (f:=fun y=>dD (kP l y)) hf hyi (fun t ht y h1 h2=>by (try dsimp only);rw [yA Cx ht hyi h1 h2]) (fun y h=>by (try dsimp only);rw [Cw Cx h];rfl)
 have hsame:l7 (fun y=>dD (kP l y)) (kg (kp (jw l))) []=s.map bY:=tk b1 hc fun x y=>by
  rw [hcov];unfold t5;rw [b2,sq (hf y).1,(sJ hok y).2]
 have hmy:= @Cx l
 generalize kp (jw l)=ys at *
 refine Ok.bind (Ok.pr (n:=max 1 ys.length) (fun s=>s.2) (fun k st=>1<=k/\st.1.map rN=l7 (fun y=>dD (kP l y)) ((kg ys).take (k - 1)) []) (Go:=fun st=>st.1.map rN=s.map bY) (Rt:=fun _=>False) ?_ ?_ (k0:=1) (by omega) rfl ⟨bU _,rfl⟩ (by omega)) ?_
 ·rintro k ⟨out,i⟩ hk e ⟨hk1,hI⟩
  dsimp only at e hI ⊢
  subst e
  have hk2:k<ys.length:=by omega
  rw [kn hk2,aP,jm hk1 (by omega)]
  refine Ok.idx (by omega) (Ok.idx hk2 (Ok.idx (by omega) (Ok.bind (Ct (by omega) hN) fun r hr=>Ok.bind (Az hyi (f:=fun y=>dD (kP l y)) hfl (by omega) (by omega) hk1 hk2 hI (by (try dsimp only);rw [hr]) hN) fun o ho=>Ok.nx ⟨bN (by omega),by omega,?_⟩)))
  rw [Nat.add_sub_cancel];exact ho
 ·rintro⟨out,i⟩ e ⟨hk1,hI⟩
  dsimp only at e hI ⊢
  subst e
  rw [xL (by omega),aR]
  refine Ok.br ?_
  rw [kV (by rw [mO];omega),hsame] at hI
  exact hI
 intro o ho
 refine Ok.cs ho (fun st hs=>?_) (fun r hr=>hr.elim)
 have e:=yz hs
 obtain⟨s1,s2⟩:=qd (f:=fun y=>dD (kP l y)) hfl (kg ys) [] (fun c hc=>by cases hc)
 refine Ok.eq (Fz (l:=st.1) ?_ ?_ (by rw [e];exact hr) hN) (Ok.ret e)
 ·have: (st.1.map rN).length<=ys.length:=by rw [hs,<-hsame];have:=mO ys;simp only [List.length_nil] at s2;omega
  rw [cV] at this;omega
 ·intro b hb
  have h3:=s1 (rN b) (by rw [hsame,<-hs];exact dG.2 ⟨b,hb,rfl⟩)
  have h4: (rN b).xs.length=2*b.iZ.length:=by unfold rN;rw [j4,cV]
  omega
def qS (w:Int) (p q:Bool):Bool:=((((w==1)&&(p||q))||(((w==2)&&p)&&q))||(((w==3)&&p)&&(!q)))
theorem HI (w:Int):qS w false false=false:=by unfold qS;simp
theorem yX (gO:Bool->Bool->Bool) (a b ss:List (Int×Int)) (s:Int×Int) (out:List (Int×Int)):l6 gO a b (ss++[s]) out=if gO (jq a s.1) (jq b s.1)=true then lH (l6 gO a b ss out) s else l6 gO a b ss out:=by unfold l6;rw [List.foldl_append];rfl
theorem wB (gO:Bool->Bool->Bool) (a b:List (Int×Int)): ∀(ss out:List (Int×Int)),(l6 gO a b ss out).length<=out.length+ss.length
 | [],out=>by simp [l6]
 | s::ss,out=>by
  have h1:=wB gO a b ss (if gO (jq a s.1) (jq b s.1)=true then lH out s else out)
  have h2: (if gO (jq a s.1) (jq b s.1)=true then lH out s else out).length<=out.length+1:=by
   split
   ·exact yV _ _
   ·omega
  show (l6 gO a b ss (if gO (jq a s.1) (jq b s.1)=true then lH out s else out)).length<=_
  rw [dN];omega
def yY (a b:List (Int×Int)):List Int:=kp (dD a++dD b)
theorem BL (a b:List (Int×Int)): (yY a b).length<=2*a.length+2*b.length:=by
 have:=sI (dD a++dD b)
 rw [cZ,j4,j4] at this
 exact this
theorem HJ {a b:List aF} {w:Int} (ha:a.length<=10000000) (hb:b.length<=10000000) (hN:4398046511104<=N):
  Ok (jQ N a b w) (fun r=>r.map sp=l6 (qS w) (a.map sp) (b.map sp) (kg (yY (a.map sp) (b.map sp))) []):=by
 unfold jQ
 have hfl: ∀(l:List aF),(kp (dD (l.map sp))).length<=2*l.length:=fun l=>by
  have:=sI (dD (l.map sp))
  rwa [j4,cV] at this
 refine Ok.bind (Ok.pr (n:=a.length) (fun s=>s.2) (fun k s=>s.1=kp (dD ((a.take k).map sp))) (Go:=fun s=>s.1=kp (dD (a.map sp))) (Rt:=fun _=>False) ?_ ?_ (dH _) rfl rfl (by omega)) ?_
 ·rintro k ⟨out,i⟩ hk e hI
  dsimp only at e hI ⊢
  subst e;subst hI
  rw [kn hk,aP]
  have hx:a[k]? =some a[k]:=aO hk
  have h1:=hfl (a.take k)
  rw [cL] at h1
  have h2:=uU (kp (dD ((a.take k).map sp))) a[k].from_
  refine Ok.ix hx (Ok.ix hx (Ok.eq (vk (m8 _) (by omega) hN) (Ok.eq (vk (qQ (m8 _)) (by omega) hN) (Ok.nx ⟨bN (by omega),?_⟩))))
  rw [eC hk,dP,tm]
  exact(uV _ _ _).symm
 ·rintro⟨out,i⟩ e hI
  dsimp only at e hI ⊢
  subst e
  rw [mN,aR]
  exact Ok.br (by rw [eQ] at hI;exact hI)
 intro o ho
 refine Ok.cs ho ?_ (fun r hr=>hr.elim)
 rintro⟨xa,ia⟩ hxa
 dsimp only at hxa ⊢
 subst hxa
 refine Ok.bind (Ok.pr (n:=b.length) (fun s=>s.2) (fun k s=>s.1=kp (dD (a.map sp)++dD ((b.take k).map sp))) (Go:=fun s=>s.1=yY (a.map sp) (b.map sp)) (Rt:=fun _=>False) ?_ ?_ (dH _) rfl (by simp [dD]) (by omega)) ?_
 ·rintro k ⟨out,i⟩ hk e hI
  dsimp only at e hI ⊢
  subst e;subst hI
  rw [kn hk,aP]
  have hx:b[k]? =some b[k]:=aO hk
  have h1:=sI (dD (a.map sp)++dD ((b.take k).map sp))
  rw [cZ,j4,j4,cV,cV,cL] at h1
  have h2:=uU (kp (dD (a.map sp)++dD ((b.take k).map sp))) b[k].from_
  refine Ok.ix hx (Ok.ix hx (Ok.eq (vk (m8 _) (by omega) hN) (Ok.eq (vk (qQ (m8 _)) (by omega) hN) (Ok.nx ⟨bN (by omega),?_⟩))))
  rw [eC hk,dP,tm,<-kC]
  exact(uV _ _ _).symm
 ·rintro⟨out,i⟩ e hI
  dsimp only at e hI ⊢
  subst e
  rw [mN,aR]
  exact Ok.br (by rw [eQ] at hI;exact hI)
 intro o ho
 refine Ok.cs ho ?_ (fun r hr=>hr.elim)
 rintro⟨xs,ix⟩ hxs
 dsimp only at hxs ⊢
 have hxl:=BL (a.map sp) (b.map sp)
 rw [<-hxs,cV,cV] at hxl
 rw [<-hxs]
 clear hxs
 refine Ok.bind (Ok.pr (n:=max 1 xs.length) (fun s=>s.2) (fun k st=>1<=k/\st.1.map sp=l6 (qS w) (a.map sp) (b.map sp) ((kg xs).take (k - 1)) []) (Go:=fun st=>st.1.map sp=l6 (qS w) (a.map sp) (b.map sp) (kg xs) []) (Rt:=fun _=>False) ?_ ?_ (k0:=1) (by omega) rfl ⟨bU _,rfl⟩ (by omega)) ?_
 ·rintro k ⟨out,i⟩ hk e ⟨hk1,hI⟩
  dsimp only at e hI ⊢
  subst e
  have hk2:k<xs.length:=by omega
  rw [kn hk2,aP,jm hk1 (by omega)]
  have hx:xs[k - 1]? =some (xs[k - 1]'(by omega)):=aO _
  have hy:xs[k]? =some xs[k]:=aO hk2
  have hg:=Ay xs (k - 1) (by omega)
  have hts: (kg xs).take k= (kg xs).take (k - 1)++[(xs[k - 1]'(by omega),xs[k])]:=by
   have hl:k - 1< (kg xs).length:=by rw [mO];omega
   have e:=eC hl
   rw [show k - 1+1=k by omega] at e
   rw [e]
   congr 1
   rw [aO hl] at hg
   injection hg with hg
   rw [hg];simp only [show k - 1+1=k by omega]
  have hol:out.length<=xs.length:=by
   have h1:=wB (qS w) (a.map sp) (b.map sp) ((kg xs).take (k - 1)) []
   rw [<-hI,cV,cL,mO] at h1
   simp only [List.length_nil] at h1;omega
  refine Ok.ix hx (Ok.ix hx (Ok.eq (yy (by omega) hN) (Ok.eq (yy (by omega) hN) ?_)))
  refine Ok.bind (P:=fun r:List aF=>r.map sp=l6 (qS w) (a.map sp) (b.map sp) ((kg xs).take k) []) (Ok.bif (fun hb=>?_) (fun hb=>?_)) (fun r hr=>Ok.nx ⟨bN (by omega),by omega,by rw [Nat.add_sub_cancel];exact hr⟩)
  ·refine Ok.ix hx (Ok.ix hy (Ok.bind (BK (by omega) hN) (fun r hr=>Ok.ret ?_)))
   rw [hr,hI,hts,yX,aC (show qS w _ _=true from hb)];rfl
  ·refine Ok.ret ?_
   rw [hI,hts,yX,aG (show ¬qS w _ _=true by rw [jU];exact hb)]
 ·rintro⟨out,i⟩ e ⟨hk1,hI⟩
  dsimp only at e hI ⊢
  subst e
  rw [xL (by omega),aR]
  refine Ok.br ?_
  rw [kV (by rw [mO];omega)] at hI
  exact hI
 intro o ho
 exact Ok.cs ho (fun s hs=>Ok.ret hs) (fun r hr=>hr.elim)
def nQ (w:Int) (a b:List aI) (y:Int):List (Int×Int):=l6 (qS w) (kP a y) (kP b y) (kg (yY (kP a y) (kP b y))) []
theorem DV (a b:List (Int×Int)):Ends a (yY a b)/\Ends b (yY a b):=by
 constructor <;> intro s hs <;> constructor <;> refine yx.2 (cY.2 ?_)
 ·exact .inl (List.mem_flatMap.2 ⟨s,hs,by simp⟩)
 ·exact .inl (List.mem_flatMap.2 ⟨s,hs,by simp⟩)
 ·exact .inr (List.mem_flatMap.2 ⟨s,hs,by simp⟩)
 ·exact .inr (List.mem_flatMap.2 ⟨s,hs,by simp⟩)
theorem yZ {a b:List aI} (ha: ∀r∈a,r.X0<r.X1) (hb: ∀r∈b,r.X0<r.X1) (w y:Int):jd (dD (nQ w a b y))/\∀x,jq (nQ w a b y) x=qS w (sj a x y) (sj b x y):=by
 obtain⟨h1,h2⟩:=Du (gO:=qS w) (HI w) (a:=kP a y) (b:=kP b y) (xs:=yY (kP a y) (kP b y)) (m8 _) (DV _ _).1 (DV _ _).2
 exact⟨h1,fun x=>by rw [show jq (nQ w a b y) x=_ from h2 x,(sJ ha y).2,(sJ hb y).2]⟩
theorem EL (w:Int) (a b:List aI) (y:Int): (nQ w a b y).length<=2*a.length+2*b.length:=by
 have h1:=wB (qS w) (kP a y) (kP b y) (kg (yY (kP a y) (kP b y))) []
 have h2:=BL (kP a y) (kP b y)
 have h3:=qR a y
 have h4:=qR b y
 rw [mO] at h1
 unfold nQ
 simp only [List.length_nil] at h1;omega
theorem DW {a b:List aI} {w:Int} {s:List aA} (hc:eT (s.map bY)) (hcov: ∀x y,t5 (s.map bY) x y=qS w (sj a x y) (sj b x y)) (hla:a.length<=10000000) (hlb:b.length<=10000000)
  (ha: ∀r∈a,r.X0<r.X1) (hb: ∀r∈b,r.X0<r.X1) (hr: (aS s).length<=1099511627776) (hN:4398046511104<=N):gH N a b w=some (aS s):=by
 refine Ok.get ?_
 unfold gH
 refine Ok.app (by simp only [List.length_nil];omega) (Ok.app (by rw [List.nil_append];omega) ?_)
 rw [List.nil_append]
 refine Ok.eq (Aw (by rw [cZ];omega) hN) ?_
 have hyl:=HH (a++b)
 rw [cZ] at hyl
 have hyi:=m8 (jw (a++b))
 have hmy:= @Cx (a++b)
 have hma: ∀r∈a,r.Y0∈kp (jw (a++b))/\r.Y1∈kp (jw (a++b)):=fun r hr=>hmy r (List.mem_append_left _ hr)
 have hmb: ∀r∈b,r.Y0∈kp (jw (a++b))/\r.Y1∈kp (jw (a++b)):=fun r hr=>hmy r (List.mem_append_right _ hr)
 have hf: ∀y,jd (dD (nQ w a b y))/\(dD (nQ w a b y)).length % 2=0:=fun y=>⟨(yZ ha hb w y).1,by rw [j4];omega⟩
 have hfl: ∀y,(dD (nQ w a b y)).length<=80000000:=fun y=>by rw [j4];have:=EL w a b y;omega
 obtain⟨b1,b2⟩:=yP (f:=fun y=>dD (nQ w a b y)) hf hyi (fun t ht y h1 h2=>by (try dsimp only);unfold nQ;rw [yA hma ht hyi h1 h2,yA hmb ht hyi h1 h2]) (fun y h=>by
  (try dsimp only);unfold nQ;rw [Cw hma h,Cw hmb h];rfl)
 have hsame:l7 (fun y=>dD (nQ w a b y)) (kg (kp (jw (a++b)))) []=s.map bY:=tk b1 hc fun x y=>by
  rw [hcov];unfold t5;rw [b2,sq (hf y).1,(yZ ha hb w y).2]
 clear hmy hma hmb
 generalize kp (jw (a++b))=ys at *
 refine Ok.bind (Ok.pr (n:=max 1 ys.length) (fun s=>s.2) (fun k st=>1<=k/\st.1.map rN=l7 (fun y=>dD (nQ w a b y)) ((kg ys).take (k - 1)) []) (Go:=fun st=>st.1.map rN=s.map bY) (Rt:=fun _=>False) ?_ ?_ (k0:=1) (by omega) rfl ⟨bU _,rfl⟩ (by omega)) ?_
 ·rintro k ⟨out,i⟩ hk e ⟨hk1,hI⟩
  dsimp only at e hI ⊢
  subst e
  have hk2:k<ys.length:=by omega
  rw [kn hk2,aP,jm hk1 (by omega)]
  refine Ok.idx (by omega) (Ok.idx hk2 (Ok.idx (by omega) (Ok.idx (by omega) (Ok.bind (Ct (by omega) hN) fun r1 hr1=>Ok.bind (Ct (by omega) hN) fun r2 hr2=>?_))))
  have l1:r1.length<=10000000:=by have:=qR a (ys[k - 1]'(by omega));rw [<-hr1,cV] at this;omega
  have l2:r2.length<=10000000:=by have:=qR b (ys[k - 1]'(by omega));rw [<-hr2,cV] at this;omega
  refine Ok.bind (HJ l1 l2 hN) fun r hr=>Ok.bind (Az hyi (f:=fun y=>dD (nQ w a b y)) hfl (by omega) (by omega) hk1 hk2 hI (by (try dsimp only);rw [hr,hr1,hr2];rfl) hN) fun o ho=>Ok.nx ⟨bN (by omega),by omega,?_⟩
  rw [Nat.add_sub_cancel];exact ho
 ·rintro⟨out,i⟩ e ⟨hk1,hI⟩
  dsimp only at e hI ⊢
  subst e
  rw [xL (by omega),aR]
  refine Ok.br ?_
  rw [kV (by rw [mO];omega),hsame] at hI
  exact hI
 intro o ho
 refine Ok.cs ho (fun st hs=>?_) (fun r hr=>hr.elim)
 have e:=yz hs
 obtain⟨s1,s2⟩:=qd (f:=fun y=>dD (nQ w a b y)) hfl (kg ys) [] (fun c hc=>by cases hc)
 refine Ok.eq (Fz (l:=st.1) ?_ ?_ (by rw [e];exact hr) hN) (Ok.ret e)
 ·have: (st.1.map rN).length<=ys.length:=by rw [hs,<-hsame];have:=mO ys;simp only [List.length_nil] at s2;omega
  rw [cV] at this;omega
 ·intro b hb
  have h3:=s1 (rN b) (by rw [hsame,<-hs];exact dG.2 ⟨b,hb,rfl⟩)
  have h4: (rN b).xs.length=2*b.iZ.length:=by unfold rN;rw [j4,cV]
  omega
theorem Cy (n:Int):cR N n=some (lB n):=rfl
theorem AA {l:List aI} (hl:l.length<=1099511627776) (hN:4398046511104<=N):gY N l=some (lv l):=by
 refine Ok.get ?_
 unfold gY lv
 by_cases h:2000<l.length
 ·rw [bS (by omega),aP,aC h];exact Ok.ret rfl
 ·rw [cD (by omega),aR,aG h]
  refine Ok.bind (Ok.pr (n:=l.length) (fun s=>s) (fun k s=>∀(j:Nat) x,j<k->l[j]? =some x->kM x=none) (Go:=fun s=>l.findSome? kM=none) (Rt:=fun r=>l.findSome? kM=some r) ?_ ?_ (dH _) rfl (fun j x hj=>by omega) (by omega)) ?_
  ·rintro k i hk e hI
   subst e
   rw [kn hk,aP]
   have hx:l[k]? =some l[k]:=aO hk
   have hrt: ∀c,kM l[k]=some c->l.findSome? kM=some c:=fun c hc=>by
    rw [List.findSome?_eq_some_iff]
    refine⟨l.take k,l[k],l.drop (k+1),?_,hc,fun x hx'=>?_⟩
    ·rw [List.getElem_cons_drop,List.take_append_drop]
    ·obtain⟨j,hj⟩:=dV hx'
     have hjk:j<k:=by have:=(bB.1 hj).1;rw [cL] at this;omega
     exact hI j x hjk (by rw [List.getElem?_take_of_lt hjk] at hj;exact hj)
   refine Ok.ix hx ?_
   have hb: ((cR N l[k].X0).bind fun x110=>bif (!x110) then (some true) else ((cR N l[k].Y0).bind fun x112=>bif (!x112) then (some true) else ((cR N l[k].X1).bind fun x114=>bif (!x114) then (some true) else ((cR N l[k].Y1).bind fun x116=>some (!x116)))))=some (!fB l[k]):=by
    rw [Cy,Cy,Cy,Cy]
    unfold fB
    simp only [aB]
    cases lB l[k].X0 <;> cases lB l[k].Y0 <;> cases lB l[k].X1 <;> rfl
   refine Ok.eq hb (Ok.bif (fun h1=>Ok.rt (hrt 1 ?_)) (fun h1=>Ok.bif (fun h2=>Ok.rt (hrt 13 ?_)) (fun h2=>Ok.nx ⟨bN (by omega),fun j x hj hjx=>?_⟩)))
   ·unfold kM;rw [aG (by rw [jU];simpa using h1)]
   ·unfold kM
    rw [aC (by simpa using h1),aC (by rw [dK,bR,bR] at h2;exact h2)]
   ·by_cases e:j=k
    ·subst e;rw [hx] at hjx;injection hjx with hjx;rw [<-hjx]
     unfold kM
     rw [aC (by simpa using h1),aG (by rw [<-jU,dK,bR,bR] at h2;exact h2)]
    ·exact hI j x (by omega) hjx
  ·rintro i e hI
   subst e
   rw [mN,aR]
   refine Ok.br ?_
   rw [List.findSome?_eq_none_iff]
   intro x hx
   obtain⟨j,hj⟩:=dV hx
   exact hI j x (bB.1 hj).1 hj
  intro o ho
  exact Ok.cs ho (fun s hs=>Ok.ret (by rw [hs];rfl)) (fun r hr=>Ok.ret (by rw [hr];rfl))
theorem EM {l:List aI} {s:List aA} (hs:sB l s):Ao l↔aS s=l:=⟨fun⟨t,h1,h2⟩=>by rw [hs.unique h1];exact h2,fun h=>⟨s,hs,h⟩⟩
theorem tL {l:List aI} (hl:l.length<=1073741824) (hN:4398046511104<=N):fE N l=some (jW l):=by
 refine Ok.get ?_
 unfold fE
 refine Ok.eq (AA (by omega) hN) ?_
 unfold jW
 refine Ok.bif (fun h=>Ok.ret ?_) (fun h=>?_)
 ·rw [aC (by simpa using h)]
 ·have h0:lv l=0:=by simpa using h
  rw [aG (by simpa using h0)]
  obtain⟨hlen,hok⟩:=Ap h0
  have hbf: ∀a b:aI,(((decide (a.Y0<b.Y0))||((a.Y0==b.Y0)&&(decide (a.X0<b.X0))))=true)↔¬(b.Y0<a.Y0\/(b.Y0=a.Y0/\b.X0<=a.X0)):=fun a b=>by
   rw [dK,bW,bR,bR,beq_iff_eq];omega
  refine Ok.bind (Ok.jE (Go:=fun _=>JS l) (Rt:=fun r=>r=8/\¬JS l) (fun s=>∃k:Nat,s= ((k:Nat):Int)/\1<=k/\∀(j:Nat) a b,j+1<k->l[j]? =some a->l[j+1]? =some b->¬(b.Y0<a.Y0\/(b.Y0=a.Y0/\b.X0<=a.X0))) (fun s=>l.length - s.toNat) ?_ ⟨1,rfl,bU _,fun j a b hj=>by omega⟩ (by simp;omega)) ?_
  ·rintro s ⟨k,rfl,hk,hI⟩
   refine Ok.bif (fun h=>?_) (fun h=>Ok.br fun j a b ha hb=>hI j a b ?_ ha hb)
   ·have hk2:k<l.length:=by have:=of_decide_eq_true h;omega
    rw [jm hk (by omega)]
    have hx:l[k - 1]? =some (l[k - 1]'(by omega)):=aO _
    have hy:l[k]? =some l[k]:=aO hk2
    refine Ok.ix hx (Ok.ix hy ?_)
    unfold iB
    rw [aB]
    refine Ok.bif (fun hb=>Ok.rt ⟨rfl,fun hu=>?_⟩) (fun hb=>Ok.nx ⟨⟨k+1,by rw [bN (by omega)],by omega,fun j a b hj ha hb'=>?_⟩,by rw [bN (by omega)];simp only [cF];omega⟩)
    ·have:=(hbf _ _).2 (hu (k - 1) _ _ hx (by rw [show k - 1+1=k by omega];exact hy))
     rw [this] at hb;cases hb
    ·by_cases e:j+1<k
     ·exact hI j a b e ha hb'
     ·have:j+1=k:=by omega
      have h1:l[k - 1]? =some a:=by rw [show k - 1=j by omega];exact ha
      have h2:l[k]? =some b:=by rw [<-this];exact hb'
      rw [hx] at h1;rw [hy] at h2
      injection h1 with h1;injection h2 with h2
      rw [<-h1,<-h2]
      refine(hbf _ _).1 ?_
      rw [Bool.not_eq_false'] at hb
      exact hb
   ·have:=of_decide_eq_false h
    have:=(bB.1 hb).1;omega
  ·rintro o ho
   refine Ok.cs ho (fun s hu=>?_) (fun r hr=>Ok.ret (by rw [hr.1,aG hr.2]))
   rw [aC hu]
   obtain⟨s,_,hs⟩:=oT (N:=N) (l:=l) (by omega) hok (by omega)
   obtain⟨z1,z2,z3⟩:=hs.DF
   have z4:2*l.length* (2*l.length)<=4000*4000:=Nat.mul_le_mul (by omega) (by omega)
   refine Ok.eq (tx hs.can hs.cover (by omega) (fun r hr=>(hok r hr).x) (by omega) hN) (Ok.eq (Cu (by omega) hN) ?_)
   have hiff:=EM hs
   refine Ok.bif (fun h=>Ok.ret ?_) (fun h=>Ok.ret ?_)
   ·have h: ¬l=aS s:=by simpa using h
    rw [aG (fun h'=>h (hiff.1 h').symm)]
   ·have h:l=aS s:=by simpa using h
    rw [aC (hiff.2 h.symm)]
end
end Go.Gk
namespace Go.Gk
open Go Classical
theorem AB (n:Nat) (g:Nat->Nat): ((List.range (n+1)).map g).sum= ((List.range n).map g).sum+g n:=by
 rw [List.range_succ,dP,List.sum_append];simp
def LG (r:aI) (x y:Int):Bool:=(decide (r.X0<=x)&&decide (x<r.X1))&&(decide (r.Y0<=y)&&decide (y<r.Y1))
def LA (a b:aI):Prop:=∀x y,¬(LG a x y=true/\LG b x y=true)
theorem ID {r:aI} {x y:Int}:LG r x y=true↔(r.X0<=x/\x<r.X1)/\r.Y0<=y/\y<r.Y1:=by unfold LG;simp
theorem xO: ∀{xs:List Int},jd xs->(Aa xs).Pairwise (fun p q=>p.2<q.1)
 | [],_=>jG
 | [a],_=>jG
 | a::b::l,h=>by
  unfold Aa
  rw [oj]
  exact⟨fun q hq=>h.tail.head q.1 (Ck q hq).1,xO h.tail.tail⟩
def qT (a b:aI):Prop:=a.Y1<=b.Y0\/(a.Y0=b.Y0/\a.Y1=b.Y1/\a.X1<b.X0)
theorem qT.apart {a b:aI} (h:qT a b):LA a b:=fun x y ⟨h1,h2⟩=>by
 rw [ID] at h1 h2
 rcases h with h | h <;> omega
theorem qe: ∀{s:List aA},eT (s.map bY)->(aS s).Pairwise qT
 | [],_=>jG
 | b::s,h=>by
  rw [mH,mQ]
  refine⟨?_,qe h.tail,fun x hx y hy=>?_⟩
  ·unfold mG
   rw [List.pairwise_map]
   exact List.Pairwise.imp (fun hpq=> .inr ⟨rfl,rfl,hpq⟩) (xO (h.each (bY b) (by simp)).2.2.1)
  ·unfold mG at hx
   obtain⟨p,_,rfl⟩:=dG.1 hx
   obtain⟨c,hc,q,_,rfl⟩:=qp hy
   exact .inl (h.z5 (bY c) (dG.2 ⟨c,hc,rfl⟩))
theorem sK {s:List aA} (h:eT (s.map bY)): ∀r∈aS s,r.X0<r.X1/\r.Y0<r.Y1:=fun r hr=>by
 obtain⟨b,hb,p,hp,rfl⟩:=qp hr
 have hc:=h.each (bY b) (dG.2 ⟨b,hb,rfl⟩)
 exact⟨EA hc.2.2.1 p hp,hc.1⟩
theorem DX {s:List aA} (h:eT (s.map bY)): (aS s).Nodup:=by
 have h1:=qe h
 have h2:=sK h
 refine List.Pairwise.imp_of_mem (fun{a b} ha hb hab e=>?_) h1
 subst e
 have:=h2 a ha
 rcases hab with h | h <;> omega
def pM (s:List Bd):Nat:=(s.map (fun b=>b.xs.length / 2)).sum
theorem uW (s t:List Bd):pM (s++t)=pM s+pM t:=by unfold pM;rw [dP,List.sum_append]
theorem Gi (s:List Bd) (b:Bd):pM (jL s b)<=pM s+b.xs.length / 2:=by
 unfold jL
 split
 ·omega
 ·split
  ·rename_i c hc
   have hsp:=qI hc
   have e:pM s=pM s.dropLast+c.xs.length / 2:=by
    conv=>lhs;rw [hsp,uW]
    simp [pM]
   split
   ·rw [uW,e];simp [pM]
   ·rw [uW];simp [pM]
  ·simp [pM]
structure Na (t:List Bd):Prop where
 each: ∀b∈t,b.y0<b.y1/\jd b.xs/\b.xs.length % 2=0
 ord:t.Pairwise (fun b c=>b.y1<=c.y0)
theorem fold_push: ∀(t out:List Bd),Na t->eT out->(∀c∈out,∀b∈t,c.y1<=b.y0)->eT (t.foldl jL out)/\pM (t.foldl jL out)<=pM out+pM t/\
  ∀y,rowAt (t.foldl jL out) y=if (∃b∈t,b.y0<=y/\y<b.y1) then rowAt t y else rowAt out y
 | [],out,_,hc,_=>⟨hc,by simp [pM],fun y=>by simp⟩
 | b::t,out,hl,hc,ho=>by
  have hb:=hl.each b (by simp)
  have hord:=oj.1 hl.ord
  have ho1: ∀c∈out,c.y1<=b.y0:=fun c h=>ho c h b (by simp)
  have h1:=u9 hc ho1 hb.2.1 hb.2.2
  have htop:=va ho1 (show b.y0<=b.y1 by omega)
  obtain⟨f1,f2,f3⟩:=fold_push t (jL out b) ⟨fun c hcm=>hl.each c (hZ _ hcm),hord.2⟩ h1 (fun c hcm d hd=>by have:=htop c hcm;have:=hord.1 d hd;omega)
  refine⟨f1,?_,fun y=>?_⟩
  ·have:=Gi out b
   have e:pM (b::t)=b.xs.length / 2+pM t:=by simp [pM]
   rw [List.foldl_cons,e];omega
  ·rw [List.foldl_cons,f3 y,u7 ho1 (fun c hcm=>(hc.each c hcm).1) (fun h=>absurd h (by omega)),mE]
   by_cases hy:b.y0<=y/\y<b.y1
   ·have hn: ¬∃c∈t,c.y0<=y/\y<c.y1:=fun⟨c,hcm,h⟩=>by have:=hord.1 c hcm;omega
    rw [aG hn,aC hy,aC ⟨b,by simp,hy⟩,aC hy]
   ·rw [aG hy]
    by_cases h: ∃c∈t,c.y0<=y/\y<c.y1
    ·obtain⟨c,hcm,h⟩:=h
     rw [aC ⟨c,hcm,h⟩,aC ⟨c,hZ _ hcm,h⟩,aG hy]
    ·rw [aG h,aG hy,aG (show ¬∃c∈b::t,c.y0<=y/\y<c.y1 from fun⟨c,hcm,h2⟩=>by
      rcases dC.1 hcm with rfl | hcm
      ·exact hy h2
      ·exact h ⟨c,hcm,h2⟩)]
noncomputable def pR (C:List aI) (b:aA):Bd:=⟨b.Y0,b.Y1,dD ((Aa b.Xs).filter (fun p=>decide ((⟨p.1,b.Y0,p.2,b.Y1⟩:aI)∈C)))⟩
theorem Gj {l m:List (Int×Int)} (h:l.Sublist m): (dD l).Sublist (dD m):=by
 induction h with
 | slnil=>exact List.Sublist.refl _
 | cons a _ ih=>rw [jr];exact(ih.cons _).cons _
 | cons_cons a _ ih=>rw [jr,jr];exact(ih.cons_cons _).cons_cons _
theorem AD (l:List (Int×Int)): (dD l).length % 2=0/\(dD l).length / 2=l.length:=by rw [j4];omega
theorem BM {s p:List aA} {C:List aI} (hs:eT (s.map bY)) (hp:eT (p.map bY)) (hC: ∀r∈C,r∈aS s) (hcov: ∀x y,t5 (p.map bY) x y=sj C x y): (aS p).length<=C.length:=by
 have hinc: ∀b∈s,jd (pR C b).xs:=fun b hb=>by
  have h1:=Fq hs b hb
  have h2:=Gj (List.filter_sublist (l:=Aa b.Xs) (p:=fun p=>decide ((⟨p.1,b.Y0,p.2,b.Y1⟩:aI)∈C)))
  rw [xz (sD hs b hb)] at h2
  exact List.Pairwise.sublist h2 h1
 have hlow:Na (s.map (pR C)):=by
  refine⟨fun b hb=>?_,?_⟩
  ·obtain⟨c,hc,rfl⟩:=dG.1 hb
   exact⟨(hs.each (bY c) (dG.2 ⟨c,hc,rfl⟩)).1,hinc c hc,(AD _).1⟩
  ·have:=hs.ord
   rw [List.pairwise_map] at this ⊢
   exact List.Pairwise.imp (fun h=>h.1) this
 obtain⟨f1,f2,f3⟩:=fold_push (s.map (pR C)) [] hlow eT.nil (fun c hc=>by cases hc)
 have hrow: ∀{t:List aA},(∀b∈t,b∈s)->∀x y,oN (rowAt (t.map (pR C)) y) x=true->sj C x y=true:=by
  intro t ht x y h
  induction t with
  | nil=>cases h
  | cons b t ih=>
   rw [dZ,mE] at h
   split at h
   ·rename_i hy
    have hbm:=ht b (by simp)
    have h1:=hinc b hbm
    have h:oN (dD ((Aa b.Xs).filter (fun p=>decide ((⟨p.1,b.Y0,p.2,b.Y1⟩:aI)∈C)))) x=true:=h
    rw [sq h1,sm] at h
    obtain⟨q,hq,h2⟩:=h
    have hq:=i7.1 hq
    exact iU.2 ⟨_,of_decide_eq_true hq.2,h2,hy⟩
   ·exact ih (fun c hc=>ht c (hZ _ hc)) h
 have hrow2: ∀x y,sj C x y=true->oN (rowAt (s.map (pR C)) y) x=true:=by
  intro x y h
  obtain⟨r,hr,h1,h2⟩:=iU.1 h
  obtain⟨b,hb,q,hq,rfl⟩:=qp (hC r hr)
  dsimp only at h1 h2
  have key: ∀{t:List aA},(∀c∈t,c∈s)->eT (t.map bY)->b∈t->rowAt (t.map (pR C)) y= (pR C b).xs:=by
   intro t ht hc hbt
   induction t with
   | nil=>cases hbt
   | cons c t ih=>
    rw [dZ,mE]
    by_cases hy:c.Y0<=y/\y<c.Y1
    ·rw [aC (show (pR C c).y0<=y/\y< (pR C c).y1 from hy)]
     rcases dC.1 hbt with rfl | hbt
     ·rfl
     ·have:=hc.z5 (bY b) (dG.2 ⟨b,hbt,rfl⟩)
      have e1: (bY c).y1=c.Y1:=rfl
      have e2: (bY b).y0=b.Y0:=rfl
      omega
    ·rw [aG (show ¬((pR C c).y0<=y/\y< (pR C c).y1) from hy)]
     rcases dC.1 hbt with rfl | hbt
     ·exact absurd h2 hy
     ·exact ih (fun d hd=>ht d (hZ _ hd)) hc.tail hbt
  rw [key (fun c hc=>hc) hs hb]
  have h1':=hinc b hb
  show oN (dD ((Aa b.Xs).filter (fun p=>decide ((⟨p.1,b.Y0,p.2,b.Y1⟩:aI)∈C)))) x=true
  rw [sq h1',sm]
  exact⟨q,i7.2 ⟨hq,bS hr⟩,h1⟩
 have hsame:p.map bY= (s.map (pR C)).foldl jL []:=tk hp f1 fun x y=>by
  rw [hcov,fu]
  have e:rowAt ((s.map (pR C)).foldl jL []) y=rowAt (s.map (pR C)) y:=by
   rw [f3]
   by_cases h: ∃b∈s.map (pR C),b.y0<=y/\y<b.y1
   ·rw [aC h]
   ·rw [aG h]
    exact(lG fun b hb=>by
     have: ¬(b.y0<=y/\y<b.y1):=fun h2=>h ⟨b,hb,h2⟩
     omega).symm
  unfold t5
  rw [e]
  exact⟨hrow2 x y,hrow (fun b hb=>hb) x y⟩
 have hc1: (aS p).length=pM (p.map bY):=by
  have: ∀p:List aA,(aS p).length=pM (p.map bY):=fun p=>by
   induction p with
   | nil=>rfl
   | cons b p ih=>rw [mH,cZ,m7,ih];unfold pM;rw [dZ,dZ,List.sum_cons];rfl
  exact this p
 have hc2: ∀s:List aA,pM (s.map (pR C))= ((aS s).filter (fun r=>decide (r∈C))).length:=fun s=>by
  induction s with
  | nil=>rfl
  | cons b s ih=>
   rw [mH,kh,cZ,<-ih]
   unfold pM
   rw [dZ,dZ,List.sum_cons]
   congr 1
   show (dD _).length / 2=_
   rw [(AD _).2]
   unfold mG
   rw [List.filter_map,cV];rfl
 have hc3: ((aS s).filter (fun r=>decide (r∈C))).length<=C.length:=fR (List.Nodup.sublist List.filter_sublist (DX hs)) fun r hr=>of_decide_eq_true (i7.1 hr).2
 rw [hc1,hsame]
 have e0:pM ([]:List Bd)=0:=rfl
 have:=hc2 s
 omega
end Go.Gk
namespace Go.Gk
open Go Classical
section
variable {N:Nat}
theorem IE (hN:16<=N):iX N=some true:=by
 have:=F8 (N:=N - 16)
 rwa [show N - 16+16=N by omega] at this
theorem vT {all:List aI} (w:aI->Nat): ∀(c:List Nat),((c.filterMap (fun i=>all[i]?)).map w).sum= (c.map (fun i=>(all[i]?).elim 0 w)).sum
 | []=>rfl
 | i::c=>by
  rw [dZ,List.sum_cons,<-vT w c]
  cases h:all[i]? with
  | none=>rw [List.filterMap_cons_none (f:=fun i=>all[i]?) h];simp
  | some x=>rw [List.filterMap_cons_some (f:=fun i=>all[i]?) h,dZ,List.sum_cons];rfl
theorem IF {all:List aI} {u:Nat->Nat} (h: ∀i,i<all.length->u i∈bK all.length u) (w:aI->Nat): ((bK all.length u).map (fun k=>((nC all all.length u k).map w).sum)).sum= (all.map w).sum:=by
 have e: (fun k=>((nC all all.length u k).map w).sum)=fun k=>(((List.range all.length).filter (fun x=>decide (u x=k))).map (fun i=>(all[i]?).elim 0 w)).sum:=by
  funext k;unfold nC;rw [vT];rfl
 rw [e,DO (lA _ _) u _ (fun x hx=>h x (oX.1 hx))]
 have: ∀m,m<=all.length->((List.range m).map (fun i=>(all[i]?).elim 0 w)).sum= ((all.take m).map w).sum:=by
  intro m
  induction m with
  | zero=>intro _;rfl
  | succ m ih=>
   intro hm
   rw [AB,ih (by omega),eC (by omega),dP,List.sum_append,aO (by omega)]
   simp
 rw [this _ (bU _),eQ]
theorem AE: ∀{l m:List Nat},l.length=m.length->(∀(j x y:Nat),l[j]? =some x->m[j]? =some y->x<=y)->l.sum<=m.sum
 | [],[],_,_=>bU _
 | [],_::_,h,_=>by simp at h
 | _::_,[],h,_=>by simp at h
 | a::l,b::m,h,hle=>by
  have h1:=hle 0 a b rfl rfl
  have h2:=AE (l:=l) (m:=m) (by simpa using h) fun j x y hx hy=>hle (j+1) x y (by simpa using hx) (by simpa using hy)
  rw [List.sum_cons,List.sum_cons];omega
theorem FA {r hs:List aI} {s:List aA} (h1: ∀x∈r,fB x=true) (h2: ∀x∈hs,fB x=true) (hc:eT (s.map bY)) (hl:wF (sw r++sw hs) (jw r++jw hs) (s.map bY)): ∀q∈aS s,fB q=true/\q.X0<q.X1/\q.Y0<q.Y1:=by
 intro q hq
 have hp:=sK hc q hq
 obtain⟨b,hb,p,hpm,rfl⟩:=qp hq
 have hll:=hl (bY b) (dG.2 ⟨b,hb,rfl⟩)
 have hm:=Ck p hpm
 have bx: ∀c∈sw r++sw hs,-1000000<=c/\c<=1000000:=fun c hcm=>by
  rcases cY.1 hcm with h | h
  ·obtain⟨x,hx,h⟩:=sA.1 h
   have:=mJ (h1 x hx)
   rcases h with rfl | rfl <;> omega
  ·obtain⟨x,hx,h⟩:=sA.1 h
   have:=mJ (h2 x hx)
   rcases h with rfl | rfl <;> omega
 have by': ∀c∈jw r++jw hs,-1000000<=c/\c<=1000000:=fun c hcm=>by
  rcases cY.1 hcm with h | h
  ·obtain⟨x,hx,h⟩:=lu.1 h
   have:=mJ (h1 x hx)
   rcases h with rfl | rfl <;> omega
  ·obtain⟨x,hx,h⟩:=lu.1 h
   have:=mJ (h2 x hx)
   rcases h with rfl | rfl <;> omega
 have g1:=bx _ (hll.2.2 p.1 hm.1)
 have g2:=bx _ (hll.2.2 p.2 hm.2)
 have g3:=by' _ hll.1
 have g4:=by' _ hll.2.1
 exact⟨An ⟨g1,g3,g2,g4⟩,hp⟩
structure pN (r hs:List aI) (s:List aA) (u:Nat->Nat) (ps:List (List aA)):Prop where
 r1: ∀x∈r,fB x=true
 r2: ∀x∈hs,fB x=true
 k1: ∀x∈r,AU x
 k2: ∀x∈hs,AU x
 dr:tp r hs s
 pt:rl s u ps
 yS: (aS s).length<=2000
theorem pN.part {r hs:List aI} {s:List aA} {u:Nat->Nat} {ps:List (List aA)} (h:pN r hs s u ps) {p:List aA} (hp:p∈ps):eT (p.map bY)/\(aS p).length<=2000/\∀q∈aS p,fB q=true/\q.X0<q.X1/\q.Y0<q.Y1:=by
 obtain⟨sx,sy⟩:=h.dr.small h.k1 h.k2
 obtain⟨j,k,g1,g2,g3,g4⟩:=As h.pt h.dr.can h.dr.lim sx sy hp
 have:=BM h.dr.can g3.can (fun x hx=>by
  obtain⟨i,_,_,hi⟩:=lN.1 hx
  exact eV hi) g3.cover
 have h2:=Aj (aS s) (aS s).length u k
 have:=h.yS
 exact⟨g3.can,by omega,FA h.r1 h.r2 g3.can g4⟩
theorem pN.bK {r hs:List aI} {s:List aA} {u:Nat->Nat} {ps:List (List aA)} (h:pN r hs s u ps): ∀i,i< (aS s).length->u i∈Gk.bK (aS s).length u:=fun i hi=>iY.2 ⟨by have:=h.pt.join.le i hi;omega,h.pt.join.rr i hi⟩
theorem pN.total {r hs:List aI} {s:List aA} {u:Nat->Nat} {ps:List (List aA)} (h:pN r hs s u ps): (ps.map (fun p=>(aS p).length)).sum<=(aS s).length:=by
 have h1:=IF h.bK (fun _=>1)
 have one: ∀l:List aI,(l.map (fun _=>1)).sum=l.length:=fun l=>by
  induction l with
  | nil=>rfl
  | cons x l ih=>simp only [dZ,List.sum_cons,ih,dN];omega
 simp only [one] at h1
 rw [<-h1]
 refine AE (by simp [h.pt.len]) fun j x y hx hy=>?_
 rw [gG,oW] at hx hy
 obtain⟨p,hp,rfl⟩:=hx
 obtain⟨k,hk,rfl⟩:=hy
 have hs:=h.pt.each j k p hk hp
 exact BM h.dr.can hs.can (fun x hx=>by
  obtain⟨i,_,_,hi⟩:=lN.1 hx
  exact eV hi) hs.cover
theorem y4 {ps:List (List aA)} {x y:Int}:sj (ps.flatMap aS) x y=true↔∃p∈ps,sj (aS p) x y=true:=by
 rw [iU]
 constructor
 ·rintro⟨r,hr,h⟩
  obtain⟨p,hp,hrp⟩:=List.mem_flatMap.1 hr
  exact⟨p,hp,iU.2 ⟨r,hrp,h⟩⟩
 ·rintro⟨p,hp,h⟩
  obtain⟨r,hr,h⟩:=iU.1 h
  exact⟨r,List.mem_flatMap.2 ⟨p,hp,hr⟩,h⟩
theorem pN.cover {r hs:List aI} {s:List aA} {u:Nat->Nat} {ps:List (List aA)} (h:pN r hs s u ps) (x y:Int):sj (ps.flatMap aS) x y=t5 (s.map bY) x y:=by
 rw [<-oU h.dr.can,fu,y4]
 constructor
 ·rintro⟨p,hp,hc⟩
  obtain⟨j,hj⟩:=dV hp
  have hjl:=(bB.1 hj).1
  have hk: (Gk.bK (aS s).length u)[j]? =some ((Gk.bK (aS s).length u)[j]'(by rw [<-h.pt.len];exact hjl)):=aO _
  have hs:=h.pt.each j _ _ hk hj
  rw [oU hs.can,hs.cover] at hc
  obtain⟨q,hq,h2⟩:=iU.1 hc
  obtain⟨i,_,_,hi⟩:=lN.1 hq
  exact iU.2 ⟨q,eV hi,h2⟩
 ·intro hc
  obtain⟨q,hq,h2⟩:=iU.1 hc
  obtain⟨i,hi⟩:=dV hq
  have hil:=(bB.1 hi).1
  obtain⟨j,hj⟩:=dV (h.bK i hil)
  have hjl:j<ps.length:=by rw [h.pt.len];exact(bB.1 hj).1
  have hs:=h.pt.each j _ _ hj (aO hjl)
  refine⟨_,cN hjl,?_⟩
  rw [oU hs.can,hs.cover]
  exact iU.2 ⟨q,lN.2 ⟨i,hil,rfl,hi⟩,h2⟩
section
variable {a:k7} {mP:List (List aA)} {gq:List (List (List aA))} {r:Nat->Nat} {gs:List cC} {ofP ofB sG:List Int} {sH:List km}
theorem y5 (b:oV a mP gq r gs ofP ofB sG sH) {i:Nat} (hi:i<a.aJ.length): ∃s ps u,mP[i]? =some s/\gq[i]? =some ps/\pN a.aJ[i] (jY a.aM ((i:Nat):Int)) s u ps:=by
 have hd:mP[i]? =some (mP[i]'(by rw [b.dr.len];exact hi)):=aO _
 have hp:gq[i]? =some (gq[i]'(by rw [b.dr.zm];exact hi)):=aO _
 have hdr:=b.dr.dr i _ _ hi (aO hi) hd
 obtain⟨u,hu⟩:=b.dr.pt i _ _ hi hd hp
 have hreg:=uS.1 (b.wA.M5 _ (cN hi))
 exact⟨_,_,u,hd,hp,fun x hx=>((oZ.1 hreg.1).2 x hx).1,fun x hx=>(qM b.wA.gb _ x hx).2,(Ap hreg.1).2,fun x hx=>(qM b.wA.gb _ x hx).1,hdr,hu,b.yS.1 _ (eV hd)⟩
end
end
end Go.Gk
namespace Go.Gk
open Go Classical
def AF (a b:aI):Prop:=(0<min a.X1 b.X1 - max a.X0 b.X0/\0<=min a.Y1 b.Y1 - max a.Y0 b.Y0)\/(0<=min a.X1 b.X1 - max a.X0 b.X0/\0<min a.Y1 b.Y1 - max a.Y0 b.Y0)
theorem Gl {all:List aI} (hB:all.Pairwise qT) (hp: ∀r∈all,r.X0<r.X1/\r.Y0<r.Y1) {i j:Nat} {a c:aI} (ha:all[i]? =some a) (hc:all[j]? =some c):AF a c↔i=j\/xU all i j\/xU all j i:=by
 have h1:xU all i j↔Co a c:=⟨fun⟨a',c',e1,e2,h⟩=>by rw [ha] at e1;rw [hc] at e2;injection e1 with e1;injection e2 with e2;rw [e1,e2];exact h,fun h=>⟨a,c,ha,hc,h⟩⟩
 have h2:xU all j i↔Co c a:=⟨fun⟨a',c',e1,e2,h⟩=>by rw [hc] at e1;rw [ha] at e2;injection e1 with e1;injection e2 with e2;rw [e1,e2];exact h,fun h=>⟨c,a,hc,ha,h⟩⟩
 have p1:=hp a (eV ha)
 have p2:=hp c (eV hc)
 rw [h1,h2]
 obtain⟨l1,e1⟩:=bB.1 ha
 obtain⟨l2,e2⟩:=bB.1 hc
 unfold AF Co
 rcases Nat.lt_trichotomy i j with h | h | h
 ·have:=mR.1 hB i j l1 l2 h
  rw [e1,e2] at this
  unfold qT at this
  rcases this with this | this
  ·constructor
   ·rintro(h3 | h3)
    ·exact .inr (.inl ⟨by omega,by omega,by omega⟩)
    ·omega
   ·rintro(h3 | h3 | h3)
    ·omega
    ·left;omega
    ·omega
  ·constructor
   ·rintro(h3 | h3) <;> omega
   ·rintro(h3 | h3 | h3) <;> omega
 ·subst h
  rw [ha] at hc;injection hc with hc;subst hc
  exact⟨fun _=> .inl rfl,fun _=> .inl (by omega)⟩
 ·have:=mR.1 hB j i l2 l1 h
  rw [e1,e2] at this
  unfold qT at this
  rcases this with this | this
  ·constructor
   ·rintro(h3 | h3)
    ·exact .inr (.inr ⟨by omega,by omega,by omega⟩)
    ·omega
   ·rintro(h3 | h3 | h3)
    ·omega
    ·omega
    ·left;omega
  ·constructor
   ·rintro(h3 | h3) <;> omega
   ·rintro(h3 | h3 | h3) <;> omega
theorem yB {α:Type} {q q':List α} (h:q <+:q') {t:Nat} {x:α} (hx:q[t]? =some x):q'[t]? =some x:=by
 obtain⟨r,rfl⟩:=h
 rw [gF (bB.1 hx).1];exact hx
def tz (f:Int->Int->Bool) (x y:Int):Prop:=f x y=true/\∀x' y',f x' y'=true->y<y'\/(y=y'/\x<=x')
theorem tz.unique {f:Int->Int->Bool} {x y x' y':Int} (h:tz f x y) (h':tz f x' y'):x=x'/\y=y':=by
 have h1:=h.2 _ _ h'.1
 have h2:=h'.2 _ _ h.1
 omega
theorem EN {a:aI} {l:List aI} (hp: ∀r∈a::l,r.X0<r.X1/\r.Y0<r.Y1) (hB: ∀r∈l,qT a r):tz (sj (a::l)) a.X0 a.Y0:=by
 have pa:=hp a (by simp)
 refine⟨iU.2 ⟨a,by simp,by omega,by omega⟩,fun x' y' h=>?_⟩
 obtain⟨r,hr,hx,hy⟩:=iU.1 h
 rcases dC.1 hr with rfl | hr
 ·omega
 ·have:=hB r hr
  unfold qT at this
  omega
theorem EO {s:List aA} (hc:eT (s.map bY)) (hne:s≠[]): ∃r t,aS s=r::t/\tz (fun x y=>t5 (s.map bY) x y) r.X0 r.Y0/\Fx s= ⟨r.X0,r.Y0⟩:=by
 cases s with
 | nil=>exact absurd rfl hne
 | cons b s=>
  have hx:=hc.each (bY b) (by simp)
  have hxs:b.Xs≠[]:=hx.2.1
  have he:b.Xs.length % 2=0:=hx.2.2.2
  obtain⟨x0,x1,xs,e⟩: ∃x0 x1 xs,b.Xs=x0::x1::xs:=by
   match hb:b.Xs with
   | []=>exact absurd hb hxs
   | [x0]=>rw [hb] at he;simp at he
   | x0::x1::xs=>exact⟨x0,x1,xs,rfl⟩
  have hr:aS (b::s)= ⟨x0,b.Y0,x1,b.Y1⟩::((Aa xs).map (fun p=>(⟨p.1,b.Y0,p.2,b.Y1⟩:aI))++aS s):=by
   rw [mH]
   unfold mG
   rw [e];rfl
  have hB:=qe hc
  have hpos:=sK hc
  rw [hr] at hB hpos
  refine⟨_,_,hr,?_,by unfold Fx;dsimp only;rw [e];rfl⟩
  have:=EN hpos (oj.1 hB).1
  rw [<-hr] at this
  refine⟨?_,fun x' y' h=>this.2 x' y' ?_⟩
  ·show t5 _ _ _=true
   rw [<-oU hc];exact this.1
  ·rw [oU hc];exact h
theorem BN {all:List aI} {u:Nat->Nat} (hB:all.Pairwise qT) (hp: ∀r∈all,r.X0<r.X1/\r.Y0<r.Y1) (hJ:Joined all u) {h:Nat} {a:aI} (ha:all[h]? =some a) (hu:u h=h):tz (sj (nC all all.length u h)) a.X0 a.Y0:=by
 obtain⟨hl,e⟩:=bB.1 ha
 have pa:=hp a (eV ha)
 refine⟨iU.2 ⟨a,lN.2 ⟨h,hl,hu,ha⟩,by omega,by omega⟩,fun x' y' hc=>?_⟩
 obtain⟨r,hr,hx,hy⟩:=iU.1 hc
 obtain⟨k,hk,huk,hrk⟩:=lN.1 hr
 have hle:=hJ.le k hk
 by_cases ek:k=h
 ·subst ek;rw [ha] at hrk;injection hrk with hrk;subst hrk;omega
 ·obtain⟨hl2,e2⟩:=bB.1 hrk
  have:=mR.1 hB h k hl hl2 (by omega)
  rw [e,e2] at this
  unfold qT at this
  omega
theorem tA {u:Nat->Nat}: ∀(d i:Nat),∃t,bK (i+d) u=bK i u++t
 | 0,i=>⟨[],by simp⟩
 | d+1,i=>by
  obtain⟨t,ht⟩:=tA (u:=u) d i
  rw [<-Nat.add_assoc,gD,ht]
  split
  ·exact⟨t++[i+d],by simp⟩
  ·exact⟨t,rfl⟩
theorem HK {u:Nat->Nat} {i n:Nat} (hi:i<n) (hu:u i=i): (bK n u)[(bK i u).length]? =some i:=by
 obtain⟨t,ht⟩:=tA (u:=u) (n - (i+1)) (i+1)
 rw [show i+1+ (n - (i+1))=n by omega] at ht
 rw [ht,gD,aC hu]
 simp
section
variable {N:Nat}
theorem Gm {a b:aI} (ha:AU a) (hb:AU b):iW N a b=some (decide (AF a b)):=by
 have a1:=ha.s1;have a2:=ha.s2;have a3:=ha.s3;have a4:=ha.s4
 have b1:=hb.s1;have b2:=hb.s2;have b3:=hb.s3;have b4:=hb.s4
 unfold small at a1 a2 a3 a4 b1 b2 b3 b4
 unfold iW
 rw [tv,tv,tw,tw,fz (x:=min a.X1 b.X1 - max a.X0 b.X0) (by omega) (by omega),fz (x:=min a.Y1 b.Y1 - max a.Y0 b.Y0) (by omega) (by omega)]
 congr 1
 rw [fu]
 unfold AF
 simp only [dK,bW,bR,gt_iff_lt,ge_iff_le]
theorem insert_eq {l:List (List aI)} {r0:aI} {t:List aI} (hl:l.length<=1000000) (hN:4398046511104<=N) (h: ∀x,l[l.length - 1]? =some x->∃x0 t',x=x0::t'/\¬(r0.Y0<x0.Y0\/(r0.Y0=x0.Y0/\r0.X0<x0.X0))):jC N l (r0::t)=some (l++[r0::t]):=by
 refine Ok.get ?_
 unfold jC
 refine Ok.bind (Ok.jE (Go:=fun s=>s= ((l.length:Nat):Int)) (Rt:=fun _=>False) (fun s=>s= ((l.length:Nat):Int)) (fun s=>0) ?_ rfl (by omega)) ?_
 ·rintro s rfl
  by_cases h0:l.length=0
  ·rw [cD (by omega),aR,aB,aR];exact Ok.br rfl
  ·rw [bS (by omega),aP,jm (by omega) (by omega)]
   have hx:l[l.length - 1]? =some (l[l.length - 1]'(by omega)):=aO _
   obtain⟨x0,t',e,hn⟩:=h _ hx
   have i1:idx (r0::t) 0=some r0:=rfl
   have i2:idx (l[l.length - 1]'(by omega)) 0=some x0:=by rw [e];rfl
   rw [i1,aB,dM hx,aB,i2,aB]
   unfold iB
   rw [aB,aB,show ((decide (r0.Y0<x0.Y0))||((r0.Y0==x0.Y0)&&(decide (r0.X0<x0.X0))))=false by
    rw [<-jU,dK,bW,bR,bR,beq_iff_eq];exact hn,aR]
   exact Ok.br rfl
 intro o ho
 refine Ok.cs ho ?_ (fun r hr=>hr.elim)
 rintro s rfl
 refine Ok.eq (qy l l.length (bU _)) (Ok.app ?_ (Ok.app ?_ (Ok.eq (o9 l l.length (bU _)) (Ok.app ?_ (Ok.ret ?_)))))
 ·rw [eQ];simp only [List.length_nil];omega
 ·rw [eQ];simp only [List.length_nil,cZ,dN];omega
 ·rw [eQ,List.drop_length];simp only [List.length_nil,cZ,dN];omega
 ·simp
structure BI (all:List aI) (u:Nat->Nat) (i:Nat) (q:List Nat) (done:List Bool) (own:List aI):Prop where
 len:done.length=all.length
 nd:q.Nodup
 lt: ∀k∈q,k<all.length/\u k=i
 hd:i∈q
 dn: ∀k,k<all.length->done[k]? =some (decide (u k<i\/k∈q))
 ow:own.map some=q.map (fun k=>all[k]?)
theorem BI.LB {all:List aI} {u:Nat->Nat} {i:Nat} {q:List Nat} {done:List Bool} {own:List aI} (h:BI all u i q done own):own.length=q.length:=by
 have:=congrArg List.length h.ow
 rwa [cV,cV] at this
theorem BI.yS {all:List aI} {u:Nat->Nat} {i:Nat} {q:List Nat} {done:List Bool} {own:List aI} (h:BI all u i q done own):q.length<=all.length:=by
 have:=fR h.nd (m:=List.range all.length) (fun k hk=>by rw [oX];exact(h.lt k hk).1)
 rwa [List.length_range] at this
theorem BI.at_ {all:List aI} {u:Nat->Nat} {i:Nat} {q:List Nat} {done:List Bool} {own:List aI} (h:BI all u i q done own) {p k:Nat} (hk:q[p]? =some k):own[p]? =all[k]? :=by
 have e:=congrArg (fun l=>l[p]?) h.ow
 simp only [gG,hk,Option.map_some] at e
 cases ho:own[p]? with
 | none=>rw [ho] at e;cases e
 | some x=>rw [ho] at e;injection e
theorem BI.mem {all:List aI} {u:Nat->Nat} {i:Nat} {q:List Nat} {done:List Bool} {own:List aI} (h:BI all u i q done own) {r:aI}:r∈own↔∃k∈q,all[k]? =some r:=by
 have:r∈own↔some r∈own.map some:=by simp
 rw [this,h.ow,dG]
theorem DY {s:List aA} {u:Nat->Nat} {ps:List (List aA)} (hc:eT (s.map bY)) (hP:rl s u ps) (hn: (aS s).length<=2000) (hok: ∀r∈aS s,AU r) (hps: ∀p∈ps,(aS p).length<=2000) (hN:4398046511104<=N):
  fJ N (aS s)=some (ps.map aS):=by
 refine Ok.get ?_
 have hB:=qe hc
 have hpos:=sK hc
 have hJ:=hP.join
 have hlen:=hP.len
 have heach:=hP.each
 clear hP hc
 generalize aS s=all at *
 unfold fJ
 refine Ok.eq (ri false (by omega)) ?_
 have hadj: ∀a b,(xU all a b\/xU all b a)->u a=u b:=fun a b h=>h.elim (fun h=>hJ.co a b h) (fun h=>(hJ.co b a h).symm)
 refine Ok.bind (Ok.pr (n:=all.length) (fun st=>st.2.2) (fun i st=>st.1.length=all.length/\(∀k,k<all.length->st.1[k]? =some (decide (u k<i)))/\st.2.1= (ps.take (bK i u).length).map aS) (Go:=fun st=>st.2.1=ps.map aS) (Rt:=fun _=>False) ?_ ?_ (dH _) rfl
  ⟨by simp,fun k hk=>by simp [hk],by simp [bK]⟩ (by omega)) ?_
 ·rintro i ⟨done,out,ii⟩ hi e ⟨hdl,hdn,hout⟩
  dsimp only at e hdl hdn hout ⊢
  subst e
  rw [kn hi,aP]
  refine Ok.ix (hdn i hi) (Ok.bif (fun hb=>?_) (fun hb=>?_))
  ·have hlt:u i<i:=of_decide_eq_true hb
   refine Ok.nx ⟨bN (by omega),hdl,fun k hk=>?_,?_⟩
   ·rw [hdn k hk]
    congr 1
    rw [decide_eq_decide]
    have hne:u k≠i:=fun e=>by have:=hJ.rr k hk;rw [e] at this;omega
    omega
   ·rw [gD,aG (by omega)];exact hout
  ·have hge: ¬u i<i:=of_decide_eq_false hb
   have hui:u i=i:=by have:=hJ.le i hi;omega
   have hx:all[i]? =some all[i]:=aO hi
   refine Ok.ix (hdn i hi) (Ok.ix hx ?_)
   refine Ok.bind (Ok.jE (Go:=fun st=>st.1.length=all.length/\(∀k,k<all.length->st.1[k]? =some (decide (u k<i+1)))/\(∀r,r∈st.2.1↔r∈nC all all.length u i)/\st.2.1.length<=all.length) (Rt:=fun _=>False)
    (fun st=>∃(q:List Nat) (t:Nat),st.2.2= ((t:Nat):Int)/\t<=q.length/\BI all u i q st.1 st.2.1/\∀(p k j:Nat),p<t->q[p]? =some k->j<all.length->(xU all k j\/xU all j k)->j∈q)
    (fun st=>all.length+1 - st.2.2.toNat) ?_ ⟨[i],0,rfl,by simp,?_,fun p k j hp=>by omega⟩ (by simp;omega)) ?_
   ·rintro⟨d1,o1,t'⟩ ⟨q,t,e,ht,hI,hcl⟩
    dsimp only at e hI ⊢
    subst e
    have hql:=hI.yS
    have hol:=hI.LB
    by_cases hlt:t<q.length
    ·rw [kn (by omega:t<o1.length),aP]
     have hqt:q[t]? =some q[t]:=aO hlt
     have hkt:=hI.lt _ (cN hlt)
     have hya:all[q[t]]? =some all[q[t]]:=aO hkt.1
     refine Ok.bind (Ok.pr (n:=all.length) (fun st=>st.2.2) (fun j st=>∃q',q <+:q'/\BI all u i q' st.1 st.2.1/\∀j',j'<j->(xU all q[t] j'\/xU all j' q[t])->j'∈q')
      (Go:=fun st=>∃q',q <+:q'/\BI all u i q' st.1 st.2.1/\∀j',j'<all.length->(xU all q[t] j'\/xU all j' q[t])->j'∈q') (Rt:=fun _=>False) ?_ ?_ (dH _) rfl ⟨q,List.prefix_refl _,hI,fun j' hj=>by omega⟩ (by omega)) ?_
     ·rintro j ⟨d2,o2,jj⟩ hj e ⟨q',hpre,hI',hc'⟩
      dsimp only at e hI' ⊢
      subst e
      rw [kn hj,aP]
      have hq't:q'[t]? =some q[t]:=by rw [yB hpre hqt]
      have hy2:o2[t]? =some all[q[t]]:=by rw [hI'.at_ hq't];exact hya
      have hz:all[j]? =some all[j]:=aO hj
      have htc:=Gl hB hpos hya hz
      have hcond: ((idx d2 ((j:Nat):Int)).bind fun x1054=>bif (!x1054) then ((idx o2 ((t:Nat):Int)).bind fun x1056=>(idx all ((j:Nat):Int)).bind fun x1058=>(iW N x1056 x1058).bind fun x1061=>some x1061) else (some false))=some (!decide (u j<i\/j∈q')&&decide (AF all[q[t]] all[j])):=by
       rw [dM (hI'.dn j hj),aB]
       cases decide (u j<i\/j∈q') with
       | true=>rfl
       | false=>rw [pT,aP,dM hy2,aB,dM hz,aB,Gm (hok _ (cN hkt.1)) (hok _ (cN hj)),aB,Bool.true_and]
      refine Ok.eq hcond ?_
      refine Ok.bind (P:=fun st:List Bool×List aI=>∃q',q <+:q'/\BI all u i q' st.1 st.2/\∀j',j'<j+1->(xU all q[t] j'\/xU all j' q[t])->j'∈q') (Ok.bif (fun hb=>?_) (fun hb=>?_)) (fun st hst=>Ok.nx ⟨bN (by omega),hst⟩)
      ·rw [bW,Bool.not_eq_true',decide_eq_false_iff_not,bR] at hb
       have hju:u j=i:=by
        rcases htc.1 hb.2 with h | h
        ·rw [<-h];exact hkt.2
        ·rw [<-hadj _ _ h];exact hkt.2
       have hjq:j∉q':=fun h=>hb.1 (.inr h)
       have hol2:=hI'.LB
       have hql2:=hI'.yS
       refine Ok.ix (hI'.dn j hj) (Ok.ix hz (Ok.app (by simp only [dN,List.length_nil];omega) (Ok.ret ⟨q'++[j],hpre.trans (List.prefix_append _ _),⟨?_,?_,?_,?_,?_,?_⟩,?_⟩)))
       ·rw [i9];exact hI'.len
       ·rw [List.nodup_append]
        exact⟨hI'.nd,by simp,fun a ha b hb=>by simp at hb;subst hb;exact fun e=>hjq (e▸ha)⟩
       ·intro k hk
        rcases cY.1 hk with hk | hk
        ·exact hI'.lt k hk
        ·simp at hk;subst hk;exact⟨hj,hju⟩
       ·exact List.mem_append_left _ hI'.hd
       ·intro k hk
        rw [cF,fw]
        by_cases e:j=k
        ·subst e
         rw [aC rfl,aC (by rw [hI'.len];exact hj)]
         congr 1
         exact(bS (.inr (by simp))).symm
        ·rw [aG e,hI'.dn k hk]
         congr 1
         rw [decide_eq_decide,cY]
         simp only [pS]
         constructor
         ·exact fun h=>h.elim .inl (fun h=> .inr (.inl h))
         ·exact fun h=>h.elim .inl (fun h=>h.elim .inr (fun h=>absurd h.symm e))
       ·rw [dP,dP,hI'.ow];simp [hz]
       ·intro j' hj' ha
        by_cases e:j'=j
        ·subst e;simp
        ·exact List.mem_append_left _ (hc' j' (by omega) ha)
      ·refine Ok.ret ⟨q',hpre,hI',fun j' hj' ha=>?_⟩
       by_cases e:j'=j
       ·subst e
        have hj2:u j'=i:=by rw [<-hadj _ _ ha];exact hkt.2
        rw [bS (htc.2 (.inr ha)),Bool.and_true,Bool.not_eq_false',bR] at hb
        rcases hb with hb | hb
        ·omega
        ·exact hb
       ·exact hc' j' (by omega) ha
     ·rintro⟨d2,o2,jj⟩ e hI2
      dsimp only at e hI2 ⊢
      subst e
      rw [mN,aR]
      exact Ok.br hI2
     intro o ho
     refine Ok.cs ho ?_ (fun r hr=>hr.elim)
     rintro⟨d2,o2,jj⟩ ⟨q',hpre,hI',hc'⟩
     dsimp only at hI' ⊢
     refine Ok.nx ⟨⟨q',t+1,bN (by omega),?_,hI',fun p k j hp hk hj ha=>?_⟩,?_⟩
     ·have:=hpre.length_le;omega
     ·by_cases e:p=t
      ·subst e
       rw [yB hpre hqt] at hk;injection hk with hk;subst hk
       exact hc' j hj ha
      ·have hpq:q[p]? =some (q[p]'(by omega)):=aO _
       rw [yB hpre hpq] at hk;injection hk with hk;subst hk
       exact hpre.subset (hcl p _ j (by omega) hpq hj ha)
     ·rw [bN (by omega)];simp only [cF];omega
    ·rw [xL (by omega:o1.length<=t),aR]
     have htq:t=q.length:=by omega
     have hcls: ∀k,k<all.length->(k∈q↔u k=i):=fun k hk=>⟨fun h=>(hI.lt k h).2,fun h=>by
      have hstep: ∀a b,xU all a b->(a∈q↔b∈q):=fun a b hab=>by
       have hab':=hab
       obtain⟨ra,rb,e1,e2,_⟩:=hab'
       have hla:=(bB.1 e1).1
       have hlb:=(bB.1 e2).1
       constructor
       ·intro h'
        obtain⟨p,hp⟩:=dV h'
        exact hcl p a b (by rw [htq];exact(bB.1 hp).1) hp hlb (.inl hab)
       ·intro h'
        obtain⟨p,hp⟩:=dV h'
        exact hcl p b a (by rw [htq];exact(bB.1 hp).1) hp hla (.inr hab)
      exact hJ.fi (fun k=>k∈q) hstep i k hi hk (by rw [hui,h]) hI.hd⟩
     refine Ok.br ⟨hI.len,fun k hk=>?_,fun r=>?_,by rw [hol];exact hql⟩
     ·rw [hI.dn k hk]
      congr 1
      rw [decide_eq_decide,hcls k hk];omega
     ·rw [hI.mem,lN]
      constructor
      ·rintro⟨k,hk,h⟩
       exact⟨k,(hI.lt k hk).1,(hI.lt k hk).2,h⟩
      ·rintro⟨k,hk,h1,h2⟩
       exact⟨k,(hcls k hk).2 h1,h2⟩
   ·refine⟨by rw [i9];exact hdl,by simp,fun k hk=>by simp at hk;subst hk;exact⟨hi,hui⟩,by simp,fun k hk=>?_,by simp [hx]⟩
    rw [cF,fw]
    by_cases e:i=k
    ·subst e
     rw [aC rfl,aC (by rw [hdl];exact hi)]
     congr 1
     exact(bS (.inr (by simp))).symm
    ·rw [aG e,hdn k hk]
     congr 1
     rw [decide_eq_decide]
     simp only [pS]
     omega
   intro o ho
   refine Ok.cs ho ?_ (fun r hr=>hr.elim)
   rintro⟨d1,o1,t'⟩ ⟨g1,g2,g3,g4⟩
   dsimp only at g1 g2 g3 g4 ⊢
   have hh:=HK hi hui
   have hml: (bK i u).length<ps.length:=by rw [hlen];exact(bB.1 hh).1
   have hpp:ps[(bK i u).length]? =some ps[(bK i u).length]:=aO hml
   have mS:=heach _ _ _ hh hpp
   have hcov: ∀x y,t5 (ps[(bK i u).length].map bY) x y=sj o1 x y:=fun x y=>by rw [mS.cover];exact(It g3 x y).symm
   have hpl:=hps _ (cN hml)
   refine Ok.eq (tx mS.can hcov (by omega) (fun r hr=>?_) (by omega) hN) ?_
   ·obtain⟨k,_,_,hk⟩:=lN.1 ((g3 r).1 hr)
    exact(hpos r (eV hk)).1
   have hfirst: ∀(j h:Nat) p,(bK all.length u)[j]? =some h->ps[j]? =some p->∃r t a,aS p=r::t/\all[h]? =some a/\r.X0=a.X0/\r.Y0=a.Y0:=fun j h p hj hp=>by
    have hs:=heach j h p hj hp
    obtain⟨hhl,hhu⟩:=iY.1 (eV hj)
    have ha:all[h]? =some all[h]:=aO hhl
    have hne:p≠[]:=fun e=>by
     have hL:=(BN hB hpos hJ ha hhu).1
     rw [<-hs.cover,e] at hL
     cases hL
    obtain⟨r,t,e1,e2,_⟩:=EO hs.can hne
    have e2':tz (sj (nC all all.length u h)) r.X0 r.Y0:=⟨by rw [<-hs.cover];exact e2.1,fun x' y' hxy=>e2.2 x' y' (by simp only;rw [hs.cover];exact hxy)⟩
    obtain⟨e3,e4⟩:=e2'.unique (BN hB hpos hJ ha hhu)
    exact⟨r,t,all[h],e1,ha,e3,e4⟩
   obtain⟨r,t,a,e1,e2,e3,e4⟩:=hfirst _ _ _ hh hpp
   have hheads: (bK i u).length<=i:=kA i u
   rw [e1]
   refine Ok.eq (insert_eq (by rw [hout,cV,cL];omega) hN (fun x hxl=>?_)) (Ok.nx ⟨bN (by omega),g1,g2,?_⟩)
   ·have hol:out.length= (bK i u).length:=by rw [hout,cV,cL];omega
    have hpos2:0< (bK i u).length:=by
     have:=(bB.1 hxl).1;omega
    rw [hout,gG,cV,cL,show min (bK i u).length ps.length= (bK i u).length by omega,List.getElem?_take_of_lt (by omega)] at hxl
    have hp2:ps[(bK i u).length - 1]? =some (ps[(bK i u).length - 1]'(by omega)):=aO _
    rw [hp2] at hxl
    injection hxl with hxl
    have hh2: (bK i u)[(bK i u).length - 1]? =some ((bK i u)[(bK i u).length - 1]'(by omega)):=aO _
    have hm2:=iY.1 (eV hh2)
    obtain⟨tl,htl⟩:=tA (u:=u) (all.length - i) i
    rw [show i+ (all.length - i)=all.length by omega] at htl
    have hh3: (bK all.length u)[(bK i u).length - 1]? =some ((bK i u)[(bK i u).length - 1]'(by omega)):=by rw [htl,gF (by omega)];exact hh2
    obtain⟨r',t',a',f1,f2,f3,f4⟩:=hfirst _ _ _ hh3 hp2
    refine⟨r',t',by rw [<-hxl];exact f1,?_⟩
    obtain⟨l1,q1⟩:=bB.1 f2
    obtain⟨l2,q2⟩:=bB.1 e2
    have hbh:=mR.1 hB _ _ l1 l2 hm2.1
    rw [q1,q2] at hbh
    have p1:=hpos a' (eV f2)
    unfold qT at hbh
    rw [e3,e4,f3,f4]
    omega
   ·dsimp only
    rw [gD,aC hui,cZ,hout]
    simp only [dN,List.length_nil]
    rw [eC hml,dP,dZ,List.map_nil,e1]
 ·rintro⟨done,out,ii⟩ e ⟨_,_,hout⟩
  dsimp only at e hout ⊢
  subst e
  rw [mN,aR]
  refine Ok.br ?_
  dsimp only
  rw [hout,kV (by rw [hlen];omega)]
 intro o ho
 exact Ok.cs ho (fun s hs=>Ok.ret hs) (fun r hr=>hr.elim)
end
end Go.Gk
namespace Go.Gk
open Go Classical
section
variable {α β:Type}
end
def y6 (p q:fD):Prop:=eJ.lt p.Part q.Part\/(p.Part=q.Part/\eJ.lt p.fD q.fD)
theorem FB {p q:fD} (h1:p.Part=q.Part) (h2:p.fD=q.fD):p=q:=by cases p;cases q;simp at h1 h2;subst h1;subst h2;rfl
theorem y6.irrefl (p:fD): ¬y6 p p:=fun h=>by
 rcases h with h | ⟨_,h⟩
 ·exact eJ.lt_irrefl _ h
 ·exact eJ.lt_irrefl _ h
theorem y6.trans {p q r:fD} (h1:y6 p q) (h2:y6 q r):y6 p r:=by
 rcases h1 with h1 | ⟨e1,h1⟩ <;> rcases h2 with h2 | ⟨e2,h2⟩
 ·exact .inl (eJ.lt_trans h1 h2)
 ·exact .inl (by rw [<-e2];exact h1)
 ·exact .inl (by rw [e1];exact h2)
 ·exact .inr ⟨e1.trans e2,eJ.lt_trans h1 h2⟩
theorem y6.total (p q:fD):y6 p q\/p=q\/y6 q p:=by
 rcases eJ.Ds p.Part q.Part with h | h | h
 ·exact .inl (.inl h)
 ·rcases eJ.Ds p.fD q.fD with h' | h' | h'
  ·exact .inl (.inr ⟨h,h'⟩)
  ·exact .inr (.inl (FB h h'))
  ·exact .inr (.inr (.inr ⟨h.symm,h'⟩))
 ·exact .inr (.inr (.inl h))
theorem y6.asymm {p q:fD} (h:y6 p q): ¬y6 q p:=fun h'=>y6.irrefl p (h.trans h')
theorem y6.ne {p q:fD} (h:y6 p q):p≠q:=fun e=>by subst e;exact y6.irrefl _ h
theorem sL {a b:eJ}:Lib.compareBytes a.cX b.cX=0↔a=b:=⟨fun h=>eJ.ext' ((wh _ _).1 h),fun h=>(wh _ _).2 (by rw [h])⟩
theorem tB {p q:fD}:kZ p q=0↔p=q:=by
 unfold kZ
 by_cases h:Lib.compareBytes p.Part.cX q.Part.cX=0
 ·rw [aG (by simpa using h),sL]
  exact⟨fun h'=>FB (sL.1 h) h',fun h'=>by rw [h']⟩
 ·rw [aC h]
  exact⟨fun h'=>absurd h' h,fun h'=>absurd (sL.2 (by rw [h'])) h⟩
theorem wC {p q:fD}:kZ p q<0↔y6 p q:=by
 unfold kZ y6
 by_cases h:Lib.compareBytes p.Part.cX q.Part.cX=0
 ·rw [aG (by simpa using h),wg]
  have e:=sL.1 h
  constructor
  ·exact fun h'=> .inr ⟨e,h'⟩
  ·rintro(h' | ⟨_,h'⟩)
   ·rw [e] at h';exact absurd h' (eJ.lt_irrefl _)
   ·exact h'
 ·rw [aC h,wg]
  constructor
  ·exact fun h'=> .inl h'
  ·rintro(h' | ⟨e,_⟩)
   ·exact h'
   ·exact absurd (sL.2 e) h
theorem EP {p q:fD}:0<kZ p q↔y6 q p:=by
 constructor
 ·intro h
  rcases y6.total p q with h' | h' | h'
  ·have:=wC.2 h';omega
  ·have:=tB.2 h';omega
  ·exact h'
 ·intro h
  by_cases h1:kZ p q<0
  ·exact absurd (wC.1 h1) h.asymm
  ·by_cases h2:kZ p q=0
   ·exact absurd (tB.1 h2).symm h.ne
   ·omega
section
variable {N:Nat}
structure ER (a:k7) (x:fW):Prop where
 name:nk x.Part=true/\isWord x.fD=true
 Ly:0<=x.cU/\x.cU< ((a.aJ.length:Nat):Int)
 at_:qL x.At=true
structure vl (a:k7):Prop where
 yS:a.bV.length<=1000
 each: ∀x∈a.bV,ER a x
 up:a.bV.Pairwise (fun x y=>y6 (mK x) (mK y))
theorem Cz {a:k7} {k:Nat} {x:fW} (hx:a.bV[k]? =some x) (h:kl a k=none):ER a x/\∀y,0<k->a.bV[k - 1]? =some y->y6 (mK y) (mK x):=by
 unfold kl at h
 rw [hx,Option.bind_some] at h
 split at h
 ·rename_i h1
  split at h
  ·rename_i h2
   split at h
   ·cases h
   ·rename_i h3
    rw [bW] at h1 h2
    unfold fU at h2
    rw [bW,bR,bR] at h2
    refine⟨⟨h1,⟨by omega,by omega⟩,h2.2⟩,fun y hk hy=>?_⟩
    have h4: ¬kZ (mK x) (mK y)<=0:=fun h4=>h3 ⟨hk,y,hy,h4⟩
    exact EP.1 (by omega)
  ·cases h
 ·cases h
theorem AG {a:k7} {k:Nat} {e:Int} (h:kl a k=some e):e≠0:=by
 unfold kl at h
 cases hx:a.bV[k]? with
 | none=>rw [hx] at h;cases h
 | some x=>
  rw [hx,Option.bind_some] at h
  repeat' split at h
  all_goals first | (injection h with h;omega) | cases h
theorem Gn {a:k7} (h:mL a=0):vl a:=by
 unfold mL at h
 split at h
 ·omega
 rename_i hl
 have hn:vu a.bV.length (kl a)=none:=by
  cases hf:vu a.bV.length (kl a) with
  | none=>rfl
  | some e=>
   rw [hf] at h
   obtain⟨k,_,hk,_⟩:=oS.1 hf
   exact absurd h (AG hk)
 rw [nZ] at hn
 have hg: ∀(k:Nat) x,a.bV[k]? =some x->ER a x/\∀y,0<k->a.bV[k - 1]? =some y->y6 (mK y) (mK x):=fun k x hx=>Cz hx (hn k (bB.1 hx).1)
 refine⟨by omega,fun x hx=>?_,?_⟩
 ·obtain⟨k,hk⟩:=dV hx
  exact(hg k x hk).1
 ·have hstep: ∀(n i:Nat) x y,a.bV[i]? =some x->a.bV[i+n+1]? =some y->y6 (mK x) (mK y):=by
   intro n
   induction n with
   | zero=>intro i x y hx hy;exact(hg (i+1) y hy).2 x (by omega) hx
   | succ n ih=>
    intro i x y hx hy
    have hz:i+n+1<a.bV.length:=by have:=(bB.1 hy).1;omega
    have h1:=ih i x _ hx (aO hz)
    exact h1.trans ((hg (i+ (n+1)+1) y hy).2 _ (by omega) (by rw [show i+ (n+1)+1 - 1=i+n+1 by omega];exact aO hz))
  rw [mR]
  intro i j hi hj hij
  exact hstep (j - i - 1) i _ _ (aO hi) (by rw [show i+ (j - i - 1)+1=j by omega];exact aO hj)
theorem vl.inj {a:k7} (h:vl a) {i j:Nat} {x y:fW} (hx:a.bV[i]? =some x) (hy:a.bV[j]? =some y) (e:mK x=mK y):i=j:=by
 obtain⟨h1,rfl⟩:=bB.1 hx
 obtain⟨h2,rfl⟩:=bB.1 hy
 have hp:=mR.1 h.up
 rcases Nat.lt_trichotomy i j with h3 | h3 | h3
 ·exact absurd e (hp i j h1 h2 h3).ne
 ·exact h3
 ·exact absurd e.symm (hp j i h2 h1 h3).ne
end
end Go.Gk
namespace Go.Gk
open Go Classical
theorem uX {α β:Type} {l:List α} {f:α->Option β} {k:Nat} {x:α} {c:β} (hx:l[k]? =some x) (hn: ∀(j:Nat) y,j<k->l[j]? =some y->f y=none) (hc:f x=some c):l.findSome? f=some c:=by
 obtain⟨hk,rfl⟩:=bB.1 hx
 rw [List.findSome?_eq_some_iff]
 refine⟨l.take k,l[k],l.drop (k+1),?_,hc,fun y hy=>?_⟩
 ·rw [List.getElem_cons_drop,List.take_append_drop]
 ·obtain⟨j,hj⟩:=dV hy
  have hjk:j<k:=by have:=(bB.1 hj).1;rw [cL] at this;omega
  exact hn j y hjk (by rw [List.getElem?_take_of_lt hjk] at hj;exact hj)
theorem y7 {α β:Type} {l:List α} {f:α->Option β} (h: ∀(j:Nat) y,j<l.length->l[j]? =some y->f y=none):l.findSome? f=none:=by
 rw [List.findSome?_eq_none_iff]
 intro x hx
 obtain⟨j,hj⟩:=dV hx
 exact h j x (bB.1 hj).1 hj
section
variable {N:Nat}
theorem LC (c:UInt8): (bif (!((((decide (((c.toNat:Nat):Int)>=97))&&(decide (((c.toNat:Nat):Int)<=122)))||((decide (((c.toNat:Nat):Int)>=65))&&(decide (((c.toNat:Nat):Int)<=90))))||((decide (((c.toNat:Nat):Int)>=48))&&(decide (((c.toNat:Nat):Int)<=57))))) then ((gR N (⟨[95,43,45,35]⟩) ((c.toNat:Nat):Int)).bind fun x50=>some (decide (x50<0))) else (some false))=some (DC c):=by
 rw [tn,aB]
 unfold DC
 generalize decide (Lib.indexByte (⟨[95,43,45,35]⟩:eJ).cX c<0)=p
 have e: (!((((decide (((c.toNat:Nat):Int)>=97))&&(decide (((c.toNat:Nat):Int)<=122)))||((decide (((c.toNat:Nat):Int)>=65))&&(decide (((c.toNat:Nat):Int)<=90))))||((decide (((c.toNat:Nat):Int)>=48))&&(decide (((c.toNat:Nat):Int)<=57)))))= ((((decide (((c.toNat:Nat):Int)<65))||(decide (((c.toNat:Nat):Int)>90)))&&((decide (((c.toNat:Nat):Int)<97))||(decide (((c.toNat:Nat):Int)>122))))&&((decide (((c.toNat:Nat):Int)<48))||(decide (((c.toNat:Nat):Int)>57)))):=by
  rw [fu]
  simp only [Bool.not_eq_true',Bool.or_eq_false_iff,Bool.and_eq_false_iff,decide_eq_false_iff_not,bW,dK,bR]
  omega
 rw [e]
 cases ((((decide (((c.toNat:Nat):Int)<65))||(decide (((c.toNat:Nat):Int)>90)))&&((decide (((c.toNat:Nat):Int)<97))||(decide (((c.toNat:Nat):Int)>122))))&&((decide (((c.toNat:Nat):Int)<48))||(decide (((c.toNat:Nat):Int)>57)))) with
 | true=>rw [aP,Bool.true_and]
 | false=>rw [aR,Bool.false_and]
theorem y8 {s:eJ} (h:s.cX.length<=1048576) (hN:4194304<=N):gv N s=some (isWord s):=by
 refine Ok.get ?_
 unfold gv isWord
 refine Ok.bind (Ok.pr (n:=s.cX.length) (fun s=>s) (fun k _=>∀(j:Nat) x,j<k->s.cX[j]? =some x->DC x=false) (Go:=fun _=>s.cX.any DC=false) (Rt:=fun r=>r=false/\s.cX.any DC=true) ?_ ?_ (dH _) rfl (fun j x hj=>by omega) (by omega)) ?_
 ·rintro k i hk e hI
  subst e
  rw [kn hk,aP]
  refine Ok.eq (Dr s k hk) (Ok.eq (LC _) (Ok.bif (fun hb=>Ok.rt ⟨rfl,kW.2 ⟨_,cN hk,hb⟩⟩) (fun hb=>Ok.nx ⟨bN (by omega),fun j x hj hx=>?_⟩)))
  by_cases e:j=k
  ·subst e;rw [aO hk] at hx;injection hx with hx;rw [<-hx];exact hb
  ·exact hI j x (by omega) hx
 ·rintro i e hI
  subst e
  rw [mN,aR]
  refine Ok.br ?_
  rw [List.any_eq_false]
  intro x hx
  obtain⟨j,hj⟩:=dV hx
  rw [hI j x (bB.1 hj).1 hj];exact l8
 intro o ho
 refine Ok.cs ho (fun s' hs'=>?_) (fun r hr=>Ok.ret (by rw [hr.1,hr.2];rfl))
 rw [hs']
 show Ok ((some _).bind _) _
 refine Ok.ret ?_
 rw [pT,Bool.true_and]
 congr 1 <;> · rw [decide_eq_decide];omega
theorem DZ {s:eJ} (h:s.cX.length<=1048576) (hN:4194304<=N):jB N s=some (nk s):=by
 refine Ok.get ?_
 unfold jB nk
 refine Ok.eq (DE 47 h hN) ?_
 have hsn:=BF s 47
 refine Ok.bind (Ok.pr (n:=(nP s 47).length) (fun s=>s) (fun k _=>∀(j:Nat) x,j<k->(nP s 47)[j]? =some x->isWord x=true) (Go:=fun _=>(nP s 47).all isWord=true) (Rt:=fun r=>r=false/\(nP s 47).all isWord=false) ?_ ?_ (dH _) rfl (fun j x hj=>by omega) (by omega)) ?_
 ·rintro k i hk e hI
  subst e
  rw [kn hk,aP]
  have hx: (nP s 47)[k]? =some (nP s 47)[k]:=aO hk
  have hl:=BE (cN hk)
  refine Ok.ix hx (Ok.eq (y8 (by omega) hN) (Ok.bif (fun hb=>Ok.rt ⟨rfl,?_⟩) (fun hb=>Ok.nx ⟨bN (by omega),fun j x hj hx'=>?_⟩)))
  ·rw [List.all_eq_false]
   exact⟨_,cN hk,by simpa using hb⟩
  ·by_cases e:j=k
   ·subst e;rw [hx] at hx';injection hx' with hx';rw [<-hx'];simpa using hb
   ·exact hI j x (by omega) hx'
 ·rintro i e hI
  subst e
  rw [mN,aR]
  refine Ok.br ?_
  rw [kX]
  intro x hx
  obtain⟨j,hj⟩:=dV hx
  exact hI j x (bB.1 hj).1 hj
 intro o ho
 refine Ok.cs ho (fun s' hs'=>Ok.ret ?_) (fun r hr=>Ok.ret (by rw [hr.1,hr.2,Bool.and_false]))
 rw [hs',Bool.and_true,decide_eq_decide];omega
theorem rq (n lo hi:Int):dY N n lo hi=some (fU n lo hi):=rfl
theorem lZ {b:cE} (h:pQ b=true):cI N b=some (t6 b):=mI (N:=N) h
theorem yC {b:cE}:gM N b=some (mg b).2:=by
 have e1: (bif (!(fU b.dE 1 10000)) then (some true) else (some (!(qL b.At))))=some (!pQ b):=by unfold pQ;cases fU b.dE 1 10000 <;> rfl
 have e2: ∀n,cR N n=some (lB n):=fun _=>rfl
 unfold gM mg
 rw [rq,aB,yR,aB,e1,aB]
 cases hf:pQ b with
 | false=>rfl
 | true=>
  rw [nE,aR,lZ hf,aB]
  simp only [e2,aB]
  unfold fB
  cases lB (t6 b).X0 <;> cases lB (t6 b).Y0 <;> cases lB (t6 b).X1 <;> cases lB (t6 b).Y1 <;> rfl
theorem JV {x y:fW}: ((x.Part.sN y.Part)||((x.Part.sM y.Part)&&(x.fD.sN y.fD||x.fD.sM y.fD)))=decide (kZ (mK x) (mK y)<=0):=by
 have hle:kZ (mK x) (mK y)<=0↔y6 (mK x) (mK y)\/mK x=mK y:=by
  rw [<-wC,<-tB];omega
 rw [fu,bR,hle,dK,bW,dK,Cb,Cb]
 unfold y6 mK
 simp only [fD.mk.injEq]
 constructor
 ·rintro(h | ⟨h1,h2 | h2⟩)
  ·exact .inl (.inl h)
  ·exact .inl (.inr ⟨h1,h2⟩)
  ·exact .inr ⟨h1,h2⟩
 ·rintro((h | ⟨h1,h2⟩) | ⟨h1,h2⟩)
  ·exact .inl h
  ·exact .inr ⟨h1, .inl h2⟩
  ·exact .inr ⟨h1, .inr h2⟩
theorem AH {a:k7} (hc:a.aJ.length<=1073741824) (hl:a.bV.length<=1073741824) {k:Nat} {x:fW} (hx:a.bV[k]? =some x) (hn:x.Part.cX.length<=1048576/\x.fD.cX.length<=1048576) (hN:4194304<=N):iD N a ((k:Nat):Int)=some ((kl a k).getD 0):=by
 have hk:=(bB.1 hx).1
 have hw:IntKind.wrap .i64 (((a.aJ.length:Nat):Int) - 1)= ((a.aJ.length:Nat):Int) - 1:=fz (by omega) (by omega)
 unfold iD kl
 rw [dM hx,aB,DZ hn.1 hN,aB,hx,Option.bind_some]
 have e1: (bif (!(nk x.Part)) then (some true) else ((gv N x.fD).bind fun x44=>some (!x44)))=some (!(nk x.Part&&isWord x.fD)):=by
  rw [y8 hn.2 hN,aB]
  cases nk x.Part <;> rfl
 rw [e1,aB]
 cases h1: (nk x.Part&&isWord x.fD) with
 | false=>rw [pT,aP,aG l8];rfl
 | true=>
  rw [nE,aR,aC rfl,hw,rq,aB]
  have e2: (bif (!(fU x.cU 0 (((a.aJ.length:Nat):Int) - 1))) then (some true) else ((fZ N x.At).bind fun x57=>some (!x57)))=some (!(fU x.cU 0 (((a.aJ.length:Nat):Int) - 1)&&qL x.At)):=by
   rw [yR,aB]
   cases fU x.cU 0 (((a.aJ.length:Nat):Int) - 1) <;> rfl
  rw [e2,aB]
  cases h2: (fU x.cU 0 (((a.aJ.length:Nat):Int) - 1)&&qL x.At) with
  | false=>rw [pT,aP,aG l8];rfl
  | true=>
   rw [nE,aR,aC rfl]
   by_cases h0:0<k
   ·have hy:a.bV[k - 1]? =some (a.bV[k - 1]'(by omega)):=aO _
    rw [bS (by omega),aP,jm h0 (by omega),dM hy,aB,JV]
    by_cases h3:kZ (mK x) (mK (a.bV[k - 1]'(by omega)))<=0
    ·rw [bS h3,aP,aC ⟨h0,_,hy,h3⟩];rfl
    ·rw [cD h3,aR,aG (by rintro⟨_,y,hy',h4⟩;rw [hy] at hy';injection hy' with hy';subst hy';exact h3 h4)];rfl
   ·rw [cD (by omega),aR,aG (fun h=>h0 h.1)];rfl
noncomputable def lP (a:k7):Int:=if a.aJ.length=0 then 9 else if 16<a.aJ.length then 2 else match a.aJ.findSome? vG with
 | some e=>e
 | none=>if jW a.cG≠0 then jW a.cG else if 2000<a.cG.length+ (a.aJ.map List.length).sum then 2 else if jf a≠0 then jf a else mL a
theorem D0 (a:k7):kO a=if lP a≠0 then lP a else if qP a then 12 else 0:=by
 unfold kO lP HD DM
 by_cases h0:a.aJ.length=0
 ·rw [aC h0,aC h0,aC (by decide)]
 rw [aG h0,aG h0]
 by_cases h1:16<a.aJ.length
 ·rw [aC h1,aC h1,aC (by decide)]
 rw [aG h1,aG h1]
 cases hf:a.aJ.findSome? vG with
 | some e=>
  have he:e≠0:=by
   obtain⟨_,x,_,_,hx,_⟩:=List.findSome?_eq_some_iff.1 hf
   unfold vG at hx
   split at hx
   ·rename_i h;injection hx with hx;rw [<-hx];exact h
   ·cases hx
  dsimp only
  rw [aC he]
 | none=>
  dsimp only
  by_cases h2:jW a.cG≠0
  ·rw [aC h2,aC h2,aC h2]
  rw [aG h2,aG h2]
  by_cases h3:2000<a.cG.length+ (a.aJ.map List.length).sum
  ·rw [aC h3,aC h3,aC (by decide)]
  rw [aG h3,aG h3]
  by_cases h4:jf a≠0
  ·rw [aC h4,aC h4,aC h4]
  rw [aG h4,aG h4]
theorem AJ {a:k7} (h:lP a=0):jf a=0:=by
 unfold lP at h
 by_cases h0:a.aJ.length=0
 ·rw [aC h0] at h;omega
 rw [aG h0] at h
 by_cases h1:16<a.aJ.length
 ·rw [aC h1] at h;omega
 rw [aG h1] at h
 cases hf:a.aJ.findSome? vG with
 | some e=>
  rw [hf] at h
  have h:e=0:=h
  obtain⟨_,x,_,_,hx,_⟩:=List.findSome?_eq_some_iff.1 hf
  unfold vG at hx
  split at hx
  ·rename_i h';injection hx with hx;rw [hx] at h';exact absurd h h'
  ·cases hx
 | none=>
  rw [hf] at h
  dsimp only at h
  by_cases h2:jW a.cG≠0
  ·rw [aC h2] at h;exact absurd h h2
  rw [aG h2] at h
  by_cases h3:2000<a.cG.length+ (a.aJ.map List.length).sum
  ·rw [aC h3] at h;omega
  rw [aG h3] at h
  by_cases h4:jf a≠0
  ·rw [aC h4] at h;exact absurd h h4
  ·simpa using h4
theorem zo {a:k7} (hs:uT a) (hN:4398046511104<=N):gZ N a=some (lP a):=by
 refine Ok.get ?_
 have c1:=hs.cs
 have c2:=hs.out
 have c3:=hs.bs
 have c4:=hs.ls
 unfold gZ lP
 refine Ok.bif (fun h=>Ok.ret ?_) (fun h=>?_)
 ·rw [aC (by have:=beq_iff_eq.1 h;omega)]
 have h0: ¬a.aJ.length=0:=by rw [beq_eq_false_iff_ne] at h;omega
 rw [aG h0]
 refine Ok.bif (fun h=>Ok.ret ?_) (fun h=>?_)
 ·rw [aC (by have:=of_decide_eq_true h;omega)]
 have h1: ¬16<a.aJ.length:=by have:=of_decide_eq_false h;omega
 rw [aG h1]
 have sumle: ∀k,k<=a.aJ.length->((a.aJ.take k).map List.length).sum<=k*1048576:=by
  intro k
  induction k with
  | zero=>intro _;simp
  | succ k ih=>
   intro hk
   have:=ih (by omega)
   have h2:=hs.each _ (cN (show k<a.aJ.length by omega))
   rw [eC (by omega),dP,List.sum_append]
   simp only [dZ,List.map_nil,List.sum_cons,List.sum_nil]
   rw [Nat.add_mul];omega
 refine Ok.bind (Ok.pr (n:=a.aJ.length) (fun s=>s.2) (fun k s=>s.1= ((a.cG.length+ ((a.aJ.take k).map List.length).sum:Nat):Int)/\∀(j:Nat) r,j<k->a.aJ[j]? =some r->vG r=none)
  (Go:=fun s=>s.1= ((a.cG.length+ (a.aJ.map List.length).sum:Nat):Int)/\a.aJ.findSome? vG=none) (Rt:=fun r=>a.aJ.findSome? vG=some r) ?_ ?_ (dH _) rfl ⟨by simp,fun j r hj=>by omega⟩ (by omega)) ?_
 ·rintro k ⟨m,i⟩ hk e ⟨hm,hI⟩
  dsimp only at e hm ⊢
  subst e;subst hm
  have hx:a.aJ[k]? =some a.aJ[k]:=aO hk
  have he:=hs.each _ (cN hk)
  have hsl:=sumle k (by omega)
  rw [kn hk,aP]
  refine Ok.ix hx (Ok.eq (tL (by omega) hN) (Ok.bif (fun hb=>Ok.rt ?_) (fun hb=>Ok.ix hx (Ok.nx ⟨bN (by omega),?_,fun j r hj hr=>?_⟩))))
  ·exact uX hx hI (by unfold vG;rw [aC (by simpa using hb)])
  ·dsimp only
   rw [wrap_add (by omega),eC hk,dP,List.sum_append]
   simp only [dZ,List.map_nil,List.sum_cons,List.sum_nil]
   omega
  ·by_cases e:j=k
   ·subst e;rw [hx] at hr;injection hr with hr;rw [<-hr]
    unfold vG;rw [aG (by simpa using hb)]
   ·exact hI j r (by omega) hr
 ·rintro⟨m,i⟩ e ⟨hm,hI⟩
  dsimp only at e hm ⊢
  subst e
  rw [mN,aR]
  rw [eQ] at hm
  exact Ok.br ⟨hm,y7 hI⟩
 intro o ho
 refine Ok.cs ho ?_ (fun r hr=>Ok.ret (by rw [hr]))
 rintro⟨m,i⟩ ⟨hm,hf⟩
 dsimp only at hm ⊢
 subst hm
 rw [hf]
 dsimp only
 refine Ok.eq (tL (by omega) hN) (Ok.bif (fun h=>Ok.ret ?_) (fun h=>?_))
 ·rw [aC (by simpa using h)]
 rw [aG (by simpa using h)]
 have hmr:Ok (bif (decide (((a.cG.length+ (a.aJ.map List.length).sum:Nat):Int)>2000)) then (some true) else (some (decide (((a.aM.length:Nat):Int)>500)))) (fun b=>b=decide (2000<a.cG.length+ (a.aJ.map List.length).sum\/500<a.aM.length)):=by
  by_cases h2:2000<a.cG.length+ (a.aJ.map List.length).sum
  ·rw [bS (by omega),aP];exact Ok.ret (bS (.inl h2)).symm
  ·rw [cD (by omega),aR]
   refine Ok.ret ?_
   rw [decide_eq_decide];omega
 refine Ok.bind hmr fun b hb=>?_
 subst hb
 refine Ok.bif (fun h=>Ok.ret ?_) (fun h=>?_)
 ·have h:=of_decide_eq_true h
  by_cases h2:2000<a.cG.length+ (a.aJ.map List.length).sum
  ·rw [aC h2]
  ·rw [aG h2]
   have hb:jf a=2:=by unfold jf;rw [aC (by omega)]
   rw [hb,aC (by decide)]
 have h:=of_decide_eq_false h
 rw [aG (by omega)]
 have hbe:jf a= (a.aM.findSome? (lI a.aJ.length)).getD 0:=by unfold jf;rw [aG (by omega)]
 have hw:IntKind.wrap .i64 (((a.aJ.length:Nat):Int) - 1)= ((a.aJ.length:Nat):Int) - 1:=fz (by omega) (by omega)
 refine Ok.bind (Ok.pr (n:=a.aM.length) (fun s=>s) (fun k _=>∀(j:Nat) b,j<k->a.aM[j]? =some b->lI a.aJ.length b=none) (Go:=fun _=>a.aM.findSome? (lI a.aJ.length)=none) (Rt:=fun r=>a.aM.findSome? (lI a.aJ.length)=some r/\r≠0) ?_ ?_ (dH _) rfl (fun j b hj=>by omega) (by omega)) ?_
 ·rintro k i hk e hI
  subst e
  rw [kn hk,aP]
  have hx:a.aM[k]? =some a.aM[k]:=aO hk
  refine Ok.ix hx (Ok.eq yC (Ok.bif (fun hb=>Ok.rt ?_) (fun hb=>?_)))
  ·have hb: (mg a.aM[k]).2≠0:=by simpa using hb
   exact⟨uX hx hI (by unfold lI;rw [aC hb]),hb⟩
  ·have hb: ¬(mg a.aM[k]).2≠0:=by simpa using hb
   rw [hw]
   have e2: ((dY N a.aM[k].cM 0 (((a.aJ.length:Nat):Int) - 1)).bind fun x135=>bif (!x135) then (some true) else ((dY N a.aM[k].To a.aM[k].cM (((a.aJ.length:Nat):Int) - 1)).bind fun x138=>some (!x138)))=some (!(fU a.aM[k].cM 0 (((a.aJ.length:Nat):Int) - 1)&&fU a.aM[k].To a.aM[k].cM (((a.aJ.length:Nat):Int) - 1))):=by
    rw [rq,aB,rq,aB]
    cases fU a.aM[k].cM 0 (((a.aJ.length:Nat):Int) - 1) <;> rfl
   refine Ok.eq e2 (Ok.bif (fun h3=>Ok.rt ⟨uX hx hI ?_,by decide⟩) (fun h3=>Ok.nx ⟨bN (by omega),fun j b hj hb'=>?_⟩))
   ·unfold lI
    rw [aG hb,aG (by rintro⟨g1,g2⟩;rw [g1,g2] at h3;cases h3)]
   ·by_cases e:j=k
    ·subst e;rw [hx] at hb';injection hb' with hb';rw [<-hb']
     rw [Bool.not_eq_false',bW] at h3
     unfold lI;rw [aG hb,aC h3]
    ·exact hI j b (by omega) hb'
 ·rintro i e hI
  subst e
  rw [mN,aR]
  exact Ok.br (y7 hI)
 intro o ho
 refine Ok.cs ho ?_ (fun r hr=>Ok.ret ?_)
 rotate_left
 ·rw [hbe,hr.1,Option.getD_some,aC hr.2]
 intro _ hbn
 rw [hbe,hbn,Option.getD_none,aG (by decide)]
 unfold mL
 refine Ok.bif (fun h=>Ok.ret ?_) (fun h=>?_)
 ·rw [aC (by have:=of_decide_eq_true h;omega)]
 have h5: ¬1000<a.bV.length:=by have:=of_decide_eq_false h;omega
 rw [aG h5]
 refine Ok.bind (Ok.pr (n:=a.bV.length) (fun s=>s) (fun k _=>∀j,j<k->kl a j=none) (Go:=fun _=>vu a.bV.length (kl a)=none) (Rt:=fun r=>vu a.bV.length (kl a)=some r) ?_ ?_ (dH _) rfl (fun j hj=>by omega) (by omega)) ?_
 ·rintro k i hk e hI
  subst e
  rw [kn hk,aP]
  have hx:a.bV[k]? =some a.bV[k]:=aO hk
  refine Ok.eq (AH (by omega) (by omega) hx (hs.nm _ (cN hk)) (by omega)) (Ok.bif (fun hb=>Ok.rt ?_) (fun hb=>Ok.nx ⟨bN (by omega),fun j hj=>?_⟩))
  ·cases hl:kl a k with
   | none=>rw [hl] at hb;cases hb
   | some e=>exact oS.2 ⟨k,hk,hl,hI⟩
  ·by_cases e:j=k
   ·subst e
    cases hl:kl a j with
    | none=>rfl
    | some e=>rw [hl] at hb;exact absurd (by simpa using hb) (AG hl)
   ·exact hI j (by omega)
 ·rintro i e hI
  subst e
  rw [mN,aR]
  exact Ok.br (nZ.2 hI)
 intro o ho
 exact Ok.cs ho (fun _ h=>Ok.ret (by rw [h];rfl)) (fun r hr=>Ok.ret (by rw [hr];rfl))
theorem tC (b:cE) (k:Int):eU N b k=some (jS b k):=rfl
theorem uY {a:k7} {i:Nat} {r:List aI} {s:List aA} (hb:kB a.aM) (hr:a.aJ[i]? =some r) (hrl:r.length<=2000) (hro: ∀x∈r,AU x) (hd:tp r (jY a.aM ((i:Nat):Int)) s) (hN:4398046511104<=N):gm N a ((i:Nat):Int)=some (aS s):=by
 refine Ok.get ?_
 have hbl:=hb.len
 have hhl:=yu hb ((i:Nat):Int)
 have hho:=qM hb ((i:Nat):Int)
 unfold gm
 refine Ok.bind (Ok.pr (n:=a.aM.length) (fun s=>s.2) (fun k st=>st.1=jY (a.aM.take k) ((i:Nat):Int)) (Go:=fun st=>st.1=jY a.aM ((i:Nat):Int)) (Rt:=fun _=>False) ?_ ?_ (dH _) rfl rfl (by omega)) ?_
 ·rintro k ⟨out,ii⟩ hk e hI
  dsimp only at e hI ⊢
  subst e;subst hI
  have hx:a.aM[k]? =some a.aM[k]:=aO hk
  have hts:jY (a.aM.take (k+1)) ((i:Nat):Int)=if jS a.aM[k] ((i:Nat):Int)=true then jY (a.aM.take k) ((i:Nat):Int)++[t6 a.aM[k]] else jY (a.aM.take k) ((i:Nat):Int):=by
   unfold jY
   rw [eC hk,kh,dP]
   by_cases h:jS a.aM[k] ((i:Nat):Int)=true
   ·rw [aC h];simp [h]
   ·rw [aG h];simp [h]
  have hlen: (jY (a.aM.take k) ((i:Nat):Int)).length<=k:=by
   unfold jY
   rw [cV]
   have:=l9 (fun b=>jS b ((i:Nat):Int)) (a.aM.take k)
   rw [cL] at this;omega
  rw [kn hk,aP]
  refine Ok.ix hx (Ok.eq (tC _ _) (Ok.bind (P:=fun st:List aI=>st=jY (a.aM.take (k+1)) ((i:Nat):Int)) (Ok.bif (fun h=>?_) (fun h=>Ok.ret ?_)) (fun st hst=>Ok.nx ⟨bN (by omega),hst⟩)))
  ·refine Ok.ix hx (Ok.eq (lZ (hb.ok _ (cN hk)).1) (Ok.app (by simp only [dN,List.length_nil];omega) (Ok.ret ?_)))
   rw [hts,aC h]
  ·rw [hts,aG (by rw [jU];exact h)]
 ·rintro⟨out,ii⟩ e hI
  dsimp only at e hI ⊢
  subst e
  rw [mN,aR]
  exact Ok.br (by rw [eQ] at hI;exact hI)
 intro o ho
 refine Ok.cs ho ?_ (fun r hr=>hr.elim)
 rintro⟨hs,ii⟩ hI
 dsimp only at hI ⊢
 subst hI
 obtain⟨t,_,ht⟩:=oT (N:=N) (l:=jY a.aM ((i:Nat):Int)) (by omega) (fun x hx=>(hho x hx).1) (by omega)
 obtain⟨z1,z2,z3⟩:=ht.DF
 have z4:2* (jY a.aM ((i:Nat):Int)).length* (2* (jY a.aM ((i:Nat):Int)).length)<=1000*1000:=Nat.mul_le_mul (by omega) (by omega)
 refine Ok.ix hr (Ok.eq (tx ht.can ht.cover (by omega) (fun x hx=>(hho x hx).1.x) (by omega) hN) ?_)
 unfold kj
 have hsz:=(vh (A:=5000) hd.can hd.lim (by rw [cZ,lM,lM];omega) (by rw [cZ,jD,jD];omega)).2.2
 have hc:gH N r (aS t) 3=some (aS s):=DW hd.can (fun x y=>by
  rw [hd.cover,oU ht.can,ht.cover];unfold qS;simp) (by omega) (by omega) (fun x hx=>(hro x hx).x) (fun x hx=>(sK ht.can x hx).1) (by omega) hN
 rw [hc,aB,aB]
 exact Ok.ret rfl
theorem vm: ∀(gq:List (List (List aA))) (k:Nat),(dO k gq).length= (gq.map List.length).sum
 | [],k=>rfl
 | ps::gq,k=>by
  show (ps.map _++dO (k+1) gq).length=_
  rw [cZ,cV,vm gq (k+1),dZ,List.sum_cons]
theorem Gp {a:k7} {mP:List (List aA)} {gq:List (List (List aA))} (hg:o4 a) (hD:wy a.aJ a.aM a.aJ.length mP gq) {i:Nat} {s:List aA} (hi:i<a.aJ.length) (hd:mP[i]? =some s) (hf: (aS s).length<=2000): ∃ps u,gq[i]? =some ps/\pN a.aJ[i] (jY a.aM ((i:Nat):Int)) s u ps:=by
 have hp:gq[i]? =some (gq[i]'(by rw [hD.zm];exact hi)):=aO _
 have hdr:=hD.dr i _ _ hi (aO hi) hd
 obtain⟨u,hu⟩:=hD.pt i _ _ hi hd hp
 have hreg:=uS.1 (hg.M5 _ (cN hi))
 exact⟨_,u,hp,fun x hx=>((oZ.1 hreg.1).2 x hx).1,fun x hx=>(qM hg.gb _ x hx).2,(Ap hreg.1).2,fun x hx=>(qM hg.gb _ x hx).1,hdr,hu,hf⟩
theorem pN.pieces {r hs:List aI} {s:List aA} {u:Nat->Nat} {ps:List (List aA)} (h:pN r hs s u ps) (hN:4398046511104<=N):fJ N (aS s)=some (ps.map aS):=by
 refine DY h.dr.can h.pt h.yS (fun q hq=>?_) (fun p hp=>(h.part hp).2.1) hN
 obtain⟨h1,h2,h3⟩:=FA h.r1 h.r2 h.dr.can h.dr.lim q hq
 exact Cp h1 h2 h3
theorem ES {a b:aI} (ha:a.X0<a.X1/\a.Y0<a.Y1) (hb:b.X0<b.X1/\b.Y0<b.Y1):f0 N a b=some (DL a b):=by
 unfold f0
 rw [tv,tv,tw,tw]
 have e1:decide (min a.X1 b.X1>max a.X0 b.X0)=xK a.X0 a.X1 b.X0 b.X1:=by
  unfold xK
  rw [fu,bW,bR,bR,bR];omega
 have e2:decide (min a.Y1 b.Y1>max a.Y0 b.Y0)=xK a.Y0 a.Y1 b.Y0 b.Y1:=by
  unfold xK
  rw [fu,bW,bR,bR,bR];omega
 rw [e1,e2]
 unfold DL
 cases xK a.X0 a.X1 b.X0 b.X1 <;> rfl
theorem sq_pos {b:cE} (h:pQ b=true): (t6 b).X0< (t6 b).X1/\(t6 b).Y0< (t6 b).Y1:=by
 obtain⟨h1,_,_⟩:=rm h
 simp only [t6];omega
inductive Checked (N:Nat) (a:k7):Prop
 | err (e:Int) (he:e≠0) (h1:i5 N a=some (none,e)) (h2:dB N a=some e)
 | ok {mP:List (List aA)} {gq:List (List (List aA))} {r:Nat->Nat} {gs:List cC} {ofP ofB sG:List Int} {sH:List km} (b:oV a mP gq r gs ofP ofB sG sH)
  (h1:i5 N a=some (some (a.aJ,a.cG,a.aM,a.bV,mP,dO 0 gq,fM a.aM (dO 0 gq),gs,ofP,ofB,sG,sH),0)) (h2:dB N a=some 0)
theorem FC {a:k7} (hb:kB a.aM) (hN:4398046511104<=N) {f:Int->Option Int} {Q:Int->Prop} (hc:qP a->Q 12) (hn: ¬qP a->∀s,Ok (f s) Q):
  Ok ((jE (fun(s35:Int)=>(bif (decide (s35< (a.aM.length:Int))) then ((jE (fun(s622:Int)=>(bif (decide (s622<s35)) then (((idx a.aM s35).bind fun x869=>(idx a.aM s622).bind fun x873=>(iE N x869 x873).bind fun x876=>bif x876 then ((idx a.aM s35).bind fun x879=>(cI N x879).bind fun x882=>(idx a.aM s622).bind fun x885=>(cI N x885).bind fun x888=>(f0 N x882 x888).bind fun x890=>some x890) else (some false)).bind fun s867=>bif s867 then (some (.rt 12)) else (some (.nx (IntKind.wrap .i64 (s622+1))))) else (some (.br s622)):Option (Fl (Int) Int))) N 0).bind fun o911=>o911.cs (fun(s622:Int)=>some (.nx (IntKind.wrap .i64 (s35+1)))) (fun r=>some (.rt r))) else (some (.br s35)):Option (Fl (Int) Int))) N 0).bind fun o933=>o933.cs f (fun r=>some r)) Q:=by
 have hbl:=hb.len
 refine Ok.bind (Ok.pr (n:=a.aM.length) (fun s=>s) (fun k _=>∀(i j:Nat) (x y:cE),i<k->j<i->a.aM[i]? =some x->a.aM[j]? =some y->¬qO x y=true) (Go:=fun _=>¬qP a) (Rt:=fun r=>r=12/\qP a) ?_ ?_ (dH _) rfl (fun i j x y hi=>by omega) (by omega)) ?_
 ·rintro k s hk e hI
  subst e
  rw [kn hk,aP]
  have hx:a.aM[k]? =some a.aM[k]:=aO hk
  have fx:=(hb.ok _ (cN hk)).1
  refine Ok.bind (Ok.pr (n:=k) (fun s=>s) (fun t _=>∀(j:Nat) (y:cE),j<t->a.aM[j]? =some y->¬qO a.aM[k] y=true) (Go:=fun _=>∀(j:Nat) (y:cE),j<k->a.aM[j]? =some y->¬qO a.aM[k] y=true) (Rt:=fun r=>r=12/\qP a) ?_ ?_ (dH _) rfl (fun j y hj=>by omega) (by omega)) ?_
  ·rintro t s ht e hI2
   subst e
   rw [kn ht,aP]
   have hy:a.aM[t]? =some (a.aM[t]'(by omega)):=aO _
   have fy:=(hb.ok _ (cN (show t<a.aM.length by omega))).1
   have hcond: ((idx a.aM ((k:Nat):Int)).bind fun x869=>(idx a.aM ((t:Nat):Int)).bind fun x873=>(iE N x869 x873).bind fun x876=>bif x876 then ((idx a.aM ((k:Nat):Int)).bind fun x879=>(cI N x879).bind fun x882=>(idx a.aM ((t:Nat):Int)).bind fun x885=>(cI N x885).bind fun x888=>(f0 N x882 x888).bind fun x890=>some x890) else (some false))=some (qO a.aM[k] (a.aM[t]'(by omega))):=by
    rw [dM hx,aB,dM hy,aB]
    unfold iE qO
    rw [aB]
    cases (decide (a.aM[k].cM<=(a.aM[t]'(by omega)).To)&&decide ((a.aM[t]'(by omega)).cM<=a.aM[k].To)) with
    | false=>rfl
    | true=>rw [aP,aB,lZ fx,aB,aB,lZ fy,aB,ES (sq_pos fx) (sq_pos fy),aB,Bool.true_and]
   refine Ok.eq hcond (Ok.bif (fun h=>Ok.rt ⟨rfl,k,t,_,_,ht,hx,hy,h⟩) (fun h=>Ok.nx ⟨bN (by omega),fun j y hj hjy=>?_⟩))
   by_cases e:j=t
   ·subst e;rw [hy] at hjy;injection hjy with hjy;rw [<-hjy,h];exact l8
   ·exact hI2 j y (by omega) hjy
  ·rintro s e hI2
   subst e
   rw [mN,aR]
   exact Ok.br hI2
  intro o ho
  refine Ok.cs ho (fun s hs=>Ok.nx ⟨bN (by omega),fun i j x y hi hj hix hjy=>?_⟩) (fun r hr=>Ok.rt hr)
  by_cases e:i=k
  ·subst e;rw [hx] at hix;injection hix with hix;rw [<-hix];exact hs j y hj hjy
  ·exact hI i j x y (by omega) hj hix hjy
 ·rintro s e hI
  subst e
  rw [mN,aR]
  refine Ok.br ?_
  rintro⟨i,j,x,y,hij,hx,hy,hc⟩
  exact hI i j x y (bB.1 hx).1 hij hx hy hc
 intro o ho
 exact Ok.cs ho (fun s hs=>hn hs s) (fun r hr=>Ok.ret (by rw [hr.1];exact hc hr.2))
theorem checked {a:k7} (hs:uT a) (hN:4398046511104<=N):Checked N a:=by
 obtain⟨x,hx,hI⟩:=BJ (N:=N) hs hN
 have hbe:=D0 a
 have hcp:=zo (N:=N) hs hN
 rcases hI with ⟨he,rfl⟩ | ⟨h0,hg,hcl,mP,gq,D,hI⟩
 ·refine .err _ he hx (Ok.get ?_)
  unfold dB
  refine Ok.eq hcp ?_
  by_cases h:lP a≠0
  ·rw [aC h] at hbe
   rw [show (lP a != 0)=true by simpa using h,aP,hbe];exact Ok.ret rfl
  ·rw [aG h] at hbe
   have hp0:lP a=0:=by simpa using h
   have hc:qP a:=by
    by_cases hc:qP a
    ·exact hc
    ·rw [aG hc] at hbe;exact absurd hbe he
   rw [aC hc] at hbe
   rw [hp0,show ((0:Int) != 0)=false by rfl,aR]
   have hbo:=AJ hp0
   refine FC ⟨(lY hbo).1,fun b hb=>⟨((lY hbo).2 b hb).1,((lY hbo).2 b hb).2.1⟩⟩ hN (fun _=>hbe.symm) (fun h=>absurd hc h)
 ·have hp0:lP a=0:=by
   by_cases h:lP a≠0
   ·rw [aC h] at hbe;rw [hbe] at h0;exact h0
   ·simpa using h
  have key:dB N a=some (if J4 mP gq then 0 else 2):=by
   refine Ok.get ?_
   unfold dB
   refine Ok.eq hcp ?_
   rw [hp0,show ((0:Int) != 0)=false by rfl,aR]
   refine FC hg.gb hN (fun h=>absurd h hcl) (fun _ _=>?_)
   have hc16:=hg.yS.2
   refine Ok.bind (Ok.pr (n:=a.aJ.length) (fun s=>s.2) (fun k st=>st.1= ((((gq.take k).map List.length).sum:Nat):Int)/\((gq.take k).map List.length).sum<=k*2000/\∀(j:Nat) s,j<k->mP[j]? =some s->(aS s).length<=2000)
    (Go:=fun st=>st.1= (((gq.map List.length).sum:Nat):Int)/\∀s∈mP,(aS s).length<=2000) (Rt:=fun r=>r=2/\¬J4 mP gq) ?_ ?_ (dH _) rfl ⟨by simp,by simp,fun j s hj=>by omega⟩ (by omega)) ?_
   ·rintro k ⟨m,i⟩ hk e ⟨hm,hml,hI2⟩
    dsimp only at e hm ⊢
    subst e;subst hm
    rw [kn hk,aP]
    have hcx:a.aJ[k]? =some a.aJ[k]:=aO hk
    have hd:mP[k]? =some (mP[k]'(by rw [D.len];exact hk)):=aO _
    have hcs:=hg.cs _ (cN hk)
    refine Ok.eq (uY hg.gb hcx hcs.1 hcs.2 (D.dr k _ _ hk hcx hd) hN) (Ok.bif (fun h=>Ok.rt ⟨rfl,fun hf=>?_⟩) (fun h=>?_))
    ·have:=hf.1 _ (eV hd)
     have:=of_decide_eq_true h
     omega
    ·have hf: (aS (mP[k]'(by rw [D.len];exact hk))).length<=2000:=by have:=of_decide_eq_false h;omega
     obtain⟨ps,u,hp,L⟩:=Gp hg D hk hd hf
     have hpl:=L.pt.yS
     have hkp:k<gq.length:=by rw [D.zm];exact hk
     have hpe:gq[k]=ps:=by rw [aO hkp] at hp;injection hp
     refine Ok.eq (L.pieces hN) (Ok.nx ⟨bN (by omega),?_,?_,fun j s hj hjs=>?_⟩)
     ·dsimp only
      rw [cV,wrap_add (by omega),eC hkp,dP,List.sum_append,hpe]
      simp
     ·rw [eC hkp,dP,List.sum_append,hpe]
      simp only [dZ,List.map_nil,List.sum_cons,List.sum_nil]
      rw [Nat.add_mul];omega
     ·by_cases e:j=k
      ·subst e;rw [hd] at hjs;injection hjs with hjs;rw [<-hjs];exact hf
      ·exact hI2 j s (by omega) hjs
   ·rintro⟨m,i⟩ e ⟨hm,hml,hI2⟩
    dsimp only at e hm ⊢
    subst e
    rw [mN,aR]
    rw [kV (by rw [D.zm];exact bU _)] at hm
    refine Ok.br ⟨hm,fun s hs'=>?_⟩
    obtain⟨j,hj⟩:=dV hs'
    exact hI2 j s (by have:=(bB.1 hj).1;rw [D.len] at this;exact this) hj
   intro o ho
   refine Ok.cs ho ?_ (fun r hr=>Ok.ret (by rw [hr.1,aG hr.2]))
   rintro⟨m,i⟩ ⟨hm,hf⟩
   dsimp only at hm ⊢
   subst hm
   have hpl:=vm gq 0
   refine Ok.bif (fun h=>Ok.ret ?_) (fun h=>Ok.ret ?_)
   ·rw [aG]
    rintro⟨_,h2⟩
    have:=of_decide_eq_true h
    omega
   ·rw [aC]
    exact⟨hf,by have:=of_decide_eq_false h;omega⟩
  rcases hI with ⟨hf,rfl⟩ | ⟨hf,r,gs,ofP,ofB,sG,sH,hC,rfl⟩
  ·rw [aG hf] at key
   exact .err 2 (by decide) hx key
  ·rw [aC hf] at key
   exact .ok ⟨hg,hcl,D,hf,hC⟩ hx key
end
end Go.Gk
namespace Go.Gk
open Go Classical
theorem xP: ∀{l m:List Int},jd l->jd m->(∀x,x∈l↔x∈m)->l=m
 | [],[],_,_,_=>rfl
 | [],b::m,_,_,h=>absurd ((h b).2 (by simp)) (by simp)
 | a::l,[],_,_,h=>absurd ((h a).1 (by simp)) (by simp)
 | a::l,b::m,hl,hm,h=>by
  have h1:a=b:=by
   have ha:=(h a).1 (by simp)
   have hb:=(h b).2 (by simp)
   rcases dC.1 ha with e | ha
   ·exact e
   ·rcases dC.1 hb with e | hb
    ·exact e.symm
    ·have:=hl.head b hb
     have:=hm.head a ha
     omega
  subst h1
  rw [xP hl.tail hm.tail fun x=>?_]
  have hx:=h x
  rw [dC,dC] at hx
  constructor
  ·intro hxl
   rcases hx.1 (.inr hxl) with e | h'
   ·have:=hl.head x hxl;omega
   ·exact h'
  ·intro hxm
   rcases hx.2 (.inr hxm) with e | h'
   ·have:=hm.head x hxm;omega
   ·exact h'
theorem AK {l:List Nat} (h:l.Pairwise (· < ·)):jd (ints l):=by
 unfold jd ints
 rw [List.pairwise_map]
 exact h.imp fun h=>by omega
section
variable {N:Nat}
theorem wD {l:List Int} {c:Int} (h:jd l) (hl:l.length<=1000000000) (hN:4398046511104<=N):gz N l c=some (qc l c):=by
 refine Ok.get ?_
 unfold gz
 refine Ok.bind (Ok.jE (Go:=fun s=>∃a:Nat,s= ((a:Nat):Int)/\a<=l.length/\(∀(j:Nat) x,a<=j->l[j]? =some x->c<x)/\(∀x,0<a->l[a - 1]? =some x->¬c<x)) (Rt:=fun _=>False)
  (fun s=>∃a:Nat,s= ((a:Nat):Int)/\a<=l.length/\∀(j:Nat) x,a<=j->l[j]? =some x->c<x) (fun s=>s.toNat) ?_ ⟨l.length,rfl,bU _,fun j x hj hx=>by have:=(bB.1 hx).1;omega⟩ (by simp only [cF];omega)) ?_
 ·rintro s ⟨a,rfl,ha,hI⟩
  by_cases h0:0<a
  ·have hx:l[a - 1]? =some (l[a - 1]'(by omega)):=aO _
   rw [bS (by omega),aP,jm h0 (by omega),dM hx,aB,aB]
   refine Ok.bif (fun hb=>?_) (fun hb=>?_)
   ·have hb:=of_decide_eq_true hb
    refine Ok.nx ⟨⟨a - 1,rfl,by omega,fun j x hj hx'=>?_⟩,by simp only [cF];omega⟩
    by_cases e:j=a - 1
    ·subst e;rw [hx] at hx';injection hx' with hx';rw [<-hx'];exact hb
    ·exact hI j x (by omega) hx'
   ·have hb:=of_decide_eq_false hb
    exact Ok.br ⟨a,rfl,ha,hI,fun x _ hx'=>by rw [hx] at hx';injection hx' with hx';rw [<-hx'];exact hb⟩
  ·rw [cD (by omega),aR,aB,aR]
   exact Ok.br ⟨a,rfl,ha,hI,fun x h=>absurd h h0⟩
 intro o ho
 refine Ok.cs ho ?_ (fun r hr=>hr.elim)
 rintro s ⟨a,rfl,ha,hI,hE⟩
 have hlow: ∀(j:Nat) x,j<a->l[j]? =some x->x<=c:=fun j x hj hx=>by
  have hy:l[a - 1]? =some (l[a - 1]'(by omega)):=aO _
  have h1:=hE _ (by omega) hy
  by_cases e:j=a - 1
  ·subst e;rw [hy] at hx;injection hx with hx;omega
  ·have:=h.lt (i:=j) (j:=a - 1) (by omega) hx hy;omega
 have hout:c∉l->qc l c=l.take a++c::l.drop a:=fun hc=>by
  unfold qc
  rw [aG hc]
  obtain⟨e1,e2⟩:=p9 (p:=fun x=>decide (x<c)) (l:=l) (k:=a) (fun j x hj hx=>bS (by
   have h1:=hlow j x hj hx
   have h2:x≠c:=fun e=>hc (e▸eV hx)
   omega)) (fun x hx=>cD (by have:=hI a x (bU _) hx;omega))
  rw [e1,e2]
 have hrest:c∉l->Ok ((sO l 0 ((a:Nat):Int)).bind fun x61=>(app 8 ([]: (List Int)) x61).bind fun x63=>(app 8 x63 ([c]: (List Int))).bind fun x66=>(sO l ((a:Nat):Int) ((l.length:Nat):Int)).bind fun x68=>(app 8 x66 x68).bind fun x70=>some x70) (fun r=>r=qc l c):=fun hc=>by
  have htk: (l.take a).length=a:=by rw [cL];omega
  refine Ok.eq (qy l a ha) (Ok.app (by simp only [List.length_nil];omega) (Ok.app (by rw [List.nil_append];simp only [dN,List.length_nil];omega) (Ok.eq (o9 l a ha) (Ok.app ?_ (Ok.ret ?_)))))
  ·rw [List.nil_append,cZ,iI];simp only [dN,List.length_nil];omega
  ·rw [hout hc];simp
 by_cases h0:0<a
 ·have hx:l[a - 1]? =some (l[a - 1]'(by omega)):=aO _
  rw [bS (by omega),aP,jm h0 (by omega),dM hx,aB,aB]
  refine Ok.bif (fun hb=>Ok.ret ?_) (fun hb=>hrest ?_)
  ·rw [beq_iff_eq] at hb
   unfold qc;rw [aC (by rw [<-hb];exact eV hx)]
  ·rw [beq_eq_false_iff_ne] at hb
   intro hc
   obtain⟨j,hj⟩:=dV hc
   by_cases h1:a<=j
   ·have:=hI j c h1 hj;omega
   ·by_cases e:j=a - 1
    ·subst e;rw [hx] at hj;injection hj with hj;exact hb hj
    ·have:=h.lt (i:=j) (j:=a - 1) (by omega) hj hx
     have:=hlow (a - 1) _ (by omega) hx
     omega
 ·rw [cD (by omega),aR,aB,aR]
  refine hrest fun hc=>?_
  obtain⟨j,hj⟩:=dV hc
  have:=hI j c (by omega) hj;omega
theorem tD {l:List Int} {c:Int} (hl:l.length<=1099511627776) (hN:4398046511104<=N):cS N l c=some (decide (c∈l)):=by
 refine Ok.get ?_
 unfold cS
 refine Ok.bind (Ok.pr (n:=l.length) (fun s=>s) (fun k _=>∀(j:Nat) x,j<k->l[j]? =some x->x≠c) (Go:=fun _=>c∉l) (Rt:=fun r=>r=true/\c∈l) ?_ ?_ (dH _) rfl (fun j x hj=>by omega) (by omega)) ?_
 ·rintro k s hk e hI
  subst e
  rw [kn hk,aP]
  have hx:l[k]? =some l[k]:=aO hk
  refine Ok.ix hx (Ok.bif (fun hb=>Ok.rt ⟨rfl,?_⟩) (fun hb=>Ok.nx ⟨bN (by omega),fun j x hj hx'=>?_⟩))
  ·rw [beq_iff_eq] at hb
   exact hb▸cN hk
  ·by_cases e:j=k
   ·subst e;rw [hx] at hx';injection hx' with hx';rw [<-hx'];exact beq_eq_false_iff_ne.1 hb
   ·exact hI j x (by omega) hx'
 ·rintro s e hI
  subst e
  rw [mN,aR]
  refine Ok.br fun hc=>?_
  obtain⟨j,hj⟩:=dV hc
  exact hI j c (bB.1 hj).1 hj rfl
 intro o ho
 exact Ok.cs ho (fun s hs=>Ok.ret (cD hs).symm) (fun r hr=>Ok.ret (by rw [hr.1,bS hr.2]))
theorem HL {p q:aI} (hp:p.X0<p.X1/\p.Y0<p.Y1) (hq:q.X0<q.X1/\q.Y0<q.Y1):p8 p q=decide ((0<min p.X1 q.X1 - max p.X0 q.X0/\min p.Y1 q.Y1 - max p.Y0 q.Y0=0)\/(min p.X1 q.X1 - max p.X0 q.X0=0/\0<min p.Y1 q.Y1 - max p.Y0 q.Y0)):=by
 unfold p8
 rw [fu]
 simp only [dK,bW,bR,beq_iff_eq]
 constructor
 ·rintro(h | h)
  ·left;omega
  ·right;omega
 ·rintro(h | h)
  ·left;omega
  ·right;omega
theorem IG {l:List aI} {q:aI} (hl:l.length<=1000000000) (ho: ∀r∈l,AU r) (hq:AU q) (hN:4398046511104<=N):ji N l q=some (l.any (fun r=>p8 r q)):=by
 refine Ok.get ?_
 unfold ji
 refine Ok.bind (Ok.pr (n:=l.length) (fun s=>s) (fun k _=>∀(j:Nat) x,j<k->l[j]? =some x->p8 x q=false) (Go:=fun _=>l.any (fun r=>p8 r q)=false) (Rt:=fun r=>r=true/\l.any (fun r=>p8 r q)=true) ?_ ?_ (dH _) rfl (fun j x hj=>by omega) (by omega)) ?_
 ·rintro k s hk e hI
  subst e
  rw [kn hk,aP]
  have hx:l[k]? =some l[k]:=aO hk
  have hr:=ho _ (cN hk)
  have hb:=HL (p:=l[k]) (q:=q) ⟨hr.x,hr.y⟩ ⟨hq.x,hq.y⟩
  have a1:=hr.s1;have a2:=hr.s2;have a3:=hr.s3;have a4:=hr.s4
  have b1:=hq.s1;have b2:=hq.s2;have b3:=hq.s3;have b4:=hq.s4
  unfold small at a1 a2 a3 a4 b1 b2 b3 b4
  refine Ok.ix hx (Ok.ix hx (Ok.ix hx (Ok.ix hx ?_)))
  rw [tv,tv,tw,tw,fz (x:=min l[k].X1 q.X1 - max l[k].X0 q.X0) (by omega) (by omega),fz (x:=min l[k].Y1 q.Y1 - max l[k].Y0 q.Y0) (by omega) (by omega)]
  have e: ((decide (min l[k].X1 q.X1 - max l[k].X0 q.X0>0)&&(min l[k].Y1 q.Y1 - max l[k].Y0 q.Y0==0))||((min l[k].X1 q.X1 - max l[k].X0 q.X0==0)&&decide (min l[k].Y1 q.Y1 - max l[k].Y0 q.Y0>0)))=p8 l[k] q:=by
   rw [hb,fu]
   simp only [dK,bW,bR,beq_iff_eq,gt_iff_lt]
  rw [e]
  refine Ok.bif (fun h=>Ok.rt ⟨rfl,kW.2 ⟨_,cN hk,h⟩⟩) (fun h=>Ok.nx ⟨bN (by omega),fun j x hj hx'=>?_⟩)
  by_cases e:j=k
  ·subst e;rw [hx] at hx';injection hx' with hx';rw [<-hx'];exact h
  ·exact hI j x (by omega) hx'
 ·rintro s e hI
  subst e
  rw [mN,aR]
  refine Ok.br ?_
  rw [List.any_eq_false]
  intro x hx
  obtain⟨j,hj⟩:=dV hx
  rw [hI j x (bB.1 hj).1 hj];exact l8
 intro o ho
 exact Ok.cs ho (fun s hs=>Ok.ret hs.symm) (fun r hr=>Ok.ret (by rw [hr.1,hr.2]))
theorem yD (r:List aI) (p:jt):yT r p=sj r p.X p.Y:=by
 unfold yT sj
 congr 1
 funext x
 rw [fu]
 simp only [bW,bR,ge_iff_le,and_assoc]
theorem y9 {r:List aI} {p:jt} (hl:r.length<=134217728) (hr: ∀x∈r,x.X0<x.X1) (hN:4398046511104<=N):eO N r p=some (yT r p):=by
 refine Ok.get ?_
 unfold eO
 refine Ok.bind (Ct hl hN) fun s hs=>?_
 have hsl:s.length<=r.length:=by have:=qR r p.Y;rw [<-hs,cV] at this;exact this
 refine Ok.eq (yy (by omega) hN) (Ok.ret ?_)
 rw [hs,(sJ hr p.Y).2,yD]
def HM (bs:List cE) (pcs:List aK) (l:fW):Option km:=match pcs.findIdx? (kN l) with
 | some k=>some ⟨false,((k:Nat):Int)⟩
 | none=>(bs.findIdx? (lx l)).map fun k=>⟨true,((k:Nat):Int)⟩
theorem IH {bs:List cE} {pcs:List aK} {l:fW} (hd: ∀b∈bs,∀p∈pcs,lx l b=true->kN l p=true->False):HM bs pcs l=zn bs pcs l:=by
 unfold HM zn
 cases h1:pcs.findIdx? (kN l) with
 | none=>cases bs.findIdx? (lx l) <;> rfl
 | some k=>
  cases h2:bs.findIdx? (lx l) with
  | none=>rfl
  | some j=>
   obtain⟨hk,hp,_⟩:=List.findIdx?_eq_some_iff_getElem.1 h1
   obtain⟨hj,hb,_⟩:=List.findIdx?_eq_some_iff_getElem.1 h2
   exact(hd _ (cN hj) _ (cN hk) hb hp).elim
theorem AL {α:Type} {l:List α} {p:α->Bool} {k:Nat} {x:α} (hx:l[k]? =some x) (hp:p x=true) (hn: ∀(j:Nat) y,j<k->l[j]? =some y->p y=false):l.findIdx? p=some k:=by
 obtain⟨hk,rfl⟩:=bB.1 hx
 rw [List.findIdx?_eq_some_iff_getElem]
 exact⟨hk,hp,fun j hj=>by rw [hn j _ hj (aO _)];exact l8⟩
theorem AM {α:Type} {l:List α} {p:α->Bool} (hn: ∀(j:Nat) y,j<l.length->l[j]? =some y->p y=false):l.findIdx? p=none:=by
 rw [List.findIdx?_eq_none_iff]
 intro x hx
 obtain⟨j,hj⟩:=dV hx
 exact hn j x (bB.1 hj).1 hj
theorem Gq {bs:List cE} {pcs:List aK} (hb:kB bs) (hp:pcs.length<=1000000) (hr: ∀p∈pcs,p.iN.length<=1000000/\∀x∈p.iN,x.X0<x.X1) (l:fW) (hN:4398046511104<=N):
  gN N bs (pcs.map aK.cU) (pcs.map aK.iN) l=some ((HM bs pcs l).getD ⟨false,0⟩,(HM bs pcs l).isSome):=by
 refine Ok.get ?_
 have hbl:=hb.len
 unfold gN HM
 rw [cV]
 refine Ok.bind (Ok.pr (n:=pcs.length) (fun s=>s) (fun k _=>∀(j:Nat) x,j<k->pcs[j]? =some x->kN l x=false) (Go:=fun _=>pcs.findIdx? (kN l)=none) (Rt:=fun r=>∃k:Nat,pcs.findIdx? (kN l)=some k/\r= (⟨false,((k:Nat):Int)⟩,true)) ?_ ?_ (dH _) rfl (fun j x hj=>by omega) (by omega)) ?_
 ·rintro k s hk e hI
  subst e
  rw [kn hk,aP]
  have hx:pcs[k]? =some pcs[k]:=aO hk
  have hlx: (pcs.map aK.cU)[k]? =some pcs[k].cU:=by rw [gG,hx];rfl
  have hrx: (pcs.map aK.iN)[k]? =some pcs[k].iN:=by rw [gG,hx];rfl
  have hrl:=hr _ (cN hk)
  have hcond: ((idx (pcs.map aK.cU) ((k:Nat):Int)).bind fun x88=>bif (x88==l.cU) then ((idx (pcs.map aK.iN) ((k:Nat):Int)).bind fun x91=>(eO N x91 l.At).bind fun x95=>some x95) else (some false))=some (kN l pcs[k]):=by
   rw [dM hlx,aB,dM hrx,aB,y9 (by omega) hrl.2 hN,aB]
   unfold kN
   cases pcs[k].cU==l.cU <;> rfl
  refine Ok.eq hcond (Ok.bif (fun h=>Ok.rt ⟨k,AL hx h hI,rfl⟩) (fun h=>Ok.nx ⟨bN (by omega),fun j x hj hx'=>?_⟩))
  by_cases e:j=k
  ·subst e;rw [hx] at hx';injection hx' with hx';rw [<-hx'];exact h
  ·exact hI j x (by omega) hx'
 ·rintro s e hI
  subst e
  rw [mN,aR]
  exact Ok.br (AM hI)
 intro o ho
 refine Ok.cs ho ?_ (fun r hr=>by obtain⟨k,h1,h2⟩:=hr;rw [h1,h2];exact Ok.ret rfl)
 intro _ hno
 rw [hno]
 dsimp only
 refine Ok.bind (Ok.pr (n:=bs.length) (fun s=>s) (fun k _=>∀(j:Nat) x,j<k->bs[j]? =some x->lx l x=false) (Go:=fun _=>bs.findIdx? (lx l)=none) (Rt:=fun r=>∃k:Nat,bs.findIdx? (lx l)=some k/\r= (⟨true,((k:Nat):Int)⟩,true)) ?_ ?_ (dH _) rfl (fun j x hj=>by omega) (by omega)) ?_
 ·rintro k s hk e hI
  subst e
  rw [kn hk,aP]
  have hx:bs[k]? =some bs[k]:=aO hk
  have hg:=hb.ok _ (cN hk)
  have hcond: ((idx bs ((k:Nat):Int)).bind fun x301=>bif x301.eH then ((idx bs ((k:Nat):Int)).bind fun x305=>(eU N x305 l.cU).bind fun x308=>bif x308 then ((idx bs ((k:Nat):Int)).bind fun x310=>(cI N x310).bind fun x313=>(eO N ([x313]: (List aI)) l.At).bind fun x317=>some x317) else (some false)) else (some false))=some (lx l bs[k]):=by
   rw [dM hx,aB,aB,tC,aB,aB,lZ hg.1,aB,y9 (by simp) (fun x hx=>by simp at hx;subst hx;exact(sq_pos hg.1).1) hN,aB]
   unfold lx
   cases bs[k].eH with
   | false=>rfl
   | true=>cases jS bs[k] l.cU <;> rfl
  refine Ok.eq hcond (Ok.bif (fun h=>Ok.rt ⟨k,AL hx h hI,rfl⟩) (fun h=>Ok.nx ⟨bN (by omega),fun j x hj hx'=>?_⟩))
  by_cases e:j=k
  ·subst e;rw [hx] at hx';injection hx' with hx';rw [<-hx'];exact h
  ·exact hI j x (by omega) hx'
 ·rintro s e hI
  subst e
  rw [mN,aR]
  exact Ok.br (AM hI)
 intro o ho
 exact Ok.cs ho (fun _ h=>Ok.ret (by rw [h];rfl)) (fun r hr=>by obtain⟨k,h1,h2⟩:=hr;rw [h1,h2];exact Ok.ret rfl)
end
section
variable {N:Nat} {a:k7} {mP:List (List aA)} {gq:List (List (List aA))} {r:Nat->Nat} {gs:List cC} {ofP ofB sG:List Int} {sH:List km}
theorem D1 (b:oV a mP gq r gs ofP ofB sG sH) {p:aK} (hp:p∈dO 0 gq):p.iN.length<=2000/\(∀q∈p.iN,fB q=true/\q.X0<q.X1/\q.Y0<q.Y1)/\∃i:Nat,p.cU= ((i:Nat):Int)/\∀x y,sj p.iN x y=true->sj (jY a.aM ((i:Nat):Int)) x y=false:=by
 obtain⟨i,ps,q,h1,h2,rfl⟩:=yw hp
 have hil:i<a.aJ.length:=by have:=(bB.1 h1).1;rw [b.dr.zm] at this;exact this
 obtain⟨s,ps',u,g1,g2,L⟩:=y5 b hil
 rw [h1] at g2;injection g2 with g2;subst g2
 obtain⟨k1,k2,k3⟩:=L.part h2
 refine⟨k2,k3,i,by simp,fun x y h=>?_⟩
 have h3:sj (ps.flatMap aS) x y=true:=y4.2 ⟨q,h2,h⟩
 rw [L.cover,L.dr.cover,bW,Bool.not_eq_true'] at h3
 exact h3.2
theorem II (b:oV a mP gq r gs ofP ofB sG sH) (l:fW): ∀x∈a.aM,∀p∈dO 0 gq,lx l x=true->kN l p=true->False:=fun x hx p hp h1 h2=>by
 obtain⟨_,_,i,e,hc⟩:=D1 b hp
 unfold lx at h1
 unfold kN at h2
 rw [bW,bW,yD] at h1
 rw [bW,yD,beq_iff_eq] at h2
 have h3:=hc _ _ h2.2
 rw [<-e,h2.1] at h3
 obtain⟨q,hq,hxy⟩:=iU.1 h1.2.2
 simp at hq
 subst hq
 have h4:sj (jY a.aM l.cU) l.At.X l.At.Y=true:=iU.2 ⟨t6 x,dG.2 ⟨x,i7.2 ⟨hx,h1.2.1⟩,rfl⟩,hxy⟩
 rw [h3] at h4;cases h4
end
end Go.Gk
namespace Go.Gk
open Go Classical
structure PS (n:Nat) (r:Nat->Nat) (h:Nat) (q:List Nat) (seen:List Bool) (pieces todo:List Int):Prop where
 sl:seen.length=n
 sn: ∀p,p<n->seen[p]? =some (decide (r p<h\/p∈q))
 qn:q.Nodup
 qi: ∀p∈q,p<n/\r p=h
 q0:h∈q
 td:todo=ints q
 pi:jd pieces
 pm: ∀x,x∈pieces↔∃p∈q,x= ((p:Nat):Int)
structure QS (n m:Nat) (tch:List (List Int)) (r:Nat->Nat) (h:Nat) (q qb:List Nat) (xI:List Int) (used:List Bool):Prop where
 ul:used.length=m
 un: ∀k,k<m->used[k]? =some (decide (k∈qb))
 bi:jd xI
 bm: ∀x,x∈xI↔∃k∈qb,x= ((k:Nat):Int)
 bk: ∀k∈qb,k<m/\r (n+k)=h/\∀l,tch[k]? =some l->∀p:Nat,((p:Nat):Int)∈l->p∈q
theorem PS.yS {n:Nat} {r:Nat->Nat} {h:Nat} {q:List Nat} {seen:List Bool} {pieces todo:List Int} (H:PS n r h q seen pieces todo):q.length<=n/\pieces.length<=n:=by
 have h1:=fR H.qn (m:=List.range n) (fun k hk=>by rw [oX];exact(H.qi k hk).1)
 rw [List.length_range] at h1
 have h2:=fR H.pi.nodup (m:=ints q) (fun x hx=>mM.2 ((H.pm x).1 hx))
 rw [jT] at h2
 exact⟨h1,by omega⟩
theorem QS.yS {n m:Nat} {tch:List (List Int)} {r:Nat->Nat} {h:Nat} {q qb:List Nat} {xI:List Int} {used:List Bool} (H:QS n m tch r h q qb xI used):xI.length<=m:=by
 have h2:=fR H.bi.nodup (m:=ints (List.range m)) (fun x hx=>by
  obtain⟨k,hk,e⟩:=(H.bm x).1 hx
  exact mM.2 ⟨k,oX.2 (H.bk k hk).1,e⟩)
 rwa [jT,List.length_range] at h2
theorem JW (n t:Nat) (r:Nat->Nat) (h:Nat):jd (ints (gP n (cls t r h))):=AK (List.Pairwise.sublist (List.filter_sublist.trans List.filter_sublist) (List.pairwise_lt_range (n:=t)))
theorem HN (bs:List cE) (n t:Nat) (r:Nat->Nat) (h:Nat):jd (ints (gB bs n (cls t r h))):=by
 refine AK ?_
 unfold gB
 rw [List.pairwise_map]
 have hp: (List.filter (fun i=> !decide (i<n)&&sF bs (i - n)) (cls t r h)).Pairwise (· < ·):=List.Pairwise.sublist (List.filter_sublist.trans List.filter_sublist) (List.pairwise_lt_range (n:=t))
 refine hp.imp_of_mem fun{a b} ha hb hab=>?_
 have h1:=(i7.1 ha).2
 rw [bW,Bool.not_eq_true',decide_eq_false_iff_not] at h1
 omega
theorem yE {n t:Nat} {r:Nat->Nat} {h p:Nat}:p∈gP n (cls t r h)↔p<n/\p<t/\r p=h:=by
 unfold gP
 rw [i7,o0,bR]
 constructor
 ·rintro⟨⟨h1,h2⟩,h3⟩;exact⟨h3,h1,h2⟩
 ·rintro⟨h3,h1,h2⟩;exact⟨⟨h1,h2⟩,h3⟩
theorem yF {bs:List cE} {n t:Nat} {r:Nat->Nat} {h k:Nat}:k∈gB bs n (cls t r h)↔n+k<t/\r (n+k)=h/\sF bs k=true:=by
 unfold gB
 rw [dG]
 constructor
 ·rintro⟨i,hi,rfl⟩
  rw [i7,o0,bW,Bool.not_eq_true',decide_eq_false_iff_not] at hi
  have e:n+ (i - n)=i:=by omega
  rw [e]
  exact⟨hi.1.1,hi.1.2,hi.2.2⟩
 ·rintro⟨h1,h2,h3⟩
  refine⟨n+k,?_,by omega⟩
  rw [i7,o0,bW,Bool.not_eq_true',decide_eq_false_iff_not,Nat.add_sub_cancel_left]
  exact⟨⟨h1,h2⟩,by omega,h3⟩
section
variable {N:Nat}
theorem D2 {bs:List cE} {n m:Nat} {tch:List (List Int)} {r:Nat->Nat} (hC:Iz n m tch r) (hm:tch.length=m) (ht: ∀l∈tch,l.length<=1073741824/\∀x∈l,∃i:Nat,i<n/\x= ((i:Nat):Int)) (hn:n<=1000000) (hm2:m<=1000000)
  (hpl: ∀(k:Nat) l,tch[k]? =some l->l≠[]->sF bs k=true) {h:Nat} (hh:h<n) (hr:r h=h) {seen:List Bool} (hsl:seen.length=n) (hsn: ∀p,p<n->seen[p]? =some (decide (r p<h))) (hN:4398046511104<=N):
  Ok (gA N tch ((h:Nat):Int) seen) (fun x=>x.1.1=ints (gP n (cls (n+m) r h))/\x.1.2.1=ints (gB bs n (cls (n+m) r h))/\x.1.2.2= []/\x.2.length=n/\∀p,p<n->x.2[p]? =some (decide (r p<h+1))):=by
 unfold gA
 refine Ok.ix (hsn h hh) (Ok.eq (ri false (by omega)) ?_)
 refine Ok.bind (Ok.jE (Go:=fun st=>st.2.1=ints (gP n (cls (n+m) r h))/\st.2.2.1=ints (gB bs n (cls (n+m) r h))/\st.1.length=n/\∀p,p<n->st.1[p]? =some (decide (r p<h+1))) (Rt:=fun _=>False)
  (fun st=>∃(q qb:List Nat) (t:Nat),st.2.2.2.2.2= ((t:Nat):Int)/\t<=q.length/\PS n r h q st.1 st.2.1 st.2.2.2.2.1/\QS n m tch r h q qb st.2.2.1 st.2.2.2.1/\∀(j p k:Nat) l,j<t->q[j]? =some p->tch[k]? =some l->((p:Nat):Int)∈l->k∈qb)
  (fun st=>n+1 - st.2.2.2.2.2.toNat) ?_ ⟨[h],[],0,rfl,by simp,?_,?_,fun j p k l hj=>by omega⟩ (by simp;omega)) ?_
 ·rintro⟨sn,pi,bo,us,td,t'⟩ ⟨q,qb,t,e,htq,hP,hQ,hcl⟩
  dsimp only at e hP hQ ⊢
  subst e
  have htl:td.length=q.length:=by rw [hP.td,jT]
  have hqf:=hP.yS
  by_cases hlt:t<q.length
  ·rw [kn (by omega:t<td.length),aP]
   have hqt:q[t]? =some q[t]:=aO hlt
   have hqi:=hP.qi _ (cN hlt)
   refine Ok.bind (Ok.pr (n:=tch.length) (fun st=>st.2.2.2.2.2) (fun i st=>∃q' qb',q <+:q'/\(∀k∈qb,k∈qb')/\PS n r h q' st.1 st.2.1 st.2.2.2.2.1/\QS n m tch r h q' qb' st.2.2.1 st.2.2.2.1/\∀k l,k<i->tch[k]? =some l->((q[t]:Nat):Int)∈l->k∈qb')
    (Go:=fun st=>∃q' qb',q <+:q'/\(∀k∈qb,k∈qb')/\PS n r h q' st.1 st.2.1 st.2.2.2.2.1/\QS n m tch r h q' qb' st.2.2.1 st.2.2.2.1/\∀k l,tch[k]? =some l->((q[t]:Nat):Int)∈l->k∈qb') (Rt:=fun _=>False) ?_ ?_ (dH _) rfl
    ⟨q,qb,List.prefix_refl _,fun k hk=>hk,hP,hQ,fun k l hk=>by omega⟩ (by omega)) ?_
   ·rintro k ⟨sn1,pi1,bo1,us1,td1,i'⟩ hk e ⟨q1,qb1,hpre,hsub,hP1,hQ1,hc1⟩
    dsimp only at e hP1 hQ1 ⊢
    subst e
    rw [kn hk,aP]
    have hkm:k<m:=by omega
    have htk:tch[k]? =some tch[k]:=aO hk
    have htk2:=ht _ (cN hk)
    have hq1t:td1[t]? =some ((q[t]:Nat):Int):=by
     rw [hP1.td];unfold ints;rw [gG,yB hpre hqt];rfl
    have hcond: ((idx us1 ((k:Nat):Int)).bind fun x948=>bif x948 then (some true) else ((idx tch ((k:Nat):Int)).bind fun x950=>(idx td1 ((t:Nat):Int)).bind fun x953=>(cS N x950 x953).bind fun x954=>some (!x954)))=some (decide (k∈qb1)|| !decide (((q[t]:Nat):Int)∈tch[k])):=by
     rw [dM (hQ1.un k hkm),aB,dM htk,aB,dM hq1t,aB,tD (l:=tch[k]) (c:=((q[t]:Nat):Int)) (by have:=htk2.1;omega) hN,aB]
     cases decide (k∈qb1) <;> rfl
    refine Ok.eq hcond (Ok.bif (fun hb=>Ok.nx ⟨bN (by omega),q1,qb1,hpre,hsub,hP1,hQ1,fun k' l hk' hl hm'=>?_⟩) (fun hb=>?_))
    ·by_cases e:k'=k
     ·subst e
      rw [htk] at hl;injection hl with hl
      rw [hl,bS hm',nE,Bool.or_false,bR] at hb
      exact hb
     ·exact hc1 k' l (by omega) hl hm'
    ·rw [Bool.or_eq_false_iff,decide_eq_false_iff_not,Bool.not_eq_false',bR] at hb
     obtain⟨hkn,hqm⟩:=hb
     have hrk:r (n+k)=h:=by rw [<-hC.co q[t] (n+k) ⟨k,_,htk,hqm,rfl⟩];exact hqi.2
     have hbf:=hQ1.yS
     refine Ok.ix (hQ1.un k hkm) (Ok.eq (wD hQ1.bi (by omega) hN) ?_)
     refine Ok.bind (Ok.pr (n:=tch[k].length) (fun st=>st.2.2.2) (fun i st=>∃q2,q1 <+:q2/\PS n r h q2 st.1 st.2.1 st.2.2.1/\∀(j p:Nat),j<i->tch[k][j]? =some ((p:Nat):Int)->p∈q2)
      (Go:=fun st=>∃q2,q1 <+:q2/\PS n r h q2 st.1 st.2.1 st.2.2.1/\∀(p:Nat),((p:Nat):Int)∈tch[k]->p∈q2) (Rt:=fun _=>False) ?_ ?_ (dH _) rfl ⟨q1,List.prefix_refl _,hP1,fun j p hj=>by omega⟩ (by omega)) ?_
     ·rintro j ⟨sn2,pi2,td2,jj⟩ hj e ⟨q2,hpre2,hP2,hc2⟩
      dsimp only at e hP2 ⊢
      subst e
      have hlj:tch[k][j]? =some tch[k][j]:=aO hj
      obtain⟨p,hpn,hpe⟩:=htk2.2 _ (cN hj)
      rw [hpe] at hlj
      have hpf:=hP2.yS
      have hrp:r p=h:=by rw [hC.co p (n+k) ⟨k,_,htk,eV hlj,rfl⟩];exact hrk
      refine Ok.ix htk ?_
      rw [kn hj,aP]
      refine Ok.ix htk (Ok.ix hlj (Ok.ix (hP2.sn p hpn) ?_))
      refine Ok.bind (P:=fun st:List Bool×List Int×List Int=>∃q2,q1 <+:q2/\PS n r h q2 st.1 st.2.1 st.2.2/\∀(j' p:Nat),j'<j+1->tch[k][j']? =some ((p:Nat):Int)->p∈q2) (Ok.bif (fun hb=>?_) (fun hb=>Ok.ret ⟨q2,hpre2,hP2,fun j' p' hj' hp'=>?_⟩)) (fun st hst=>Ok.nx ⟨bN (by omega),hst⟩)
      ·have hpq:p∉q2:=by
        rw [Bool.not_eq_true',decide_eq_false_iff_not] at hb
        exact fun h=>hb (.inr h)
       refine Ok.ix (hP2.sn p hpn) (Ok.eq (wD hP2.pi (by omega) hN) (Ok.app (by rw [hP2.td,jT];simp only [dN,List.length_nil];omega) (Ok.ret ⟨q2++[p],hpre2.trans (List.prefix_append _ _),⟨?_,?_,?_,?_,?_,?_,?_,?_⟩,?_⟩)))
       ·rw [i9];exact hP2.sl
       ·intro p' hp'
        rw [cF,fw]
        by_cases e:p=p'
        ·subst e
         rw [aC rfl,aC (by rw [hP2.sl];exact hpn)]
         congr 1
         exact(bS (.inr (by simp))).symm
        ·rw [aG e,hP2.sn p' hp']
         congr 1
         rw [decide_eq_decide,cY]
         simp only [pS]
         constructor
         ·exact fun h=>h.elim .inl (fun h=> .inr (.inl h))
         ·exact fun h=>h.elim .inl (fun h=>h.elim .inr (fun h=>absurd h.symm e))
       ·rw [List.nodup_append]
        exact⟨hP2.qn,by simp,fun a ha b hb=>by simp at hb;subst hb;exact fun e=>hpq (e▸ha)⟩
       ·intro p' hp'
        rcases cY.1 hp' with hp' | hp'
        ·exact hP2.qi p' hp'
        ·simp at hp';subst hp';exact⟨hpn,hrp⟩
       ·exact List.mem_append_left _ hP2.q0
       ·dsimp only;rw [hP2.td,oc];rfl
       ·exact qQ hP2.pi
       ·intro x
        rw [xM,hP2.pm]
        constructor
        ·rintro(⟨p',h1,h2⟩ | h1)
         ·exact⟨p',List.mem_append_left _ h1,h2⟩
         ·exact⟨p,by simp,h1⟩
        ·rintro⟨p',h1,h2⟩
         rcases cY.1 h1 with h1 | h1
         ·exact .inl ⟨p',h1,h2⟩
         ·simp at h1;subst h1;exact .inr h2
       ·intro j' p' hj' hp'
        by_cases e:j'=j
        ·subst e;rw [hlj] at hp';injection hp' with hp'
         have:p'=p:=by omega
         subst this;simp
        ·exact List.mem_append_left _ (hc2 j' p' (by omega) hp')
      ·by_cases e:j'=j
       ·subst e;rw [hlj] at hp';injection hp' with hp'
        have:p'=p:=by omega
        subst this
        rw [Bool.not_eq_false',bR] at hb
        rcases hb with hb | hb
        ·omega
        ·exact hb
       ·exact hc2 j' p' (by omega) hp'
     ·rintro⟨sn2,pi2,td2,jj⟩ e ⟨q2,hpre2,hP2,hc2⟩
      dsimp only at e hP2 ⊢
      subst e
      refine Ok.ix htk ?_
      rw [mN,aR]
      refine Ok.br ⟨q2,hpre2,hP2,fun p hp=>?_⟩
      obtain⟨j,hj⟩:=dV hp
      exact hc2 j p (bB.1 hj).1 hj
     intro o ho
     refine Ok.cs ho ?_ (fun r hr=>hr.elim)
     rintro⟨sn2,pi2,td2,jj⟩ ⟨q2,hpre2,hP2,hc2⟩
     dsimp only at hP2 ⊢
     refine Ok.nx ⟨bN (by omega),q2,qb1++[k],hpre.trans hpre2,fun k' hk'=>List.mem_append_left _ (hsub k' hk'),hP2,⟨?_,?_,?_,?_,?_⟩,fun k' l hk' hl hm'=>?_⟩
     ·rw [i9];exact hQ1.ul
     ·intro k' hk'
      rw [cF,fw]
      by_cases e:k=k'
      ·subst e
       rw [aC rfl,aC (by rw [hQ1.ul];exact hkm)]
       congr 1
       exact(bS (by simp)).symm
      ·rw [aG e,hQ1.un k' hk']
       congr 1
       rw [decide_eq_decide,cY]
       simp only [pS]
       exact⟨.inl,fun h=>h.elim id (fun h=>absurd h.symm e)⟩
     ·exact qQ hQ1.bi
     ·intro x
      rw [xM,hQ1.bm]
      constructor
      ·rintro(⟨p',h1,h2⟩ | h1)
       ·exact⟨p',List.mem_append_left _ h1,h2⟩
       ·exact⟨k,by simp,h1⟩
      ·rintro⟨p',h1,h2⟩
       rcases cY.1 h1 with h1 | h1
       ·exact .inl ⟨p',h1,h2⟩
       ·simp at h1;subst h1;exact .inr h2
     ·intro k' hk'
      rcases cY.1 hk' with hk' | hk'
      ·obtain⟨h1,h2,h3⟩:=hQ1.bk k' hk'
       exact⟨h1,h2,fun l hl p hp=>hpre2.subset (h3 l hl p hp)⟩
      ·simp at hk';subst hk'
       refine⟨hkm,hrk,fun l hl p hp=>?_⟩
       rw [htk] at hl;injection hl with hl
       exact hc2 p (by rw [hl];exact hp)
     ·by_cases e:k'=k
      ·subst e;simp
      ·exact List.mem_append_left _ (hc1 k' l (by omega) hl hm')
   ·rintro⟨sn1,pi1,bo1,us1,td1,i'⟩ e ⟨q1,qb1,hpre,hsub,hP1,hQ1,hc1⟩
    dsimp only at e hP1 hQ1 ⊢
    subst e
    rw [mN,aR]
    exact Ok.br ⟨q1,qb1,hpre,hsub,hP1,hQ1,fun k l hl=>hc1 k l (bB.1 hl).1 hl⟩
   intro o ho
   refine Ok.cs ho ?_ (fun r hr=>hr.elim)
   rintro⟨sn1,pi1,bo1,us1,td1,i'⟩ ⟨q1,qb1,hpre,hsub,hP1,hQ1,hc1⟩
   dsimp only at hP1 hQ1 ⊢
   refine Ok.nx ⟨⟨q1,qb1,t+1,bN (by omega),by have:=hpre.length_le;omega,hP1,hQ1,fun j p k l hj hjp hl hm'=>?_⟩,?_⟩
   ·by_cases e:j=t
    ·subst e
     rw [yB hpre hqt] at hjp;injection hjp with hjp;subst hjp
     exact hc1 k l hl hm'
    ·have hjq:q[j]? =some (q[j]'(by omega)):=aO _
     rw [yB hpre hjq] at hjp;injection hjp with hjp;subst hjp
     exact hsub k (hcl j _ k l (by omega) hjq hl hm')
   ·rw [bN (by omega)];simp only [cF];omega
  ·rw [xL (by omega:td.length<=t),aR]
   have htq':t=q.length:=by omega
   have hclosed: ∀i j,Lk n tch i j->(((i<n/\i∈q)\/∃k,k∈qb/\i=n+k)↔((j<n/\j∈q)\/∃k,k∈qb/\j=n+k)):=by
    rintro i j ⟨k,l,hl,hil,rfl⟩
    obtain⟨i',hi',ei⟩:=(ht l (eV hl)).2 _ hil
    have:i'=i:=by omega
    subst this
    constructor
    ·rintro(⟨_,h1⟩ | ⟨k',_,h1⟩)
     ·obtain⟨p,hp⟩:=dV h1
      exact .inr ⟨k,hcl p i' k l (by rw [htq'];exact(bB.1 hp).1) hp hl hil,rfl⟩
     ·omega
    ·rintro(⟨h1,_⟩ | ⟨k',h1,h2⟩)
     ·omega
     ·have:k'=k:=by omega
      subst this
      exact .inl ⟨hi',(hQ.bk k' h1).2.2 l hl i' hil⟩
   have hall: ∀x,x<n+m->r x=h->(x<n/\x∈q)\/∃k,k∈qb/\x=n+k:=fun x hx hrx=>hC.fi _ hclosed h x (by omega) hx (by rw [hr,hrx]) (.inl ⟨hh,hP.q0⟩)
   refine Ok.br ⟨?_,?_,hP.sl,fun p hp=>?_⟩
   ·refine xP hP.pi (JW _ _ _ _) fun x=>?_
    rw [hP.pm,mM]
    constructor
    ·rintro⟨p,h1,h2⟩
     exact⟨p,yE.2 ⟨(hP.qi p h1).1,by have:=(hP.qi p h1).1;omega,(hP.qi p h1).2⟩,h2⟩
    ·rintro⟨p,h1,h2⟩
     obtain⟨g1,g2,g3⟩:=yE.1 h1
     rcases hall p g2 g3 with ⟨_,g4⟩ | ⟨k,_,g4⟩
     ·exact⟨p,g4,h2⟩
     ·omega
   ·refine xP hQ.bi (HN _ _ _ _ _) fun x=>?_
    rw [hQ.bm,mM]
    constructor
    ·rintro⟨k,h1,h2⟩
     obtain⟨g1,g2,g3⟩:=hQ.bk k h1
     refine⟨k,yF.2 ⟨by omega,g2,?_⟩,h2⟩
     have hk:tch[k]? =some (tch[k]'(by omega)):=aO _
     refine hpl k _ hk fun hemp=>?_
     have kQ: ∀i j,Lk n tch i j->((i=n+k)↔(j=n+k)):=by
      rintro i j ⟨k',l,hl,hil,rfl⟩
      obtain⟨i',hi',ei⟩:=(ht l (eV hl)).2 _ hil
      constructor
      ·intro;omega
      ·intro e
       have:k'=k:=by omega
       subst this
       rw [hk] at hl;injection hl with hl
       rw [<-hl,hemp] at hil;cases hil
     have:=hC.fi (fun x=>x=n+k) kQ (n+k) h (by omega) (by omega) (by rw [g2,hr]) rfl
     omega
    ·rintro⟨k,h1,h2⟩
     obtain⟨g1,g2,_⟩:=yF.1 h1
     rcases hall (n+k) g1 g2 with ⟨g4,_⟩ | ⟨k',g3,g4⟩
     ·omega
     ·have:k'=k:=by omega
      subst this
      exact⟨k',g3,h2⟩
   ·rw [hP.sn p hp]
    congr 1
    rw [decide_eq_decide]
    constructor
    ·rintro(h1 | h1)
     ·omega
     ·have:=(hP.qi p h1).2;omega
    ·intro h1
     by_cases e:r p=h
     ·rcases hall p (by omega) e with ⟨_,g4⟩ | ⟨k,_,g4⟩
      ·exact .inr g4
      ·omega
     ·exact .inl (by omega)
 ·refine⟨by rw [i9];exact hsl,fun p hp=>?_,by simp,fun p hp=>by simp at hp;subst hp;exact⟨hh,hr⟩,by simp,rfl,List.pairwise_singleton _ _,fun x=>by simp⟩
  rw [cF,fw]
  by_cases e:h=p
  ·subst e
   rw [aC rfl,aC (by rw [hsl];exact hh)]
   congr 1
   exact(bS (.inr (by simp))).symm
  ·rw [aG e,hsn p hp]
   congr 1
   rw [decide_eq_decide]
   simp only [pS]
   omega
 ·exact⟨by rw [uZ];exact hm,fun k hk=>by simp [hm,hk],jG,fun x=>by simp,fun k hk=>by cases hk⟩
 intro o ho
 refine Ok.cs ho ?_ (fun r hr=>hr.elim)
 rintro⟨sn,pi,bo,us,td,t'⟩ ⟨h1,h2,h3,h4⟩
 exact Ok.ret ⟨h1,h2,rfl,h3,h4⟩
end
end Go.Gk
namespace Go.Gk
open Go Classical
theorem BO (bs:List cE) (n t:Nat) (r:Nat->Nat) (hs:List Nat) (h:Nat):kU bs n t r (hs++[h])=if DI bs n (cls t r h)=true then kU bs n t r hs++[Je bs n (cls t r h)] else kU bs n t r hs:=by
 unfold kU
 rw [BH]
 split
 ·rw [dP];rfl
 ·rfl
def IJ (bs:List cE) (n m:Nat) (r:Nat->Nat) (h:km):Nat:=gi bs n (n+m) r (r (lO n h))
structure JX (G G':List cC):Prop where
 len:G'.length=G.length
 each: ∀(g:Nat) x,G[g]? =some x->∃y,G'[g]? =some y/\y.eI=x.eI/\y.aM=x.aM
theorem Bc (G:List cC) (lg:fW->Option Nat) (ls:List fW):JX G (gk G lg ls):=
 ⟨tr _ _ _,fun g x hx=>⟨{x with eL:=(ls.filter (fun l=>decide (lg l=some g))).map mK},by rw [iV,hx];rfl,rfl,rfl⟩⟩
section
variable {N:Nat}
theorem AO {bs:List cE} {n m:Nat} {r:Nat->Nat} (hbm:bs.length=m) (hn:n<=1000000) (hm:m<=1000000) (hle: ∀i,i<n+m->r i<=i) (hrr: ∀i,i<n+m->r (r i)=r i) {G:List cC} (hG:JX (kU bs n (n+m) r (bK (n+m) r)) G) {h:km} (hh:Jf bs n m h) (hN:4398046511104<=N):
  dT N G h=some ((IJ bs n m r h:Nat):Int)/\IJ bs n m r h<G.length:=by
 obtain⟨k,hk,hkb,hkp⟩:=hh.num
 have hx:lO n h<n+m:=by
  unfold lO
  by_cases hb:h.cE=true
  ·rw [aC hb];have:=(hkb hb).1;omega
  ·rw [aG hb];have:=hkp (by simpa using hb);omega
 have hhead:r (lO n h)∈bK (n+m) r:=iY.2 ⟨by have:=hle _ hx;omega,hrr _ hx⟩
 have hne:DI bs n (cls (n+m) r (r (lO n h)))=true:=by
  unfold lO at hx ⊢
  by_cases hb:h.cE=true
  ·rw [aC hb] at hx ⊢
   rw [hk,cF] at hx ⊢
   exact HA (hkb hb).2 hx
  ·rw [aG hb] at hx ⊢
   rw [hk,cF] at hx ⊢
   exact Fv (hkp (by simpa using hb)) hx
 obtain⟨g1,g2⟩:=Hy (bs:=bs) (n:=n) hhead hne
 have hlen:G.length= (live bs n (n+m) r (bK (n+m) r)).length:=by rw [hG.len,qN]
 have hlive: (live bs n (n+m) r (bK (n+m) r)).Nodup:=List.Nodup.sublist List.filter_sublist (lA _ _)
 have hll: (live bs n (n+m) r (bK (n+m) r)).length<=n+m:=by
  have:=oH bs n (n+m) r (bK (n+m) r)
  have:=kA (n+m) r
  omega
 have hval: ∀(g:Nat) y,G[g]? =some y->Ok (bif h.cE then ((idx G ((g:Nat):Int)).bind fun x241=>(cS N x241.aM h.Number).bind fun x250=>bif x250 then (some true) else (bif (!h.cE) then ((idx G ((g:Nat):Int)).bind fun x253=>(cS N x253.eI h.Number).bind fun x262=>some x262) else (some false))) else (bif (!h.cE) then ((idx G ((g:Nat):Int)).bind fun x264=>(cS N x264.eI h.Number).bind fun x273=>some x273) else (some false)))
   (fun b=>b=true↔(live bs n (n+m) r (bK (n+m) r))[g]? =some (r (lO n h))):=fun g y hy=>by
  have hgl:g< (live bs n (n+m) r (bK (n+m) r)).length:=by have:=(bB.1 hy).1;omega
  have hlx: (live bs n (n+m) r (bK (n+m) r))[g]? =some (live bs n (n+m) r (bK (n+m) r))[g]:=aO hgl
  have hgx: (kU bs n (n+m) r (bK (n+m) r))[g]? =some (Je bs n (cls (n+m) r (live bs n (n+m) r (bK (n+m) r))[g])):=by unfold kU;rw [gG,hlx];rfl
  obtain⟨y',hy',e1,e2⟩:=hG.each g _ hgx
  rw [hy] at hy';injection hy' with hy';subst hy'
  generalize hhd: (live bs n (n+m) r (bK (n+m) r))[g]=hd at *
  have hpl:y.eI.length<=n+m/\y.aM.length<=n+m:=by
   have:=Cq n (cls (n+m) r hd)
   have:=Cr bs n (cls (n+m) r hd)
   have:=xA (n+m) r hd
   rw [e1,e2];unfold Je;simp only [jT];omega
  rw [hlx]
  cases hb:h.cE with
  | true=>
   rw [aP,dM hy,aB,tD (by omega) hN,aB]
   have hix:lO n h=n+k:=by unfold lO;rw [aC hb,hk,cF]
   have hiff: (h.Number∈y.aM)↔hd=r (lO n h):=by
    rw [e2,hix]
    unfold Je
    dsimp only
    rw [mM,hk]
    constructor
    ·rintro⟨i,hi,e⟩
     have:i=k:=by omega
     subst this
     exact(yF.1 hi).2.1.symm
    ·intro e
     exact⟨k,yF.2 ⟨by have:=(hkb hb).1;omega,e.symm,(hkb hb).2⟩,rfl⟩
   by_cases hin:h.Number∈y.aM
   ·rw [bS hin,aP]
    exact Ok.ret ⟨fun _=>by rw [hiff.1 hin],fun _=>rfl⟩
   ·rw [cD hin,aR,nE,aR]
    refine Ok.ret ⟨fun h=>(by cases h),fun h=>?_⟩
    injection h with h
    exact absurd (hiff.2 h) hin
  | false=>
   rw [aR,pT,aP,dM hy,aB,tD (by omega) hN,aB]
   have hix:lO n h=k:=by unfold lO;rw [aG (by rw [hb];exact l8),hk,cF]
   have hiff: (h.Number∈y.eI)↔hd=r (lO n h):=by
    rw [e1,hix]
    unfold Je
    dsimp only
    rw [mM,hk]
    constructor
    ·rintro⟨i,hi,e⟩
     have:i=k:=by omega
     subst this
     exact(yE.1 hi).2.2.symm
    ·intro e
     exact⟨k,yE.2 ⟨hkp hb,by have:=hkp hb;omega,e.symm⟩,rfl⟩
   refine Ok.ret ?_
   rw [bR,hiff]
   exact⟨fun h=>by rw [h],fun h=>by injection h⟩
 refine⟨Ok.get ?_,by unfold IJ;omega⟩
 unfold dT IJ
 refine Ok.bind (Ok.pr (n:=G.length) (fun s=>s) (fun k _=>∀g,g<k->(live bs n (n+m) r (bK (n+m) r))[g]? ≠some (r (lO n h))) (Go:=fun _=>False) (Rt:=fun s=>s= ((gi bs n (n+m) r (r (lO n h)):Nat):Int)) ?_ ?_ (dH _) rfl (fun g hg=>by omega) (by omega)) ?_
 ·rintro g s hg e hI
  subst e
  rw [kn hg,aP]
  refine Ok.bind (hval g _ (aO hg)) fun b hb=>?_
  cases b with
  | true=>
   refine Ok.rt ?_
   have:=vj hlive (hb.1 rfl) g2
   rw [this]
  | false=>
   refine Ok.nx ⟨bN (by omega),fun g' hg'=>?_⟩
   by_cases e:g'=g
   ·subst e;intro h;have:=hb.2 h;cases this
   ·exact hI g' (by omega)
 ·rintro s e hI
  exact absurd g2 (hI _ (by omega))
 intro o ho
 exact Ok.cs ho (fun _ h=>h.elim) (fun r hr=>Ok.ret hr)
theorem D3 {bs:List cE} {pcs:List aK} {r:Nat->Nat} (hb:kB bs) (hp:pcs.length<=1000000) (hpr: ∀p∈pcs,p.iN.length<=1000000/\∀x∈p.iN,x.X0<x.X1) (hd: ∀l:fW,∀b∈bs,∀p∈pcs,lx l b=true->kN l p=true->False)
  (hle: ∀i,i<pcs.length+bs.length->r i<=i) (hrr: ∀i,i<pcs.length+bs.length->r (r i)=r i) {G:List cC} (hG:JX (kU bs pcs.length (pcs.length+bs.length) r (bK (pcs.length+bs.length) r)) G) (l:fW) (hN:4398046511104<=N):
  eM N bs (pcs.map aK.cU) (pcs.map aK.iN) G l=some (IA bs pcs r l)/\∀g,yU bs pcs r l=some g->g<G.length:=by
 have hbl:=hb.len
 unfold eM IA yU
 rw [Gq hb hp hpr l hN,aB,IH (hd l)]
 cases hh:zn bs pcs l with
 | none=>exact⟨rfl,fun g h=>by cases h⟩
 | some h=>
  obtain⟨e1,e2⟩:=AO (N:=N) rfl hp (by omega) hle hrr hG (Hz hh) hN
  refine⟨?_,fun g hg=>?_⟩
  ·dsimp only [Option.getD_some,Option.isSome_some]
   rw [nE,aR,e1,aB];rfl
  ·rw [Option.map_some] at hg;injection hg with hg
   rw [<-hg];exact e2
theorem HO {bs:List cE} {pcs:List aK}: ∀(k:Nat) l,(fM bs pcs)[k]? =some l->l≠[]->sF bs k=true:=fun k l hl hne=>by
 unfold fM at hl
 rw [gG,oW] at hl
 obtain⟨b,hb,rfl⟩:=hl
 unfold sF
 rw [hb]
 cases hp:b.eH with
 | true=>simpa using hp
 | false=>
  exfalso
  refine hne ?_
  have:n9 (g9 b) pcs pcs.length= []:=by
   unfold n9
   rw [List.filter_eq_nil_iff]
   intro j _
   rw [jU,Option.any_eq_false]
   intro p _
   unfold g9;rw [hp];rfl
  rw [this];rfl
theorem Gr {bs:List cE} {ls:List fW} {pcs:List aK} {r:Nat->Nat} (hb:kB bs) (hp:pcs.length<=2000) (hl:ls.length<=1000000) (hpr: ∀p∈pcs,p.iN.length<=1000000/\∀x∈p.iN,x.X0<x.X1) (hd: ∀l:fW,∀b∈bs,∀p∈pcs,lx l b=true->kN l p=true->False)
  (hC:Iz pcs.length bs.length (fM bs pcs) r) (hN:4398046511104<=N):
  eR N bs ls (pcs.map aK.cU) (pcs.map aK.iN) (fM bs pcs)=some (gk (kU bs pcs.length (pcs.length+bs.length) r (bK (pcs.length+bs.length) r)) (yU bs pcs r) ls):=by
 refine Ok.get ?_
 have hbl:=hb.len
 have htl: (fM bs pcs).length=bs.length:=by unfold fM;rw [cV]
 have hto:=DK (bs:=bs) (pcs:=pcs) (by omega)
 have hgl: ∀hs:List Nat,(kU bs pcs.length (pcs.length+bs.length) r hs).length<=hs.length:=fun hs=>by rw [qN];exact oH _ _ _ _ _
 unfold eR
 rw [cV]
 refine Ok.eq (ri false (by omega)) ?_
 refine Ok.bind (Ok.pr (n:=pcs.length) (fun st=>st.2.2) (fun i st=>st.1=kU bs pcs.length (pcs.length+bs.length) r (bK i r)/\st.2.1.length=pcs.length/\∀p,p<pcs.length->st.2.1[p]? =some (decide (r p<i)))
  (Go:=fun st=>st.1=kU bs pcs.length (pcs.length+bs.length) r (bK pcs.length r)) (Rt:=fun _=>False) ?_ ?_ (dH _) rfl ⟨by simp [bK,kU,live],by simp,fun p hp=>by simp [hp]⟩ (by omega)) ?_
 ·rintro i ⟨G,sn,ii⟩ hi e ⟨hG,hsl,hsn⟩
  dsimp only at e hG hsl hsn ⊢
  subst e;subst hG
  rw [kn hi,aP]
  refine Ok.ix (hsn i hi) ?_
  refine Ok.bind (P:=fun st:List cC×List Bool=>st.1=kU bs pcs.length (pcs.length+bs.length) r (bK (i+1) r)/\st.2.length=pcs.length/\∀p,p<pcs.length->st.2[p]? =some (decide (r p<i+1))) (Ok.bif (fun hb=>?_) (fun hb=>Ok.ret ⟨?_,hsl,fun p hp=>?_⟩)) (fun st hst=>Ok.nx ⟨bN (by omega),hst⟩)
  ·rw [Bool.not_eq_true',decide_eq_false_iff_not] at hb
   have hri:r i=i:=by have:=hC.le i (by omega);omega
   refine Ok.bind (D2 (bs:=bs) hC htl hto (by omega) (by omega) HO hi hri hsl hsn hN) fun x hx=>?_
   obtain⟨x1,x2,x3,x4,x5⟩:=hx
   have h1:=hgl (bK i r)
   have h2:=kA i r
   refine Ok.app (by simp only [dN,List.length_nil];omega) (Ok.ret ⟨?_,x4,x5⟩)
   dsimp only
   have hne:DI bs pcs.length (cls (pcs.length+bs.length) r i)=true:=by
    have:=Fv (bs:=bs) (r:=r) hi (show i<pcs.length+bs.length by omega)
    rwa [hri] at this
   rw [gD,aC hri,BO,aC hne,x1,x2,x3];rfl
  ·rw [Bool.not_eq_false',bR] at hb
   dsimp only
   rw [gD,aG (by omega)]
  ·rw [Bool.not_eq_false',bR] at hb
   rw [hsn p hp]
   congr 1
   rw [decide_eq_decide]
   have hne:r p≠i:=fun e=>by have:=hC.rr p (by omega);rw [e] at this;omega
   omega
 ·rintro⟨G,sn,ii⟩ e ⟨hG,_,_⟩
  dsimp only at e hG ⊢
  subst e
  rw [mN,aR]
  exact Ok.br hG
 intro o ho
 refine Ok.cs ho ?_ (fun r hr=>hr.elim)
 rintro⟨G,sn,ii⟩ hG
 dsimp only at hG ⊢
 subst hG
 rw [htl]
 have halone: ∀k,k<bs.length->(fM bs pcs)[k]? =some []->∀x,x<pcs.length+bs.length->(r x=r (pcs.length+k)↔x=pcs.length+k):=fun k hk hemp x hx=>by
  constructor
  ·intro e
   refine hC.fi (fun y=>y=pcs.length+k) ?_ (pcs.length+k) x (by omega) hx e.symm rfl
   rintro i j ⟨k',l,hl,hil,rfl⟩
   obtain⟨i',hi',ei⟩:=(hto l (eV hl)).2 _ hil
   constructor
   ·intro;omega
   ·intro e
    have:k'=k:=by omega
    subst this
    rw [hemp] at hl;injection hl with hl
    rw [<-hl] at hil;cases hil
  ·intro e;rw [e]
 refine Ok.bind (Ok.pr (n:=bs.length) (fun st=>st.2) (fun i st=>st.1=kU bs pcs.length (pcs.length+bs.length) r (bK (pcs.length+i) r))
  (Go:=fun st=>st.1=kU bs pcs.length (pcs.length+bs.length) r (bK (pcs.length+bs.length) r)) (Rt:=fun _=>False) ?_ ?_ (dH _) rfl rfl (by omega)) ?_
 ·rintro i ⟨G,ii⟩ hi e hG
  dsimp only at e hG ⊢
  subst e;subst hG
  rw [kn hi,aP]
  have hx:bs[i]? =some bs[i]:=aO hi
  have htx: (fM bs pcs)[i]? =some ((fM bs pcs)[i]'(by omega)):=aO _
  have hpi:sF bs i=bs[i].eH:=by unfold sF;rw [hx];rfl
  have hlen:=hgl (bK (pcs.length+i) r)
  have hhl:=kA (pcs.length+i) r
  have hcond: ((idx bs ((i:Nat):Int)).bind fun x210=>bif x210.eH then ((idx (fM bs pcs) ((i:Nat):Int)).bind fun x214=>some ((x214.length:Int)==0)) else (some false))=some (sF bs i&&decide ((fM bs pcs)[i]'(by omega)= [])):=by
   rw [dM hx,aB,dM htx,aB,hpi]
   cases bs[i].eH with
   | false=>rfl
   | true=>
    rw [aP,Bool.true_and]
    congr 1
    rw [fu,bR,beq_iff_eq]
    constructor
    ·intro h;exact List.eq_nil_of_length_eq_zero (by omega)
    ·intro h;rw [h];rfl
  refine Ok.eq hcond ?_
  have hstep:kU bs pcs.length (pcs.length+bs.length) r (bK (pcs.length+ (i+1)) r)=if (sF bs i&&decide ((fM bs pcs)[i]'(by omega)= []))=true then kU bs pcs.length (pcs.length+bs.length) r (bK (pcs.length+i) r)++[⟨[],[((i:Nat):Int)],[]⟩] else kU bs pcs.length (pcs.length+bs.length) r (bK (pcs.length+i) r):=by
   rw [<-Nat.add_assoc,gD]
   by_cases hemp: (fM bs pcs)[i]'(by omega)= []
   ·rw [hemp] at htx
    have kQ:=halone i hi htx
    have hri:r (pcs.length+i)=pcs.length+i:=by
     have h1:=hC.le (pcs.length+i) (by omega)
     exact(kQ _ (by omega)).1 (hC.rr _ (by omega))
    rw [aC hri,BO]
    have hcl: ∀x,x∈cls (pcs.length+bs.length) r (pcs.length+i)↔x=pcs.length+i:=fun x=>by
     rw [o0]
     constructor
     ·rintro⟨h1,h2⟩;exact(kQ x h1).1 (by rw [h2,hri])
     ·intro h;subst h;exact⟨by omega,hri⟩
    have hgp:gP pcs.length (cls (pcs.length+bs.length) r (pcs.length+i))= []:=by
     unfold gP
     rw [List.filter_eq_nil_iff]
     intro x hx
     rw [(hcl x).1 hx];simp
    by_cases hpl:sF bs i=true
    ·have hne:DI bs pcs.length (cls (pcs.length+bs.length) r (pcs.length+i))=true:=by
      have:=HA (bs:=bs) (n:=pcs.length) (r:=r) hpl (show pcs.length+i<pcs.length+bs.length by omega)
      rwa [hri] at this
     rw [aC hne,aC (by rw [hpl,bS hemp];rfl)]
     congr 2
     unfold Je
     rw [hgp]
     have hgb:ints (gB bs pcs.length (cls (pcs.length+bs.length) r (pcs.length+i)))= [((i:Nat):Int)]:=by
      refine xP (HN _ _ _ _ _) (List.pairwise_singleton _ _) fun x=>?_
      rw [mM]
      simp only [pS]
      constructor
      ·rintro⟨k,h1,h2⟩
       obtain⟨g1,g2,_⟩:=yF.1 h1
       have:=(kQ _ g1).1 (by rw [g2,hri])
       omega
      ·intro h
       exact⟨i,yF.2 ⟨by omega,hri,hpl⟩,h⟩
     rw [hgb];rfl
    ·have hne: ¬DI bs pcs.length (cls (pcs.length+bs.length) r (pcs.length+i))=true:=by
      unfold DI
      have hgb:gB bs pcs.length (cls (pcs.length+bs.length) r (pcs.length+i))= []:=by
       unfold gB
       rw [List.map_eq_nil_iff,List.filter_eq_nil_iff]
       intro x hx
       rw [(hcl x).1 hx,Nat.add_sub_cancel_left]
       simp [hpl]
      rw [hgp,hgb];simp
     rw [aG hne,aG (by rw [jU] at hpl ⊢;rw [hpl];rfl)]
   ·have hri: ¬r (pcs.length+i)=pcs.length+i:=fun e=>by
     obtain⟨x,hxm⟩:=List.exists_mem_of_ne_nil _ hemp
     obtain⟨p,hp1,hp2⟩:=(hto _ (cN (show i< (fM bs pcs).length by omega))).2 x hxm
     have h1:=hC.co p (pcs.length+i) ⟨i,_,htx,by rw [<-hp2];exact hxm,rfl⟩
     have h2:=hC.le p (by omega)
     omega
    rw [aG hri,aG (by rw [cD hemp,Bool.and_false];exact l8)]
  refine Ok.bind (P:=fun st:List cC=>st=kU bs pcs.length (pcs.length+bs.length) r (bK (pcs.length+ (i+1)) r)) (Ok.bif (fun hb=>?_) (fun hb=>Ok.ret ?_)) (fun st hst=>Ok.nx ⟨bN (by omega),hst⟩)
  ·refine Ok.app (by simp only [dN,List.length_nil];omega) (Ok.ret ?_)
   rw [hstep,aC hb]
  ·rw [hstep,aG (by rw [jU];exact hb)]
 ·rintro⟨G,ii⟩ e hG
  dsimp only at e hG ⊢
  subst e
  rw [mN,aR]
  exact Ok.br hG
 intro o ho
 refine Ok.cs ho ?_ (fun r hr=>hr.elim)
 rintro⟨G,ii⟩ hG
 dsimp only at hG ⊢
 subst hG
 have hGl:=hgl (bK (pcs.length+bs.length) r)
 have hhl:=kA (pcs.length+bs.length) r
 generalize hGG:kU bs pcs.length (pcs.length+bs.length) r (bK (pcs.length+bs.length) r)=G at *
 refine Ok.bind (Ok.pr (n:=ls.length) (fun st=>st.2) (fun i st=>st.1=gk G (yU bs pcs r) (ls.take i)) (Go:=fun st=>st.1=gk G (yU bs pcs r) ls) (Rt:=fun _=>False) ?_ ?_ (dH _) rfl ?_ (by omega)) ?_
 ·rintro i ⟨W,ii⟩ hi e hW
  dsimp only at e hW ⊢
  subst e;subst hW
  rw [kn hi,aP]
  have hx:ls[i]? =some ls[i]:=aO hi
  have hts:ls.take (i+1)=ls.take i++[ls[i]]:=eC hi
  obtain⟨e1,e2⟩:=D3 (N:=N) (r:=r) hb (by omega) hpr hd hC.le hC.rr (G:=gk G (yU bs pcs r) (ls.take i)) (by rw [hGG];exact Bc _ _ _) ls[i] hN
  refine Ok.ix hx (Ok.eq e1 ?_)
  refine Ok.bind (P:=fun st:List cC=>st=gk G (yU bs pcs r) (ls.take (i+1))) ?_ (fun st hst=>Ok.nx ⟨bN (by omega),hst⟩)
  unfold IA
  cases hg:yU bs pcs r ls[i] with
  | none=>
   dsimp only
   rw [show decide ((-1:Int)>=0)=false by decide,aR]
   refine Ok.ret ?_
   rw [hts,vR hg]
  | some g=>
   have hgW:=e2 g hg
   have hWg: (gk G (yU bs pcs r) (ls.take i))[g]? =some (gk G (yU bs pcs r) (ls.take i))[g]:=aO hgW
   dsimp only
   rw [bS (by omega),aP]
   have hpl: (gk G (yU bs pcs r) (ls.take i))[g].eL.length<=ls.length:=by
    have:=hWg
    rw [iV,oW] at this
    obtain⟨y,_,hy⟩:=this
    rw [<-hy]
    dsimp only
    rw [cV]
    have:=l9 (fun l=>decide (yU bs pcs r l=some g)) (ls.take i)
    rw [cL] at this;omega
   refine Ok.ix hWg (Ok.app (by simp only [dN,List.length_nil];omega) (Ok.ix hWg (Ok.ret ?_)))
   rw [cF,hts]
   exact xH hg hWg
 ·rintro⟨W,ii⟩ e hW
  dsimp only at e hW ⊢
  subst e
  rw [mN,aR]
  exact Ok.br (by rw [eQ] at hW;exact hW)
 ·apply List.ext_getElem?
  intro g
  rw [iV]
  cases hGg:G[g]? with
  | none=>rfl
  | some x=>
   have hx0:x.eL= []:=by
    rw [<-hGG] at hGg
    unfold kU at hGg
    rw [gG,oW] at hGg
    obtain⟨hd',_,rfl⟩:=hGg
    rfl
   simp only [Option.map_some,List.take_zero,List.filter_nil,List.map_nil,Option.some.injEq]
   rw [<-hx0]
 intro o ho
 exact Ok.cs ho (fun st hst=>Ok.ret hst) (fun r hr=>hr.elim)
end
section
variable {N:Nat} {a:k7} {mP:List (List aA)} {gq:List (List (List aA))} {r:Nat->Nat} {gs:List cC} {ofP ofB sG:List Int} {sH:List km}
theorem oV.HB (b:oV a mP gq r gs ofP ofB sG sH):vl a:=Gn b.wA.HB
theorem za (b:oV a mP gq r gs ofP ofB sG sH) (hN:4398046511104<=N):
  gV N a=some (a.aJ,a.cG,a.aM,a.bV,(dO 0 gq).map aK.cU,(dO 0 gq).map aK.iN,gs,fM a.aM (dO 0 gq)):=by
 refine Ok.get ?_
 have hc16:=b.wA.yS.2
 have hfew:=b.yS.2
 have hbl:=b.wA.gb.len
 have hll:=b.HB.yS
 unfold gV
 have hpl: ∀k,(dO 0 (gq.take k)).length<=2000:=fun k=>by
  have h1:=vm (gq.take k) 0
  have h2:=vm gq 0
  have h3: ((gq.take k).map List.length).sum<=(gq.map List.length).sum:=by
   conv=>rhs;rw [<-List.take_append_drop k gq,dP,List.sum_append]
   omega
  omega
 refine Ok.bind (Ok.pr (n:=a.aJ.length) (fun st=>st.2.2) (fun i st=>st.1= (dO 0 (gq.take i)).map aK.cU/\st.2.1= (dO 0 (gq.take i)).map aK.iN) (Go:=fun st=>st.1= (dO 0 gq).map aK.cU/\st.2.1= (dO 0 gq).map aK.iN) (Rt:=fun _=>False) ?_ ?_ (dH _) rfl ⟨rfl,rfl⟩ (by omega)) ?_
 ·rintro i ⟨La,Re,ii⟩ hi e ⟨h1,h2⟩
  dsimp only at e h1 h2 ⊢
  subst e;subst h1;subst h2
  rw [kn hi,aP]
  obtain⟨s,ps,u,hd,hp,L⟩:=y5 b hi
  have hcx:a.aJ[i]? =some a.aJ[i]:=aO hi
  have hcs:=b.wA.cs _ (cN hi)
  have hip:=(bB.1 hp).1
  have hts:dO 0 (gq.take (i+1))=dO 0 (gq.take i)++ps.map (fun p=>⟨((i:Nat):Int),p,aS p⟩):=by
   rw [eC hip,(bB.1 hp).2,tq,cL]
   simp only [iJ,show min i gq.length=i by omega]
  have hl1:=hpl i
  have hl2:=hpl (i+1)
  rw [hts,cZ,cV] at hl2
  refine Ok.eq (uY b.wA.gb hcx hcs.1 hcs.2 L.dr hN) (Ok.eq (L.pieces hN) ?_)
  rw [cV]
  refine Ok.bind (Ok.pr (n:=ps.length) (fun st=>st.2.2) (fun j st=>st.1= (dO 0 (gq.take i)).map aK.cU++(ps.take j).map (fun _=>((i:Nat):Int))/\st.2.1= (dO 0 (gq.take i)).map aK.iN++(ps.take j).map aS)
   (Go:=fun st=>st.1= (dO 0 (gq.take (i+1))).map aK.cU/\st.2.1= (dO 0 (gq.take (i+1))).map aK.iN) (Rt:=fun _=>False) ?_ ?_ (dH _) rfl ⟨by simp,by simp⟩ (by omega)) ?_
  ·rintro j ⟨La,Re,jj⟩ hj e ⟨h1,h2⟩
   dsimp only at e h1 h2 ⊢
   subst e;subst h1;subst h2
   rw [kn hj,aP]
   have hx: (ps.map aS)[j]? =some (aS ps[j]):=by rw [gG,aO hj];rfl
   refine Ok.app ?_ (Ok.ix hx (Ok.app ?_ (Ok.nx ⟨bN (by omega),?_,?_⟩)))
   ·rw [cZ,cV,cV,cL];simp only [dN,List.length_nil];omega
   ·rw [cZ,cV,cV,cL];simp only [dN,List.length_nil];omega
   ·dsimp only;rw [eC hj,dP,kC];rfl
   ·dsimp only;rw [eC hj,dP,kC];rfl
  ·rintro⟨La,Re,jj⟩ e ⟨h1,h2⟩
   dsimp only at e h1 h2 ⊢
   subst e;subst h1;subst h2
   rw [mN,aR]
   refine Ok.br ⟨?_,?_⟩
   ·dsimp only;rw [hts,dP,List.map_map,eQ];rfl
   ·dsimp only;rw [hts,dP,List.map_map,eQ];rfl
  intro o ho
  exact Ok.cs ho (fun st hst=>Ok.nx ⟨bN (by omega),hst⟩) (fun r hr=>hr.elim)
 ·rintro⟨La,Re,ii⟩ e ⟨h1,h2⟩
  dsimp only at e h1 h2 ⊢
  subst e
  rw [mN,aR]
  rw [kV (by rw [b.dr.zm];exact bU _)] at h1 h2
  exact Ok.br ⟨h1,h2⟩
 intro o ho
 refine Ok.cs ho ?_ (fun r hr=>hr.elim)
 rintro⟨La,Re,ii⟩ ⟨h1,h2⟩
 dsimp only at h1 h2 ⊢
 subst h1;subst h2
 rw [cV]
 have hpf:=fun p hp=>D1 b (p:=p) hp
 generalize hpcs:dO 0 gq=pcs at *
 refine Ok.bind (Ok.pr (n:=a.aM.length) (fun st=>st.2) (fun i st=>st.1=fM (a.aM.take i) pcs) (Go:=fun st=>st.1=fM a.aM pcs) (Rt:=fun _=>False) ?_ ?_ (dH _) rfl rfl (by omega)) ?_
 ·rintro i ⟨T,ii⟩ hi e hT
  dsimp only at e hT ⊢
  subst e;subst hT
  rw [kn hi,aP]
  have hx:a.aM[i]? =some a.aM[i]:=aO hi
  have hg:=b.wA.gb.ok _ (cN hi)
  have hsq:=Jd hg.1 hg.2
  have hplain: ¬a.aM[i].eH=true->n9 (g9 a.aM[i]) pcs pcs.length= []:=fun hp=>by
   unfold n9
   rw [List.filter_eq_nil_iff]
   intro j _
   rw [jU,Option.any_eq_false]
   intro p _
   unfold g9;rw [jU] at hp;rw [hp];rfl
  refine Ok.bind (Ok.jE (Go:=fun st=>st.1=ints (n9 (g9 a.aM[i]) pcs pcs.length)) (Rt:=fun _=>False) (fun st=>∃j:Nat,st.2= ((j:Nat):Int)/\j<=pcs.length/\st.1=ints (n9 (g9 a.aM[i]) pcs j)) (fun st=>pcs.length - st.2.toNat) ?_ ⟨0,rfl,dH _,rfl⟩ (by simp;omega)) ?_
  ·rintro⟨ow,jj⟩ ⟨j,e,hj,ho⟩
   dsimp only at e ho ⊢
   subst e;subst ho
   by_cases hlt:j<pcs.length
   ·rw [kn hlt,aP,dM hx,aB,aB]
    refine Ok.bif (fun hpl=>?_) (fun hpl=>Ok.br ?_)
    ·have hpx:pcs[j]? =some pcs[j]:=aO hlt
     have hlx: (pcs.map aK.cU)[j]? =some pcs[j].cU:=by rw [gG,hpx];rfl
     have hrx: (pcs.map aK.iN)[j]? =some pcs[j].iN:=by rw [gG,hpx];rfl
     obtain⟨f1,f2,_⟩:=hpf _ (cN hlt)
     have hil:=yv (g9 a.aM[i]) pcs j
     have hcond: ((some a.aM[i]).bind fun x932=>(idx (pcs.map aK.cU) ((j:Nat):Int)).bind fun x935=>(eU N x932 x935).bind fun x936=>bif x936 then ((idx (pcs.map aK.iN) ((j:Nat):Int)).bind fun x938=>(some a.aM[i]).bind fun x941=>(cI N x941).bind fun x944=>(ji N x938 x944).bind fun x946=>some x946) else (some false))=some (g9 a.aM[i] pcs[j]):=by
      rw [aB,dM hlx,aB,tC,aB,dM hrx,aB,aB,lZ hg.1,aB,IG (by omega) (fun q hq=>Cp (f2 q hq).1 (f2 q hq).2.1 (f2 q hq).2.2) hsq hN,aB]
      unfold g9
      rw [hpl,Bool.true_and]
      cases jS a.aM[i] pcs[j].cU <;> rfl
     refine Ok.eq hcond ?_
     refine Ok.bind (P:=fun st:List Int=>st=ints (n9 (g9 a.aM[i]) pcs (j+1))) (Ok.bif (fun hb=>?_) (fun hb=>Ok.ret ?_)) (fun st hst=>Ok.nx ⟨⟨j+1,bN (by omega),hlt,hst⟩,?_⟩)
     ·refine Ok.app (by rw [jT];simp only [dN,List.length_nil];omega) (Ok.ret ?_)
      rw [wz hpx,aC hb,oc];rfl
     ·rw [wz hpx,aG (by rw [jU];exact hb)]
     ·dsimp only;rw [bN (by omega)];simp only [cF];omega
    ·have hn:=hplain (by rw [hpl];exact l8)
     have hj0:n9 (g9 a.aM[i]) pcs j= []:=by
      unfold n9
      rw [List.filter_eq_nil_iff]
      intro j' hj'
      rw [jU,Option.any_eq_false]
      intro p _
      unfold g9;rw [hpl];rfl
     dsimp only
     rw [hn,hj0]
   ·have:j=pcs.length:=by omega
    subst this
    rw [mN,aR,aB,aR]
    exact Ok.br rfl
  intro o ho
  refine Ok.cs ho ?_ (fun r hr=>hr.elim)
  rintro⟨ow,jj⟩ ho2
  dsimp only at ho2 ⊢
  subst ho2
  refine Ok.app ?_ (Ok.nx ⟨bN (by omega),?_⟩)
  ·unfold fM;rw [cV,cL];simp only [dN,List.length_nil];omega
  ·dsimp only
   unfold fM
   rw [eC hi,dP];rfl
 ·rintro⟨T,ii⟩ e hT
  dsimp only at e hT ⊢
  subst e
  rw [mN,aR]
  exact Ok.br (by rw [eQ] at hT;exact hT)
 intro o ho
 refine Ok.cs ho ?_ (fun r hr=>hr.elim)
 rintro⟨T,ii⟩ hT
 dsimp only at hT ⊢
 subst hT
 have hcon:=b.IB
 rw [hpcs] at hcon
 have hnb:=fun l=>II b l
 rw [hpcs] at hnb
 refine Ok.eq (Gr (r:=r) b.wA.gb (by omega) (by omega) (fun p hp=>⟨by have:=(hpf p hp).1;omega,fun x hx=>((hpf p hp).2.1 x hx).2.1⟩) hnb hcon.conn hN) (Ok.ret ?_)
 rw [<-hcon.gs]
end
end Go.Gk
namespace Go.Gk
open Go Classical
section
variable {N:Nat} {a:k7} {mP:List (List aA)} {gq:List (List (List aA))} {r:Nat->Nat} {gs:List cC} {ofP ofB sG:List Int} {sH:List km}
end
section
variable {N:Nat}
end
end Go.Gk
namespace Go.Gk
open Go Classical
section
variable {bs:List cE} {ls:List fW} {pcs:List aK} {r:Nat->Nat} {gs:List cC} {ofP ofB sG:List Int} {sH:List km}
theorem ET (hc:tt bs ls pcs r gs ofP ofB sG sH) {g:Nat} {x:cC} (hg:gs[g]? =some x):
  ∃hd,(live bs pcs.length (pcs.length+bs.length) r (bK (pcs.length+bs.length) r))[g]? =some hd/\x.eI=ints (gP pcs.length (cls (pcs.length+bs.length) r hd))/\
   x.aM=ints (gB bs pcs.length (cls (pcs.length+bs.length) r hd))/\x.eL= (ls.filter (fun l=>decide (yU bs pcs r l=some g))).map mK:=by
 rw [hc.gs,iV] at hg
 obtain⟨y,hy,rfl⟩:=oW.1 hg
 unfold kU at hy
 rw [gG] at hy
 obtain⟨hd,h1,rfl⟩:=oW.1 hy
 exact⟨hd,h1,rfl,rfl,rfl⟩
theorem HQ (hc:tt bs ls pcs r gs ofP ofB sG sH):gs.length= (live bs pcs.length (pcs.length+bs.length) r (bK (pcs.length+bs.length) r)).length/\gs.length<=pcs.length+bs.length:=by
 have e:gs.length= (live bs pcs.length (pcs.length+bs.length) r (bK (pcs.length+bs.length) r)).length:=by
  rw [hc.gs,tr,qN]
 refine⟨e,?_⟩
 rw [e]
 have:=oH bs pcs.length (pcs.length+bs.length) r (bK (pcs.length+bs.length) r)
 have:=kA (pcs.length+bs.length) r
 omega
theorem FD (hc:tt bs ls pcs r gs ofP ofB sG sH) {k:Nat} (hk:k<pcs.length):
  ∃g:Nat,ofP[k]? =some ((g:Nat):Int)/\g<gs.length/\(live bs pcs.length (pcs.length+bs.length) r (bK (pcs.length+bs.length) r))[g]? =some (r k):=by
 have hm:r k∈bK (pcs.length+bs.length) r:=iY.2 ⟨by have:=hc.conn.le k (by omega);omega,hc.conn.rr k (by omega)⟩
 obtain⟨g1,g2⟩:=Hy (bs:=bs) (n:=pcs.length) hm (Fv hk (by omega))
 exact⟨_,hc.of.pc k hk hm,by rw [(HQ hc).1];exact g1,g2⟩
theorem HR (hc:tt bs ls pcs r gs ofP ofB sG sH) {g:Nat} {x:cC} (hg:gs[g]? =some x) (k:Nat):
  ((k:Nat):Int)∈x.eI↔k<pcs.length/\ofP[k]? =some ((g:Nat):Int):=by
 obtain⟨hd,h1,h2,_⟩:=ET hc hg
 rw [h2,mM]
 constructor
 ·rintro⟨i,hi,e⟩
  have:k=i:=by omega
  subst this
  obtain⟨a1,a2,a3⟩:=yE.1 hi
  obtain⟨g',b1,b2,b3⟩:=FD hc a1
  have:=vj (List.Nodup.sublist List.filter_sublist (lA _ _)) h1 (a3▸b3)
  exact⟨a1,by rw [b1,this]⟩
 ·rintro⟨a1,a2⟩
  obtain⟨g',b1,b2,b3⟩:=FD hc a1
  rw [a2] at b1;injection b1 with b1
  have:g=g':=by omega
  subst this
  rw [h1] at b3;injection b3 with b3
  exact⟨k,yE.2 ⟨a1,by omega,b3.symm⟩,rfl⟩
theorem IK (hc:tt bs ls pcs r gs ofP ofB sG sH) {g:Nat} {x:cC} (hg:gs[g]? =some x): ∀c∈x.eI,∃k:Nat,c= ((k:Nat):Int):=by
 obtain⟨hd,h1,h2,_⟩:=ET hc hg
 intro c hc'
 rw [h2,mM] at hc'
 obtain⟨i,_,e⟩:=hc'
 exact⟨i,e⟩
theorem IL (hc:tt bs ls pcs r gs ofP ofB sG sH) {g:Nat} {x:cC} (hg:gs[g]? =some x):x.eI.length<=pcs.length+bs.length/\x.aM.length<=pcs.length+bs.length/\x.eL.length<=ls.length:=by
 obtain⟨hd,h1,h2,h3,h4⟩:=ET hc hg
 have a1:=Cq pcs.length (cls (pcs.length+bs.length) r hd)
 have a2:=Cr bs pcs.length (cls (pcs.length+bs.length) r hd)
 have a3:=xA (pcs.length+bs.length) r hd
 rw [h2,h3,h4,jT,jT,cV]
 have:=l9 (fun l=>decide (yU bs pcs r l=some g)) ls
 omega
def AP (gs:List cC) (ofP:List Int) (k:Nat):Bool:=(ofP[k]?).elim false fun o=>(gs[o.toNat]?).elim false fun x=>(x.eL.length:Int)==0
theorem Gs (p:Nat->Bool) (n:Nat):jd (ints ((List.range n).filter p)):=AK (List.Pairwise.filter _ List.pairwise_lt_range)
end
section
variable {N:Nat} {a:k7} {mP:List (List aA)} {gq:List (List (List aA))} {r:Nat->Nat} {gs:List cC} {ofP ofB sG:List Int} {sH:List km}
theorem zb {p:Nat->Bool} {k:Nat}:ints ((List.range (k+1)).filter p)=if p k=true then ints ((List.range k).filter p)++[((k:Nat):Int)] else ints ((List.range k).filter p):=by
 rw [List.range_succ,kh,oc]
 by_cases h:p k=true
 ·rw [aC h,List.filter_cons,aC h];rfl
 ·rw [aG h,List.filter_cons,aG h];exact nD _
theorem xQ (p:Nat->Bool) (k:Nat): (ints ((List.range k).filter p)).length<=k:=by
 have:=l9 p (List.range k)
 rw [List.length_range] at this
 rw [jT];exact this
theorem EU (b:oV a mP gq r gs ofP ofB sG sH) (h1:i5 N a=some (some (a.aJ,a.cG,a.aM,a.bV,mP,dO 0 gq,fM a.aM (dO 0 gq),gs,ofP,ofB,sG,sH),0)):
  ka N a=some (ints ((List.range (dO 0 gq).length).filter (AP gs ofP)),0):=by
 have hf:=b.yS.2
 have hlp:=b.IB.of.lp
 refine Ok.get ?_
 unfold ka
 rw [h1,aB]
 simp only [GL,bne_self_eq_false,aR]
 refine Ok.bind (Ok.nn (fun k s=>s=ints ((List.range k).filter (AP gs ofP))) (by rw [hlp];omega) rfl (fun k s hk e=>?_)) (fun s e=>Ok.ret (by rw [e,hlp]))
 subst e
 rw [hlp] at hk
 obtain⟨g,g1,g2,_⟩:=FD b.IB hk
 have gx:gs[g]? =some gs[g]:=aO g2
 have hi:AP gs ofP k= ((gs[g].eL.length:Int)==0):=by
  unfold AP;rw [g1];show (gs[((g:Nat):Int).toNat]?).elim _ _=_;rw [cF,gx];rfl
 have hl:=xQ (AP gs ofP) k
 rw [dM g1,aB,dM gx,aB,<-hi,zb]
 refine Ok.bind (P:=fun s=>s= (if AP gs ofP k=true then ints ((List.range k).filter (AP gs ofP))++[((k:Nat):Int)] else ints ((List.range k).filter (AP gs ofP)))) (Ok.bif (fun h=>?_) (fun h=>?_)) (fun s e=>Ok.ret e)
 ·rw [aC h]
  exact Ok.app (by simp only [dN,List.length_nil];omega) (Ok.ret rfl)
 ·rw [aG (by rw [h];exact l8)];exact Ok.ret rfl
theorem D4 (b:oV a mP gq r gs ofP ofB sG sH) (h2:dB N a=some 0) (hN:4398046511104<=N):
  f9 N a=some (ints ((List.range (dO 0 gq).length).filter (AP gs ofP)),0):=by
 have hf:=b.yS.2
 have hbl:=b.wA.gb.len
 have hgl:=(HQ b.IB).2
 refine Ok.get ?_
 unfold f9
 rw [h2,aB,za b hN,aB]
 simp only [bne_self_eq_false,aR]
 refine Ok.bind (Ok.pr (n:=gs.length) (fun st=>st.2) (fun k st=>jd st.1/\st.1.length<=10000*k/\∀c,c∈st.1↔∃(g:Nat) (x:cC),g<k/\gs[g]? =some x/\((x.eL.length:Int)==0)=true/\c∈x.eI)
  (Go:=fun st=>jd st.1/\∀c,c∈st.1↔∃(g:Nat) (x:cC),g<gs.length/\gs[g]? =some x/\((x.eL.length:Int)==0)=true/\c∈x.eI) (Rt:=fun _=>False) ?_ ?_ (dH _) rfl (by exact⟨jG,by simp,fun c=>⟨fun h=>(by cases h),fun⟨g,x,h,_⟩=>(by omega)⟩⟩) (by omega)) ?_
 ·rintro k ⟨l,i⟩ hk e ⟨i1,i2,i3⟩
  dsimp only at e i1 i2 i3 ⊢
  subst e
  rw [kn hk,aP]
  have gx:gs[k]? =some gs[k]:=aO hk
  obtain⟨pl,_,_⟩:=IL b.IB gx
  refine Ok.bind (Ok.jE (Go:=fun st=>jd st.1/\st.1.length<=10000* (k+1)/\∀c,c∈st.1↔∃(g:Nat) (x:cC),g<k+1/\gs[g]? =some x/\((x.eL.length:Int)==0)=true/\c∈x.eI) (Rt:=fun _=>False)
   (fun st=>∃j:Nat,st.2= ((j:Nat):Int)/\j<=gs[k].eI.length/\jd st.1/\st.1.length<=10000*k+j/\∀c,c∈st.1↔c∈l\/(((gs[k].eL.length:Int)==0)=true/\c∈gs[k].eI.take j)) (fun st=>gs[k].eI.length - st.2.toNat) ?_
   ⟨0,rfl,dH _,i1,(by dsimp only;omega),fun c=>by simp⟩ (by simp;omega)) ?_
  ·rintro⟨m,jj⟩ ⟨j,e,hj,m1,m2,m3⟩
   dsimp only at e m1 m2 m3 ⊢
   subst e
   have hfin: (¬j<gs[k].eI.length\/((gs[k].eL.length:Int)==0)=false)->jd m/\m.length<=10000* (k+1)/\∀c,c∈m↔∃(g:Nat) (x:cC),g<k+1/\gs[g]? =some x/\((x.eL.length:Int)==0)=true/\c∈x.eI:=fun hh=>by
    refine⟨m1,by omega,fun c=>?_⟩
    rw [m3,i3]
    constructor
    ·rintro(⟨g,x,h1,h2,h3,h4⟩ | ⟨h1,h2⟩)
     ·exact⟨g,x,by omega,h2,h3,h4⟩
     ·exact⟨k,_,by omega,gx,h1,List.mem_of_mem_take h2⟩
    ·rintro⟨g,x,h1,h2,h3,h4⟩
     by_cases e:g=k
     ·subst e
      rw [gx] at h2;injection h2 with h2;subst h2
      rcases hh with hh | hh
      ·exact .inr ⟨h3,by rw [kV (by omega)];exact h4⟩
      ·rw [hh] at h3;cases h3
     ·exact .inl ⟨g,x,by omega,h2,h3,h4⟩
   rw [dM gx,aB]
   by_cases hlt:j<gs[k].eI.length
   ·rw [kn hlt,aP,aB,aB]
    refine Ok.bif (fun h=>?_) (fun h=>Ok.br (hfin (.inr h)))
    have px:gs[k].eI[j]? =some gs[k].eI[j]:=aO hlt
    rw [aB,dM px,aB,wD m1 (by omega) hN,aB]
    refine Ok.nx ⟨⟨j+1,bN (by omega),hlt,qQ m1,by have:=uU m gs[k].eI[j];dsimp only;omega,fun c=>?_⟩,by dsimp only;rw [bN (by omega)];simp only [cF];omega⟩
    dsimp only
    rw [xM,m3,eC hlt,cY,pS]
    constructor
    ·rintro((h' | ⟨h',h''⟩) | h')
     ·exact .inl h'
     ·exact .inr ⟨h', .inl h''⟩
     ·exact .inr ⟨h, .inr h'⟩
    ·rintro(h' | ⟨h',h'' | h''⟩)
     ·exact .inl (.inl h')
     ·exact .inl (.inr ⟨h',h''⟩)
     ·exact .inr h''
   ·rw [show decide (((j:Nat):Int)< (gs[k].eI.length:Int))=false from cD (by omega),aR,aB,aR]
    exact Ok.br (hfin (.inl hlt))
  intro o ho
  refine Ok.cs ho ?_ (fun r hr=>hr.elim)
  rintro⟨m,jj⟩ hm
  exact Ok.nx ⟨bN (by omega),hm⟩
 ·rintro⟨l,i⟩ e ⟨i1,i2,i3⟩
  dsimp only at e i1 i3 ⊢
  subst e
  rw [mN,aR]
  exact Ok.br ⟨i1,i3⟩
 intro o ho
 refine Ok.cs ho ?_ (fun r hr=>hr.elim)
 rintro⟨l,i⟩ ⟨i1,i3⟩
 dsimp only at i1 i3 ⊢
 refine Ok.ret ?_
 rw [xP i1 (Gs _ _)]
 intro c
 rw [i3,mM]
 constructor
 ·rintro⟨g,x,g1,g2,g3,g4⟩
  obtain⟨k,rfl⟩:=IK b.IB g2 c g4
  obtain⟨k1,k2⟩:=(HR b.IB g2 k).1 g4
  refine⟨k,i7.2 ⟨oX.2 k1,?_⟩,rfl⟩
  unfold AP;rw [k2];show (gs[((g:Nat):Int).toNat]?).elim _ _=_;rw [cF,g2];exact g3
 ·rintro⟨k,hk,rfl⟩
  obtain⟨h1,h2⟩:=i7.1 hk
  have h1:=oX.1 h1
  obtain⟨g,k1,k2,_⟩:=FD b.IB h1
  have gx:gs[g]? =some gs[g]:=aO k2
  unfold AP at h2;rw [k1] at h2
  have h2: (gs[((g:Nat):Int).toNat]?).elim false (fun x=>(x.eL.length:Int)==0)=true:=h2
  rw [cF,gx] at h2
  exact⟨g,_,k2,gx,h2,(HR b.IB gx k).2 ⟨h1,k1⟩⟩
def xR (bs:List cE) (tch:List (List Int)) (k:Nat):Bool:=(bs[k]?).elim false fun b=>b.eH&&(tch[k]?).elim false fun l=>decide ((l.length:Int)<2)
theorem xS {β:Type} (b:oV a mP gq r gs ofP ofB sG sH) {k:Nat} (hk:k<a.aM.length) {q:List Int->Option β} {Q:β->Prop} (hq:Ok (q (ints ((List.range (k+1)).filter (xR a.aM (fM a.aM (dO 0 gq)))))) Q):
  Ok (((idx a.aM ((k:Nat):Int)).bind fun x99=>bif x99.eH then ((idx (fM a.aM (dO 0 gq)) ((k:Nat):Int)).bind fun x109=>some (decide ((x109.length:Int)<2))) else (some false)).bind fun s107=>(bif s107 then ((app 8 (ints ((List.range k).filter (xR a.aM (fM a.aM (dO 0 gq))))) ([((k:Nat):Int)]: (List Int))).bind fun x118=>some x118) else (some (ints ((List.range k).filter (xR a.aM (fM a.aM (dO 0 gq))))))).bind q) Q:=by
 have hbl:=b.wA.gb.len
 have hx:a.aM[k]? =some a.aM[k]:=aO hk
 have hl:k< (fM a.aM (dO 0 gq)).length:=by unfold fM;rw [cV];exact hk
 have hy: (fM a.aM (dO 0 gq))[k]? =some (fM a.aM (dO 0 gq))[k]:=aO hl
 have hu:xR a.aM (fM a.aM (dO 0 gq)) k= (a.aM[k].eH&&decide (((fM a.aM (dO 0 gq))[k].length:Int)<2)):=by
  unfold xR;rw [hx,hy];rfl
 have hlen:=xQ (xR a.aM (fM a.aM (dO 0 gq))) k
 refine Ok.eq (x:=xR a.aM (fM a.aM (dO 0 gq)) k) ?_ ?_
 ·rw [dM hx,aB,dM hy,aB,hu]
  cases a.aM[k].eH <;> rfl
 ·refine Ok.bind (P:=fun s=>s=ints ((List.range (k+1)).filter (xR a.aM (fM a.aM (dO 0 gq))))) ?_ (fun s e=>by rw [e];exact hq)
  rw [zb]
  refine Ok.bif (fun h=>?_) (fun h=>?_)
  ·rw [aC h]
   exact Ok.app (by simp only [dN,List.length_nil];omega) (Ok.ret rfl)
  ·rw [aG (by rw [h];exact l8)];exact Ok.ret rfl
theorem EV (b:oV a mP gq r gs ofP ofB sG sH) (h1:i5 N a=some (some (a.aJ,a.cG,a.aM,a.bV,mP,dO 0 gq,fM a.aM (dO 0 gq),gs,ofP,ofB,sG,sH),0)):
  kb N a=some (ints ((List.range a.aM.length).filter (xR a.aM (fM a.aM (dO 0 gq)))),0):=by
 have hbl:=b.wA.gb.len
 refine Ok.get ?_
 unfold kb
 rw [h1,aB]
 simp only [GL,bne_self_eq_false,aR]
 refine Ok.bind (Ok.nn (fun k s=>s=ints ((List.range k).filter (xR a.aM (fM a.aM (dO 0 gq))))) (by omega) rfl (fun k s hk e=>?_)) (fun s e=>Ok.ret (by rw [e]))
 subst e
 have:=xS b hk (q:=some) (Q:=fun s=>s=ints ((List.range (k+1)).filter (xR a.aM (fM a.aM (dO 0 gq))))) (Ok.ret rfl)
 have hx:a.aM[k]? =some a.aM[k]:=aO hk
 rw [dM hx,aB] at this ⊢
 exact this
theorem D5 (b:oV a mP gq r gs ofP ofB sG sH) (h2:dB N a=some 0) (hN:4398046511104<=N):
  ga N a=some (ints ((List.range a.aM.length).filter (xR a.aM (fM a.aM (dO 0 gq)))),0):=by
 have hbl:=b.wA.gb.len
 refine Ok.get ?_
 unfold ga
 rw [h2,aB,za b hN,aB]
 simp only [bne_self_eq_false,aR]
 refine Ok.bind (Ok.pr (n:=a.aM.length) (fun st=>st.2) (fun k st=>st.1=ints ((List.range k).filter (xR a.aM (fM a.aM (dO 0 gq))))) (Go:=fun st=>st.1=ints ((List.range a.aM.length).filter (xR a.aM (fM a.aM (dO 0 gq))))) (Rt:=fun _=>False) ?_ ?_ (dH _) rfl rfl (by omega)) ?_
 ·rintro k ⟨l,i⟩ hk e hl
  dsimp only at e hl ⊢
  subst e;subst hl
  rw [kn hk,aP]
  exact xS b hk (Ok.nx ⟨bN (by omega),rfl⟩)
 ·rintro⟨l,i⟩ e hl
  dsimp only at e hl ⊢
  subst e
  rw [mN,aR]
  exact Ok.br hl
 intro o ho
 refine Ok.cs ho ?_ (fun r hr=>hr.elim)
 rintro⟨l,i⟩ hl
 dsimp only at hl ⊢
 exact Ok.ret (by rw [hl])
end
section
variable {N:Nat}
theorem vH {a:k7} (ha:bk a<=1048576) (hN:4398046511104<=N):gI N a=some true:=by
 have hs:=DN ha
 have key: ∃x y,ka N a=some x/\f9 N a=some x/\x.1.length<=1073741824/\kb N a=some y/\ga N a=some y/\y.1.length<=1073741824:=by
  rcases checked (N:=N) hs hN with ⟨e,he,h1,h2⟩ | ⟨b,h1,h2⟩
  ·have hb: (e != 0)=true:=by simpa using he
   refine⟨([],e),([],e),?_,?_,by simp,?_,?_,by simp⟩
   ·unfold ka;rw [h1,aB];simp only [GL,hb,aP]
   ·unfold f9;rw [h2,aB,hb,aP]
   ·unfold kb;rw [h1,aB];simp only [GL,hb,aP]
   ·unfold ga;rw [h2,aB,hb,aP]
  ·have hf:=b.yS.2
   have hbl:=b.wA.gb.len
   refine⟨_,_,EU b h1,D4 b h2 hN,?_,EV b h1,D5 b h2 hN,?_⟩
   ·exact Nat.le_trans (xQ _ _) (by omega)
   ·exact Nat.le_trans (xQ _ _) (by omega)
 obtain⟨x,y,x1,x2,x3,y1,y2,y3⟩:=key
 unfold gI
 rw [x1,aB,x2,aB,y1,aB,y2,aB,ym (by omega),aB,bS rfl,BEq.rfl,Bool.and_self,aP,ym (by omega),aB,bS rfl,BEq.rfl,Bool.and_self,aP,IE (by omega)]
 rfl
end
end Go.Gk
