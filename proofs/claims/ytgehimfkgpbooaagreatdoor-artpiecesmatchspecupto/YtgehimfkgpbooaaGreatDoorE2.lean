/-
  Helping texts: plain functions and plain laws. No statement of the seed is proved here.
-/
import Derived.Test.YtgehimfkgpbooaaGreatDoorE1
import Derived.Test.YtgehimfkgpbooaaGreatDoorA2
set_option linter.unusedVariables false
set_option linter.unusedSimpArgs false
set_option linter.unusedSectionVars false
namespace Go.Gk
open Go Classical
section
variable {N:Nat}
theorem xY {l:List Nat} (h:l.Nodup) {i j a:Nat} (hi:l[i]? =some a) (hj:l[j]? =some a):i=j:=
 (List.getElem_inj (h₀:=(bA.1 hi).1) (h₁:=(bA.1 hj).1) h).1 (by rw [(bA.1 hi).2,(bA.1 hj).2])
theorem oJ {n i k:Nat} {r:Nat->Nat}:i∈cls n r k↔i<n/\r i=k:=by unfold cls;simp
theorem FR (n:Nat) (r:Nat->Nat) (k:Nat): (cls n r k).Nodup:=List.Nodup.sublist List.filter_sublist List.nodup_range
structure K2 (bs:List cD) (n m:Nat) (r:Nat->Nat) (hs:List Nat) (ofP ofB:List Int):Prop where
 lp:ofP.length=n
 lb:ofB.length=m
 pc: ∀i,i<n->r i∈hs->ofP[i]? =some ((gi bs n (n+m) r (r i):Nat):Int)
 bo: ∀j,j<m->r (n+j)∈hs->ofB[j]? =some (if sg bs j=true then ((gi bs n (n+m) r (r (n+j)):Nat):Int) else -1)
theorem Dp {bs:List cD} {n m:Nat} {r:Nat->Nat} (hm:bs.length=m) (hn:n<=1073741824) (hm2:m<=1073741824) {op ob:List Int} (hop:op.length=n) (hob:ob.length=m)
  {body:Nat->List cO×List Int×List Int->Option (List cO×List Int×List Int)}
  (hbody:body= (fun(k123:Nat) (s124: (List cO)×(List Int)×(List Int))=>((idx (qu (n+m) r) (k123:Int)).bind fun x455=>(nE x455.length (fun(k458:Nat) (s459: (List Int)×(List Int)×(List Int)×(List Int))=>((idx x455 (k458:Int)).bind fun x556=>(bif (decide (x556< (n:Int))) then ((idx s459.1 x556).bind fun x580=>(app 8 s459.2.2.1 ([x556]: (List Int))).bind fun x582=>some ((s459.1.set (Int.toNat x556) (s124.1.length:Int)),s459.2.1,x582,s459.2.2.2)) else ((idx bs (IntKind.wrap .i64 (x556 - (n:Int)))).bind fun x584=>(bif x584.fJ then ((idx s459.2.1 (IntKind.wrap .i64 (x556 - (n:Int)))).bind fun x594=>(app 8 s459.2.2.2 ([(IntKind.wrap .i64 (x556 - (n:Int)))]: (List Int))).bind fun x596=>some ((s459.2.1.set (Int.toNat (IntKind.wrap .i64 (x556 - (n:Int)))) (s124.1.length:Int)),x596)) else ((idx s459.2.1 (IntKind.wrap .i64 (x556 - (n:Int)))).bind fun x598=>some ((s459.2.1.set (Int.toNat (IntKind.wrap .i64 (x556 - (n:Int)))) (-1)),s459.2.2.2))).bind fun s592=>some (s459.1,s592.1,s459.2.2.1,s592.2))).bind fun s577=>some (s577.1,s577.2.1,s577.2.2.1,s577.2.2.2):Option ((List Int)×(List Int)×(List Int)×(List Int)))) (s124.2.1,s124.2.2,([]: (List Int)),([]: (List Int)))).bind fun s459=>(bif (decide ((IntKind.wrap .i64 ((s459.2.2.1.length:Int)+ (s459.2.2.2.length:Int)))>0)) then ((app 72 s124.1 [(⟨s459.2.2.1,s459.2.2.2,([]: (List fk))⟩:cO)]).bind fun x610=>some x610) else (some s124.1)).bind fun s606=>some (s606,s459.1,s459.2.1):Option ((List cO)×(List Int)×(List Int))))):
  Ok (nE (qu (n+m) r).length body ([],op,ob)) (fun st=>st.1=k9 bs n (n+m) r (bK (n+m) r)/\K2 bs n m r (bK (n+m) r) st.2.1 st.2.2):=by
 subst hbody
 have hsl: (qu (n+m) r).length= (bK (n+m) r).length:=by unfold qu;simp
 have hhl:=kZ (n+m) r
 refine Ok.mono (Ok.nE (fun(k:Nat) (st:List cO×List Int×List Int)=>st.1=k9 bs n (n+m) r ((bK (n+m) r).take k)/\K2 bs n m r ((bK (n+m) r).take k) st.2.1 st.2.2) (by omega) ⟨rfl,hop,hob,fun i hi h=>by simp at h,fun j hj h=>by simp at h⟩ (fun k st hk hI=>?_)) (fun st h=>by rw [hsl,eO] at h;exact h)
 obtain⟨gs,ofP,ofB⟩:=st
 obtain⟨e1,I⟩:=hI
 dsimp only at e1 I ⊢
 subst e1
 rw [hsl] at hk
 have hkx: (bK (n+m) r)[k]? =some (bK (n+m) r)[k]:=aN hk
 have hts: (bK (n+m) r).take (k+1)= (bK (n+m) r).take k++[(bK (n+m) r)[k]]:=eF hk
 have hgk:gi bs n (n+m) r (bK (n+m) r)[k]= (k9 bs n (n+m) r ((bK (n+m) r).take k)).length:=by
  unfold gi;rw [vv (mw _ _) hkx,si]
 generalize hh: (bK (n+m) r)[k]=h at *
 have hsx: (qu (n+m) r)[k]? =some (ints (cls (n+m) r h)):=by unfold qu;rw [gr,hkx];rfl
 refine Ok.ix hsx ?_
 have hcl:=yZ (n+m) r h
 rw [k7]
 have hgl: (k9 bs n (n+m) r ((bK (n+m) r).take k)).length<=n+m:=by
  rw [si]
  have:=pP bs n (n+m) r ((bK (n+m) r).take k)
  rw [cL] at this;omega
 have hold: ∀i∈cls (n+m) r h,∀i',r i'∈(bK (n+m) r).take k->i≠i':=fun i hi i' hi' e=>by
  subst e
  rw [(oJ.1 hi).2] at hi'
  obtain⟨j,hj⟩:=dS hi'
  have hjk:j<k:=by have:=(bA.1 hj).1;rw [cL] at this;omega
  rw [List.getElem?_take_of_lt hjk] at hj
  have:=xY (mw (n+m) r) hj hkx
  omega
 refine Ok.bind (P:=fun s'=>K2 bs n m r ((bK (n+m) r).take (k+1)) s'.1 s'.2.1/\s'.2.2.1=ints (gP n (cls (n+m) r h))/\s'.2.2.2=ints (gB bs n (cls (n+m) r h))) (Ok.mono (Ok.nE
  (fun(t:Nat) (s':List Int×List Int×List Int×List Int)=>K2 bs n m r ((bK (n+m) r).take k) s'.1 s'.2.1/\s'.2.2.1=ints (gP n ((cls (n+m) r h).take t))/\s'.2.2.2=ints (gB bs n ((cls (n+m) r h).take t))/\
   (∀i∈(cls (n+m) r h).take t,i<n->s'.1[i]? =some ((gi bs n (n+m) r h:Nat):Int))/\∀i∈(cls (n+m) r h).take t,¬i<n->s'.2.1[i - n]? =some (if sg bs (i - n)=true then ((gi bs n (n+m) r h:Nat):Int) else -1)) (by omega)
   ⟨I,rfl,rfl,fun i hi=>by simp at hi,fun i hi=>by simp at hi⟩ (fun t s' ht hI'=>?_)) ?_) ?_
 ·obtain⟨oP,oB,pp,bb⟩:=s'
  obtain⟨J,e2,e3,J1,J2⟩:=hI'
  dsimp only at J e2 e3 J1 J2 ⊢
  subst e2;subst e3
  have htx: (ints (cls (n+m) r h))[t]? =some (((cls (n+m) r h)[t]:Nat):Int):=by unfold ints;rw [gr,aN ht];rfl
  refine Ok.ix htx ?_
  have htt: (cls (n+m) r h).take (t+1)= (cls (n+m) r h).take t++[(cls (n+m) r h)[t]]:=eF ht
  have hcm:=cM ht
  have hdist: ∀i∈(cls (n+m) r h).take t,i≠(cls (n+m) r h)[t]:=fun i hi e=>by
   obtain⟨j,hj⟩:=dS hi
   have hjt:j<t:=by have:=(bA.1 hj).1;rw [cL] at this;omega
   rw [List.getElem?_take_of_lt hjt] at hj
   have:=xY (FR (n+m) r h) hj (by rw [e];exact aN ht)
   omega
  generalize (cls (n+m) r h)[t]=c at *
  obtain⟨hc1,hc2⟩:=oJ.1 hcm
  have hgp:=En n ((cls (n+m) r h).take t)
  have hgb:=Eo bs n ((cls (n+m) r h).take t)
  rw [cL] at hgp hgb
  by_cases hcn:c<n
  ·rw [bR (by omega: ((c:Nat):Int)< ((n:Nat):Int)),aP]
   refine Ok.bind (P:=fun x=>x= (oP.set c ((gi bs n (n+m) r h:Nat):Int),oB,ints (gP n ((cls (n+m) r h).take t))++[((c:Nat):Int)],ints (gB bs n ((cls (n+m) r h).take t)))) ?_ ?_
   ·refine Ok.idx (by rw [J.lp];exact hcn) (Ok.app (by rw [k7];simp;omega) (Ok.ret ?_))
    rw [cH,hgk]
   ·rintro _ rfl
    refine Ok.ret ⟨⟨by simp [J.lp],J.lb,fun i hi hr=>?_,J.bo⟩,?_,?_,fun i hi hin=>?_,fun i hi hin=>?_⟩
    ·dsimp only
     rw [np (by rw [J.lp];exact hcn),aG (fun e=>hold c hcm i hr e.symm)];exact J.pc i hi hr
    ·dsimp only;rw [htt,E3,aC hcn,o0];rfl
    ·dsimp only;rw [htt,E4,aC hcn]
    ·dsimp only
     rw [np (by rw [J.lp];exact hcn)]
     split
     ·rfl
     ·rename_i hne
      rw [htt] at hi
      rcases dA.1 hi with hi | hi
      ·exact J1 i hi hin
      ·exact absurd (by simpa using hi) hne
    ·rw [htt] at hi
     rcases dA.1 hi with hi | hi
     ·exact J2 i hi hin
     ·have:i=c:=by simpa using hi
      subst this;exact absurd hcn hin
  ·rw [cC (by omega: ¬((c:Nat):Int)< ((n:Nat):Int)),aR]
   have hw:IntKind.wrap .i64 (((c:Nat):Int) - ((n:Nat):Int))= ((c - n:Nat):Int):=by rw [eT (by omega) (by omega)];omega
   have hcm2:c - n<bs.length:=by omega
   have hpl:sg bs (c - n)=bs[c - n].fJ:=by unfold sg;rw [aN hcm2];rfl
   rw [hw]
   refine Ok.bind (P:=fun x=>x= (oP,oB.set (c - n) (if sg bs (c - n)=true then ((gi bs n (n+m) r h:Nat):Int) else -1),ints (gP n ((cls (n+m) r h).take t)),ints (gB bs n ((cls (n+m) r h).take t++[c])))) ?_ ?_
   ·refine Ok.idx hcm2 ?_
    rw [E4,aG hcn,hpl]
    cases hp:bs[c - n].fJ with
    | true=>
     rw [aP,aC rfl,aC rfl]
     refine Ok.eq (x:=(oB.set (c - n) ((gi bs n (n+m) r h:Nat):Int),ints (gB bs n ((cls (n+m) r h).take t)++[c - n]))) ?_ (Ok.ret rfl)
     rw [kI _ _ (by rw [J.lb];omega),aB,kq (by rw [k7];simp;omega),aB,cH,hgk,o0];rfl
    | false=>
     rw [aR,aG (by simp),aG (by simp)]
     refine Ok.eq (x:=(oB.set (c - n) (-1),ints (gB bs n ((cls (n+m) r h).take t)))) ?_ (Ok.ret rfl)
     rw [kI _ _ (by rw [J.lb];omega),aB,cH]
   ·rintro _ rfl
    refine Ok.ret ⟨⟨J.lp,by simp [J.lb],J.pc,fun j hj hr=>?_⟩,?_,?_,fun i hi hin=>?_,fun i hi hin=>?_⟩
    ·dsimp only
     rw [np (by rw [J.lb];omega),aG (fun e=>hold c hcm (n+j) hr (by omega))];exact J.bo j hj hr
    ·dsimp only;rw [htt,E3,aG hcn]
    ·dsimp only;rw [htt]
    ·rw [htt] at hi
     rcases dA.1 hi with hi | hi
     ·exact J1 i hi hin
     ·have:i=c:=by simpa using hi
      subst this;exact absurd hin hcn
    ·dsimp only
     rw [np (by rw [J.lb];omega)]
     split
     ·rename_i e;rw [e]
     ·rename_i hne
      rw [htt] at hi
      rcases dA.1 hi with hi | hi
      ·exact J2 i hi hin
      ·exact absurd (by have:i=c:=(by simpa using hi);rw [this]) hne
 ·rintro⟨oP,oB,pp,bb⟩ ⟨J,e2,e3,J1,J2⟩
  dsimp only at J e2 e3 J1 J2 ⊢
  rw [eO] at e2 e3 J1 J2
  refine⟨⟨J.lp,J.lb,fun i hi hr=>?_,fun j hj hr=>?_⟩,e2,e3⟩
  ·rw [hts] at hr
   rcases dA.1 hr with hr | hr
   ·exact J.pc i hi hr
   ·have hr:r i=h:=by simpa using hr
    rw [hr];exact J1 i (oJ.2 ⟨by omega,hr⟩) hi
  ·rw [hts] at hr
   rcases dA.1 hr with hr | hr
   ·exact J.bo j hj hr
   ·have hr:r (n+j)=h:=by simpa using hr
    rw [hr]
    have:=J2 (n+j) (oJ.2 ⟨by omega,hr⟩) (by omega)
    rwa [Nat.add_sub_cancel_left] at this
 ·rintro⟨oP,oB,pp,bb⟩ ⟨J,e2,e3⟩
  dsimp only at J e2 e3 ⊢
  subst e2;subst e3
  have hgp:=En n (cls (n+m) r h)
  have hgb:=Eo bs n (cls (n+m) r h)
  rw [k7,k7,wrap_add (by omega)]
  have hgs:k9 bs n (n+m) r ((bK (n+m) r).take (k+1))=if Dn bs n (cls (n+m) r h)=true then k9 bs n (n+m) r ((bK (n+m) r).take k)++[IG bs n (cls (n+m) r h)] else k9 bs n (n+m) r ((bK (n+m) r).take k):=by
   unfold k9
   rw [hts,Bj]
   split
   ·rw [dN];rfl
   ·rfl
  refine Ok.bind (P:=fun x=>x=k9 bs n (n+m) r ((bK (n+m) r).take (k+1))) (Ok.bif (fun hb=>?_) (fun hb=>Ok.ret ?_)) (fun x e=>Ok.ret ⟨e,J⟩)
  ·have hne:Dn bs n (cls (n+m) r h)=true:=bR (by have:=of_decide_eq_true hb;omega)
   refine Ok.app (by simp;omega) (Ok.ret ?_)
   rw [hgs,aC hne];rfl
  ·have hne: ¬Dn bs n (cls (n+m) r h)=true:=fun h'=>by
    have h1:=of_decide_eq_true h'
    have h2:=of_decide_eq_false hb
    omega
   rw [hgs,aG hne]
end
end Go.Gk
namespace Go.Gk
open Go Classical
section
variable {N:Nat}
def lB (n:Nat) (h:j9):Nat:=if h.cD=true then n+h.Number.toNat else h.Number.toNat
structure II (bs:List cD) (n m:Nat) (h:j9):Prop where
 num: ∃k:Nat,h.Number= ((k:Nat):Int)/\(h.cD=true->k<m/\sg bs k=true)/\(h.cD=false->k<n)
theorem Hb {bs:List cD} {pcs:List aK} {l:fK} {h:j9} (hh:yQ bs pcs l=some h):II bs pcs.length bs.length h:=by
 unfold yQ at hh
 cases hf:bs.findIdx? (k8 l) with
 | some k=>
  rw [hf] at hh
  injection hh with hh;subst hh
  obtain⟨hk,hp,_⟩:=List.findIdx?_eq_some_iff_getElem.1 hf
  refine⟨k,rfl,fun _=>⟨hk,?_⟩,fun h=>by cases h⟩
  unfold k8 at hp
  unfold sg
  rw [aN hk]
  rw [bW] at hp
  exact hp.1
 | none=>
  rw [hf] at hh
  dsimp only at hh
  rw [qN] at hh
  obtain⟨k,hk,rfl⟩:=hh
  obtain⟨hk,_⟩:=List.findIdx?_eq_some_iff_getElem.1 hk
  exact⟨k,rfl,fun h=>(by cases h),fun _=>hk⟩
def y4 (bs:List cD) (pcs:List aK) (r:Nat->Nat) (l:fK):Option Nat:=(yQ bs pcs l).map fun h=>gi bs pcs.length (pcs.length+bs.length) r (r (lB pcs.length h))
def H7 (bs:List cD) (pcs:List aK) (r:Nat->Nat) (l:fK):Int:=match y4 bs pcs r l with | some g=>((g:Nat):Int) | none=> -1
def fT (gs:List cO) (lg:fK->Option Nat) (ls:List fK):List cO:=gs.mapIdx (fun g x=>{x with fW:=(ls.filter (fun l=>decide (lg l=some g))).map mM})
theorem jf {gs:List cO} {lg:fK->Option Nat} {ls:List fK} {g:Nat}: (fT gs lg ls)[g]? = (gs[g]?).map fun x=>{x with fW:=(ls.filter (fun l=>decide (lg l=some g))).map mM}:=by
 unfold fT;rw [List.getElem?_mapIdx]
theorem xg (gs:List cO) (lg:fK->Option Nat) (ls:List fK): (fT gs lg ls).length=gs.length:=by unfold fT;rw [List.length_mapIdx]
theorem vx {gs:List cO} {lg:fK->Option Nat} {ls:List fK} {l:fK} (h:lg l=none):fT gs lg (ls++[l])=fT gs lg ls:=by
 apply List.ext_getElem?
 intro g
 rw [jf,jf]
 congr 2
 funext x
 rw [ki]
 simp [h]
theorem xh {gs:List cO} {lg:fK->Option Nat} {ls:List fK} {l:fK} {k:Nat} {x:cO} (h:lg l=some k) (hx: (fT gs lg ls)[k]? =some x):
  (fT gs lg ls).set k {x with fW:=x.fW++[mM l]}=fT gs lg (ls++[l]):=by
 apply List.ext_getElem?
 intro g
 have hk:=(bA.1 hx).1
 rw [fe]
 by_cases e:k=g
 ·subst e
  rw [aC rfl,aC hk,jf]
  rw [jf,qN] at hx
  obtain⟨y,hy,rfl⟩:=hx
  rw [hy,ki]
  simp [h]
 ·rw [aG e,jf,jf]
  congr 2
  funext x
  rw [ki]
  have: ¬(lg l=some g):=by rw [h];intro h';injection h' with h';exact e h'
  simp [this]
theorem Hc {bs:List cD} {n t:Nat} {r:Nat->Nat} {i:Nat} (hi:i<n) (ht:i<t):Dn bs n (cls t r (r i))=true:=by
 unfold Dn
 rw [bQ]
 have:i∈gP n (cls t r (r i)):=jr.2 ⟨oJ.2 ⟨ht,rfl⟩,by simpa using hi⟩
 have:=List.length_pos_of_mem this
 omega
theorem Hd {bs:List cD} {n t:Nat} {r:Nat->Nat} {j:Nat} (hp:sg bs j=true) (ht:n+j<t):Dn bs n (cls t r (r (n+j)))=true:=by
 unfold Dn
 rw [bQ]
 have:j∈gB bs n (cls t r (r (n+j))):=dH.2 ⟨n+j,jr.2 ⟨oJ.2 ⟨ht,rfl⟩,by simp [hp]⟩,by omega⟩
 have:=List.length_pos_of_mem this
 omega
structure Ep (bs:List cD) (ls:List fK) (pcs:List aK) (r:Nat->Nat) (gs:List cO) (ofP ofB wc:List Int) (we:List j9):Prop where
 conn:H6 pcs.length bs.length (iV bs pcs) r
 gs:gs=fT (k9 bs pcs.length (pcs.length+bs.length) r (bK (pcs.length+bs.length) r)) (y4 bs pcs r) ls
 of:K2 bs pcs.length bs.length r (bK (pcs.length+bs.length) r) ofP ofB
 wc:wc=ls.map (H7 bs pcs r)
 we:we=ls.map (fun l=>(yQ bs pcs l).getD ⟨false,0⟩)
theorem zX {bs:List cD} {pcs:List aK} (hp:pcs.length<=1073741824): ∀l∈iV bs pcs,l.length<=1073741824/\∀x∈l,∃i:Nat,i<pcs.length/\x= ((i:Nat):Int):=by
 intro l hl
 unfold iV at hl
 obtain⟨b,_,rfl⟩:=dH.1 hl
 have:=xX (gS b) pcs pcs.length
 refine⟨by rw [k7];omega,fun x hx=>?_⟩
 obtain⟨i,hi,rfl⟩:=o4.1 hx
 exact⟨i,(FP.1 hi).1,rfl⟩
theorem B5 {bs:List cD} {ls:List fK} {pcs:List aK} (hb:kg bs) (hp:pcs.length<=1000000000) (hr: ∀p∈pcs,p.gM.length<=1073741824) (hl:ls.length<=1073741824) (hN:4398046511104<=N):
  Ok (f0 N bs ls pcs (iV bs pcs) [] [] [] []) (fun x=>∃r,Ep bs ls pcs r x.1 x.2.1 x.2.2.1 x.2.2.2.1 x.2.2.2.2):=by
 have hbl:=hb.len
 unfold f0
 rw [wrap_add (by omega)]
 obtain⟨up0,u1,u2⟩:=Dd (N:=N) (n:=pcs.length+bs.length) (by omega)
 refine Ok.eq u1 ?_
 refine Ok.bind (FQ (n:=pcs.length) (m:=bs.length) (by unfold iV;simp) (zX (by omega)) (by omega) (by omega) u2 hN) ?_
 rintro up1 ⟨r,v1,v2⟩
 refine Ok.eq (qT 0 (by omega)) (Ok.eq (qT 0 (by omega)) ?_)
 obtain⟨up2,w1,_⟩:=H4 (N:=N) v1 (by omega) (by omega)
 refine Ok.eq w1 ?_
 refine Ok.bind (Dp (bs:=bs) (n:=pcs.length) (m:=bs.length) (r:=r) rfl (by omega) (by omega) (op:=List.replicate pcs.length 0) (ob:=List.replicate bs.length 0) (by simp) (by simp) rfl) ?_
 rintro⟨gs,ofP,ofB⟩ ⟨e1,I⟩
 dsimp only at e1 I ⊢
 subst e1
 have hgl: (k9 bs pcs.length (pcs.length+bs.length) r (bK (pcs.length+bs.length) r)).length<=pcs.length+bs.length:=by
  rw [si]
  have:=pP bs pcs.length (pcs.length+bs.length) r (bK (pcs.length+bs.length) r)
  have:=kZ (pcs.length+bs.length) r
  omega
 refine Ok.bind (Ok.nE (fun(k:Nat) (st:List cO×List Int×List Int×List Int×List j9)=>st= (fT (k9 bs pcs.length (pcs.length+bs.length) r (bK (pcs.length+bs.length) r)) (y4 bs pcs r) (ls.take k),ofP,ofB,(ls.take k).map (H7 bs pcs r),(ls.take k).map (fun l=>(yQ bs pcs l).getD ⟨false,0⟩))) (by omega) ?_ (fun k st hk e=>?_)) ?_
 ·congr 1
  unfold fT
  apply List.ext_getElem?
  intro g
  rw [List.getElem?_mapIdx]
  unfold k9
  rw [gr]
  cases (live bs pcs.length (pcs.length+bs.length) r (bK (pcs.length+bs.length) r))[g]? <;> rfl
 ·subst e
  dsimp only
  have hts:ls.take (k+1)=ls.take k++[ls[k]]:=eF hk
  refine Ok.idx hk (Ok.eq (Ha hb (by omega) hr _) ?_)
  dsimp only
  refine Ok.bind (P:=fun x=>x= (fT (k9 bs pcs.length (pcs.length+bs.length) r (bK (pcs.length+bs.length) r)) (y4 bs pcs r) (ls.take k++[ls[k]]),H7 bs pcs r ls[k])) ?_ ?_
  ·cases hh:yQ bs pcs ls[k] with
   | none=>
    refine Ok.ret ?_
    have h1:y4 bs pcs r ls[k]=none:=by unfold y4;rw [hh];rfl
    rw [vx h1]
    unfold H7;rw [h1]
   | some h=>
    have h1:y4 bs pcs r ls[k]=some (gi bs pcs.length (pcs.length+bs.length) r (r (lB pcs.length h))):=by unfold y4;rw [hh];rfl
    have h2:H7 bs pcs r ls[k]= ((gi bs pcs.length (pcs.length+bs.length) r (r (lB pcs.length h)):Nat):Int):=by unfold H7;rw [h1]
    obtain⟨q,q1,q2,q3⟩:=(Hb hh).num
    have hix:lB pcs.length h<pcs.length+bs.length/\Dn bs pcs.length (cls (pcs.length+bs.length) r (r (lB pcs.length h)))=true/\ik N ofP ofB h=some ((gi bs pcs.length (pcs.length+bs.length) r (r (lB pcs.length h)):Nat):Int):=by
     unfold ik lB
     rw [q1,cH]
     cases hbo:h.cD with
     | true=>
      obtain⟨q4,q5⟩:=q2 hbo
      rw [aP,aC rfl]
      refine⟨by omega,Hd q5 (by omega),?_⟩
      have:=I.bo q q4 (ja.2 ⟨by have:=v2.le (pcs.length+q) (by omega);omega,v2.rr _ (by omega)⟩)
      rw [aC q5] at this
      rw [dU this,aB]
     | false=>
      have q4:=q3 hbo
      rw [aR,aG (by simp)]
      refine⟨by omega,Hc q4 (by omega),?_⟩
      have:=I.pc q q4 (ja.2 ⟨by have:=v2.le q (by omega);omega,v2.rr _ (by omega)⟩)
      rw [dU this,aB]
    obtain⟨i1,i2,i3⟩:=hix
    have hgi:=IH (r:=r) (t:=pcs.length+bs.length) (bs:=bs) (n:=pcs.length) (h:=r (lB pcs.length h)) (ja.2 ⟨by have:=v2.le _ i1;omega,v2.rr _ i1⟩) i2
    have hgx:gi bs pcs.length (pcs.length+bs.length) r (r (lB pcs.length h))< (fT (k9 bs pcs.length (pcs.length+bs.length) r (bK (pcs.length+bs.length) r)) (y4 bs pcs r) (ls.take k)).length:=by
     rw [xg,si];exact hgi.1
    rw [h2]
    dsimp only [Option.getD,Option.isSome]
    rw [aP]
    refine Ok.eq i3 ?_
    generalize gi bs pcs.length (pcs.length+bs.length) r (r (lB pcs.length h))=g at *
    refine Ok.idx hgx (Ok.eq (Bi _) ?_)
    have hpl: ((fT (k9 bs pcs.length (pcs.length+bs.length) r (bK (pcs.length+bs.length) r)) (y4 bs pcs r) (ls.take k))[g]).fW.length<=ls.length:=by
     have:=jf (gs:=k9 bs pcs.length (pcs.length+bs.length) r (bK (pcs.length+bs.length) r)) (lg:=y4 bs pcs r) (ls:=ls.take k) (g:=g)
     rw [aN hgx] at this
     have:=this.symm
     rw [qN] at this
     obtain⟨y,_,hy⟩:=this
     rw [<-hy,cV]
     have:=ni (fun l=>decide (y4 bs pcs r l=some g)) (ls.take k)
     rw [cL] at this;omega
    refine Ok.app (by simp;omega) (Ok.idx hgx (Ok.ret ?_))
    rw [cH]
    congr 1
    exact xh h1 (aN hgx)
  ·rintro _ rfl
   dsimp only
   refine Ok.app (by simp;omega) (Ok.app (by simp;omega) (Ok.ret ?_))
   rw [hts,dN,dN];rfl
 ·rintro st rfl
  dsimp only
  rw [eO]
  exact Ok.ret ⟨r,v2,rfl,I,rfl,rfl⟩
end
end Go.Gk
namespace Go.Gk
open Go Classical
section
variable {N:Nat}
theorem xZ {p:aK}: ∀{gI:List (List (List aA))} {k:Nat},p∈eJ k gI->∃(i:Nat) (ps:List (List aA)) (q:List aA),gI[i]? =some ps/\q∈ps/\p= ⟨((k+i:Nat):Int),q,aS q⟩
 | [],k,h=>by cases h
 | ps::gI,k,h=>by
  rcases dA.1 h with h | h
  ·obtain⟨q,hq,rfl⟩:=dH.1 h
   exact⟨0,ps,q,rfl,hq,rfl⟩
  ·obtain⟨i,ps',q,h1,h2,h3⟩:=xZ h
   refine⟨i+1,ps',q,by simpa using h1,h2,?_⟩
   rw [h3,show k+1+i=k+ (i+1) by omega]
structure oK (a:ld):Prop where
 yP:0<a.aJ.length/\a.aJ.length<=16
 MA: ∀r∈a.aJ,jJ r=0
 out:jJ a.cE=0
 many:a.cE.length+ (a.aJ.map List.length).sum<=2000
 xk:iU a=0
 He:mz a=0
theorem oK.gb {a:ld} (h:oK a):kg a.aO:=⟨(lL h.xk).1,fun b hb=>⟨((lL h.xk).2 b hb).1,((lL h.xk).2 b hb).2.1⟩⟩
theorem oK.cs {a:ld} (h:oK a): ∀r∈a.aJ,r.length<=2000/\∀x∈r,Ar x:=fun r hr=>zT (uB.1 (h.MA r hr)).1
structure xl (a:ld) (mY:List (List aA)) (gI:List (List (List aA))) (p:aK) (i:Nat) (r:List aI) (s:List aA) (ps:List (List aA)) (u:Nat->Nat) (j k:Nat):Prop where
 MW:a.aJ[i]? =some r
 mY:mY[i]? =some s
 gI:gI[i]? =some ps
 dr:sY r (jL a.aO ((i:Nat):Int)) s
 pt:qW s u ps
 at_:ps[j]? =some p.Set
 head: (bK (aS s).length u)[j]? =some k
 set:r8 (ng (aS s) (aS s).length u k) p.Set
 lim:v9 (r6 r++r6 (jL a.aO ((i:Nat):Int))) (je r++je (jL a.aO ((i:Nat):Int))) (p.Set.map bY)
 K3:p.cU= ((i:Nat):Int)
 K4:p.gM=aS p.Set
theorem Hf {a:ld} {mY:List (List aA)} {gI:List (List (List aA))} (hg:oK a) (hD:vY a.aJ a.aO a.aJ.length mY gI) {p:aK} (hp:p∈eJ 0 gI): ∃i r s ps u j k,xl a mY gI p i r s ps u j k:=by
 obtain⟨i,ps,q,h1,h2,rfl⟩:=xZ hp
 have hil:i<a.aJ.length:=by have:=(bA.1 h1).1;rw [hD.yO] at this;exact this
 have hc:a.aJ[i]? =some a.aJ[i]:=aN hil
 have hd:mY[i]? =some (mY[i]'(by rw [hD.len];exact hil)):=aN _
 have hdr:=hD.dr i _ _ hil hc hd
 obtain⟨u,hu⟩:=hD.pt i _ ps hil hd h1
 obtain⟨sx,sy⟩:=hdr.small (hg.cs _ (cM hil)).2 (fun x hx=>(qx hg.gb _ x hx).1)
 obtain⟨j,k,g1,g2,g3,g4⟩:=zW hu hdr.can hdr.lim sx sy h2
 exact⟨i,_,_,ps,u,j,k,hc,hd,h1,hdr,hu,g1,g2,g3,g4,by rw [iB],rfl⟩
theorem xl.Dk {a:ld} {mY:List (List aA)} {gI:List (List (List aA))} (hg:oK a) {p:aK} {i:Nat} {r:List aI} {s:List aA} {ps:List (List aA)} {u:Nat->Nat} {j k:Nat} (h:xl a mY gI p i r s ps u j k):
  p.Set.length<=5000/\(∀b∈p.Set,b.Xs.length<=5000)/\p.gM.length<=5000*5000:=by
 have h1:=(hg.cs r (eU h.MW)).1
 have h2:=xW hg.gb ((i:Nat):Int)
 rw [h.K4]
 exact uU (A:=5000) h.set.can h.lim (by rw [cZ,lz,lz];omega) (by rw [cZ,jo,jo];omega)
def xm (a0 a1 b0 b1:Int):Bool:=decide (b0<a1)&&decide (a0<b1)
def Dq (a b:aI):Bool:=xm a.X0 a.X1 b.X0 b.X1&&xm a.Y0 a.Y1 b.Y0 b.Y1
theorem zY {a0 a1 b0 b1:Int} (h1: -1000000<=a0/\a0<=1000000) (h2: -1000000<=a1/\a1<=1000000) (h3: -1000000<=b0/\b0<=1000000) (h4: -1000000<=b1/\b1<=1000000): ∃n,lH N a0 a1 b0 b1=some n/\0<=n/\(n=0↔xm a0 a1 b0 b1=true):=by
 unfold lH xm
 have e1:IntKind.wrap .i64 (b0 - a1)=b0 - a1:=eT (by omega) (by omega)
 have e2:IntKind.wrap .i64 (a0 - b1)=a0 - b1:=eT (by omega) (by omega)
 have e3:IntKind.wrap .i64 (b0 - a1+1)=b0 - a1+1:=eT (by omega) (by omega)
 have e4:IntKind.wrap .i64 (a0 - b1+1)=a0 - b1+1:=eT (by omega) (by omega)
 rw [e1,e2,e3,e4]
 refine⟨_,rfl,?_,?_⟩
 ·repeat' split
  all_goals omega
 ·rw [bW,bQ,bQ]
  repeat' split
  all_goals omega
theorem Jq {a b:aI} (h1:fj a=true) (h2:fj b=true): ∃n,rD N a b=some n/\(n=0↔Dq a b=true):=by
 have b1:=my h1
 have b2:=my h2
 obtain⟨n,n1,n2,n3⟩:=zY (N:=N) (a0:=a.X0) (a1:=a.X1) (b0:=b.X0) (b1:=b.X1) (by omega) (by omega) (by omega) (by omega)
 obtain⟨m,m1,m2,m3⟩:=zY (N:=N) (a0:=a.Y0) (a1:=a.Y1) (b0:=b.Y0) (b1:=b.Y1) (by omega) (by omega) (by omega) (by omega)
 unfold rD Dq
 rw [n1,aB,m1,aB]
 refine⟨_,rfl,?_⟩
 rw [bW,<-n3,<-m3]
 split <;> omega
def qy (x y:cD):Bool:=(decide (x.cN<=y.To)&&decide (y.cN<=x.To))&&Dq (tP x) (tP y)
def qz (a:ld):Prop:=∃(i k:Nat) (x y:cD),k<i/\a.aO[i]? =some x/\a.aO[k]? =some y/\qy x y=true
noncomputable def vk (r:List aI):Option Int:=if jJ r≠0 then some (jJ r) else none
noncomputable def Dr (a:ld):Int:=if 2000<a.cE.length+ (a.aJ.map List.length).sum then 2 else if iU a≠0 then iU a else if mz a≠0 then mz a else if qz a then 12 else 0
noncomputable def Hg (a:ld):Int:=match a.aJ.findSome? vk with | some e=>e | none=>if jJ a.cE≠0 then jJ a.cE else Dr a
noncomputable def kz (a:ld):Int:=if a.aJ.length=0 then 9 else if 16<a.aJ.length then 2 else Hg a
def Jz (mY:List (List aA)) (gI:List (List (List aA))):Prop:=(∀s∈mY,(aS s).length<=2000)/\(eJ 0 gI).length<=2000
abbrev zZ:=(List (List aI))×(List aI)×(List cD)×(List fK)×(List (List aA))×(List aK)×(List (List Int))×(List cO)×(List Int)×(List Int)×(List Int)×(List j9)
def IJ (a:ld) (x:Option zZ×Int):Prop:=
 (kz a≠0/\x= (none,kz a))\/(kz a=0/\oK a/\¬qz a/\∃mY gI,vY a.aJ a.aO a.aJ.length mY gI/\
  ((¬Jz mY gI/\x= (none,2))\/(Jz mY gI/\∃r gs ofP ofB wc we,Ep a.aO a.bV (eJ 0 gI) r gs ofP ofB wc we/\
   x= (some (a.aJ,a.cE,a.aO,a.bV,mY,eJ 0 gI,iV a.aO (eJ 0 gI),gs,ofP,ofB,wc,we),0))))
structure uC (a:ld):Prop where
 cs:a.aJ.length<=1048576
 each: ∀r∈a.aJ,r.length<=1048576
 out:a.cE.length<=1048576
 bs:a.aO.length<=1048576
 ls:a.bV.length<=1048576
 nm:zU a
theorem Ds {a:ld} (h:bk a<=1048576):uC a:=by
 rw [GV] at h
 have h1:=xK a.aJ
 have h2:=xK a.cE
 have h3:=xK a.aO
 have h4:=xK a.bV
 refine⟨by omega,fun r hr=>?_,by omega,by omega,by omega,fun x hx=>?_⟩
 ·have:=Eb hr
  have:=xK r;omega
 ·have:=Eb hx
  rw [ET,GR,GR] at this;omega
theorem Bl {a:ld} (hs:uC a) (hN:4398046511104<=N):Ok (iO N a) (IJ a):=by
 unfold iO
 have pe: ∀e:Int,e≠0->kz a=e->Ok (some ((none:Option zZ),e)) (IJ a):=fun e he h=>Ok.ret (.inl ⟨by rw [h];exact he,by rw [h]⟩)
 have c1:=hs.cs
 refine Ok.bif (fun h=>?_) (fun h=>?_)
 ·have:a.aJ.length=0:=by have:=beq_iff_eq.1 h;omega
  exact pe 9 (by omega) (by unfold kz;rw [aC this])
 have h0: ¬a.aJ.length=0:=by rw [beq_eq_false_iff_ne] at h;omega
 refine Ok.bif (fun h=>?_) (fun h=>?_)
 ·have h1:16<a.aJ.length:=by have:=of_decide_eq_true h;omega
  exact pe 2 (by omega) (by unfold kz;rw [aG h0,aC h1])
 have h1: ¬16<a.aJ.length:=by have:=of_decide_eq_false h;omega
 have pe1:kz a=Hg a:=by unfold kz;rw [aG h0,aG h1]
 have hso:=hs.out
 have sumle: ∀k,k<=a.aJ.length->((a.aJ.take k).map List.length).sum<=k*1048576:=by
  intro k
  induction k with
  | zero=>intro _;simp
  | succ k ih=>
   intro hk
   have:=ih (by omega)
   have h2:=hs.each _ (cM (show k<a.aJ.length by omega))
   rw [eF (by omega),dN,List.sum_append]
   simp only [dX,List.map_nil,List.sum_cons,List.sum_nil]
   rw [Nat.add_mul];omega
 refine Ok.bind (Ok.uY (Go:=fun s:Int=>s= ((a.cE.length+ (a.aJ.map List.length).sum:Nat):Int)/\∀r∈a.aJ,jJ r=0) (Rt:=fun x:Option zZ×Int=>∃e,e≠0/\x= (none,e)/\a.aJ.findSome? vk=some e)
  (fun(k:Nat) (s:Int)=>s= ((a.cE.length+ ((a.aJ.take k).map List.length).sum:Nat):Int)/\∀r∈a.aJ.take k,jJ r=0) (by omega) ⟨by simp,fun r hr=>by simp at hr⟩ (fun k s hk hI=>?_) (fun s hI=>by rw [eO] at hI;exact hI)) ?_
 ·obtain⟨e,hI⟩:=hI
  subst e
  have hkx:a.aJ[k]? =some a.aJ[k]:=aN hk
  have hts:a.aJ.take (k+1)=a.aJ.take k++[a.aJ[k]]:=eF hk
  have he:=hs.each _ (cM hk)
  refine Ok.ix hkx (Ok.eq (uA (by omega) hN) ?_)
  refine Ok.bif (fun h=>Ok.rt ?_) (fun h=>Ok.nx ?_)
  ·have h:jJ a.aJ[k]≠0:=by simpa using h
   refine⟨_,h,rfl,?_⟩
   rw [List.findSome?_eq_some_iff]
   refine⟨a.aJ.take k,a.aJ[k],a.aJ.drop (k+1),?_,by unfold vk;rw [aC h],fun r hr=>by unfold vk;rw [aG (by simpa using hI r hr)]⟩
   rw [<-sD hk,List.take_append_drop]
  ·have h:jJ a.aJ[k]=0:=by simpa using h
   have:=sumle k (by omega)
   have hk16:k*1048576<=16*1048576:=Nat.mul_le_mul_right _ (by omega)
   refine⟨?_,fun r hr=>?_⟩
   ·rw [wrap_add (by omega),hts,dN,List.sum_append]
    simp only [dX,List.map_nil,List.sum_cons,List.sum_nil]
    congr 1
    omega
   ·rw [hts] at hr
    rcases dA.1 hr with hr | hr
    ·exact hI r hr
    ·simp at hr;subst hr;exact h
 intro o ho
 refine Ok.cs ho ?_ ?_
 rotate_left
 ·rintro x ⟨e,he,rfl,hf⟩
  exact pe e he (by rw [pe1];unfold Hg;rw [hf])
 rintro s ⟨rfl,hreg⟩
 have K8:a.aJ.findSome? vk=none:=List.findSome?_eq_none_iff.2 fun r hr=>by unfold vk;rw [aG (by simpa using hreg r hr)]
 have pe2:kz a=if jJ a.cE≠0 then jJ a.cE else Dr a:=by rw [pe1];unfold Hg;rw [K8]
 refine Ok.eq (uA (by omega) hN) ?_
 refine Ok.bif (fun h=>?_) (fun h=>?_)
 ·have h:jJ a.cE≠0:=by simpa using h
  exact pe _ h (by rw [pe2,aC h])
 have hout:jJ a.cE=0:=by simpa using h
 have pe3:kz a=Dr a:=by rw [pe2,aG (by simpa using hout)]
 refine Ok.bif (fun h=>?_) (fun h=>?_)
 ·have h:2000<a.cE.length+ (a.aJ.map List.length).sum:=by have:=of_decide_eq_true h;omega
  exact pe 2 (by omega) (by rw [pe3];unfold Dr;rw [aC h])
 have hmany: ¬2000<a.cE.length+ (a.aJ.map List.length).sum:=by have:=of_decide_eq_false h;omega
 have hbs:=hs.bs
 have hls:=hs.ls
 refine Ok.eq (AK (by omega) (by omega) (by omega)) ?_
 refine Ok.bif (fun h=>?_) (fun h=>?_)
 ·have h:iU a≠0:=by simpa using h
  exact pe _ h (by rw [pe3];unfold Dr;rw [aG hmany,aC h])
 have hbo:iU a=0:=by simpa using h
 refine Ok.eq (AL (by omega) (by omega) hs.nm (by omega)) ?_
 refine Ok.bif (fun h=>?_) (fun h=>?_)
 ·have h:mz a≠0:=by simpa using h
  exact pe _ h (by rw [pe3];unfold Dr;rw [aG hmany,aG (by simpa using hbo),aC h])
 have hla:mz a=0:=by simpa using h
 have hg:oK a:=⟨by omega,hreg,hout,by omega,hbo,hla⟩
 have pe4:kz a=if qz a then 12 else 0:=by rw [pe3];unfold Dr;rw [aG hmany,aG (by simpa using hbo),aG (by simpa using hla)]
 refine Ok.bind (Ok.uY (Go:=fun _:Unit=>¬qz a) (Rt:=fun x:Option zZ×Int=>x= (none,12)/\qz a)
  (fun(k:Nat) (_:Unit)=>∀(i j:Nat) (x y:cD),i<k->j<i->a.aO[i]? =some x->a.aO[j]? =some y->¬qy x y=true) (by omega) (fun i j x y h=>by omega) (fun k s hk hI=>?_) (fun s hI=>?_)) ?_
 ·have hkx:a.aO[k]? =some a.aO[k]:=aN hk
  refine Ok.ix hkx (Ok.eq (qf _ k (by omega)) ?_)
  have hgk:=hg.gb.ok _ (cM hk)
  refine Ok.bind (Ok.uY (Go:=fun _:Unit=>∀(j:Nat) (y:cD),j<k->a.aO[j]? =some y->¬qy a.aO[k] y=true) (Rt:=fun x:Option zZ×Int=>x= (none,12)/\qz a)
   (fun(t:Nat) (_:Unit)=>∀(j:Nat) (y:cD),j<t->a.aO[j]? =some y->¬qy a.aO[k] y=true) (by rw [cL];omega) (fun j y h=>by omega) (fun t s ht hI2=>?_) (fun s hI2 j y hj hy=>hI2 j y (by rw [cL];omega) hy)) ?_
  ·have htk:t<k:=by rw [cL] at ht;omega
   have htx: (a.aO.take k)[t]? =some a.aO[t]:=by rw [List.getElem?_take_of_lt htk];exact aN (by omega)
   have hgt:=hg.gb.ok _ (cM (show t<a.aO.length by omega))
   refine Ok.ix htx ?_
   refine Ok.eq (x:=qy a.aO[k] a.aO[t]) ?_ ?_
   ·unfold qy
    cases hc: (decide (a.aO[k].cN<=a.aO[t].To)&&decide (a.aO[t].cN<=a.aO[k].To)) with
    | false=>rfl
    | true=>
     obtain⟨n,n1,n2⟩:=Jq (N:=N) hgk.2 hgt.2
     rw [aP,mx hgk.1,aB,mx hgt.1,aB,n1,aB,Bool.true_and]
     congr 1
     rw [fc,beq_iff_eq];exact n2
   ·refine Ok.bif (fun h=>Ok.rt ⟨rfl,k,t,_,_,htk,hkx,aN (by omega),h⟩) (fun h=>Ok.nx fun j y hj hy=>?_)
    by_cases e:j<t
    ·exact hI2 j y e hy
    ·have:j=t:=by omega
     subst this
     rw [aN (by omega)] at hy;injection hy with hy
     rw [<-hy,h];simp
  ·intro o ho
   refine Ok.cs ho (fun s hI2=>Ok.nx fun i j x y hi hj hx hy=>?_) (fun x hx=>Ok.rt hx)
   by_cases e:i<k
   ·exact hI i j x y e hj hx hy
   ·have:i=k:=by omega
    subst this
    rw [hkx] at hx;injection hx with hx
    rw [<-hx];exact hI2 j y hj hy
 ·rintro⟨i,j,x,y,hj,hx,hy,hc⟩
  exact hI i j x y (bA.1 hx).1 hj hx hy hc
 intro o ho
 refine Ok.cs ho ?_ ?_
 rotate_left
 ·rintro x ⟨rfl,hc⟩
  exact pe 12 (by omega) (by rw [pe4,aC hc])
 intro _ hncl
 have pe5:kz a=0:=by rw [pe4,aG hncl]
 refine Ok.bind (Em (N:=N) (by omega) hg.cs hg.gb hN) ?_
 rintro⟨okk,mY,pcs⟩ ⟨gI,D,e1,e2⟩
 dsimp only at D e1 e2 ⊢
 subst e1
 refine Ok.bif (fun h=>Ok.ret (.inr ⟨pe5,hg,hncl,mY,gI,D, .inl ⟨fun hf=>?_,rfl⟩⟩)) (fun h=>?_)
 ·have:=e2.2 hf
  rw [this] at h;cases h
 ·have hf:Jz mY gI:=e2.1 (by cases okk <;> simp_all)
  have hpr: ∀p∈eJ 0 gI,p.gM.length<=1073741824:=fun p hp=>by
   obtain⟨i,r,s,ps,u,j,k,hP⟩:=Hf hg D hp
   have:=(hP.Dk hg).2.2;omega
  have hf2:=hf.2
  refine Ok.eq (G9 hg.gb (by omega) hpr) ?_
  refine Ok.bind (B5 (N:=N) hg.gb (by omega) hpr (by omega) hN) ?_
  rintro⟨gs,ofP,ofB,wc,we⟩ ⟨r,hC⟩
  exact Ok.ret (.inr ⟨pe5,hg,hncl,mY,gI,D, .inr ⟨hf,r,gs,ofP,ofB,wc,we,hC,rfl⟩⟩)
end
end Go.Gk
namespace Go.Gk
open Go Classical
section
variable {N:Nat}
theorem E5 {w:Nat} {g:Nat->Nat} {a:Nat}: ∀{ks:List Nat},ks.Nodup->a∈ks->(ks.map (fun k=>(if a=k then w else 0)+g k)).sum=w+ (ks.map g).sum
 | [],_,h=>by cases h
 | k::ks,hn,h=>by
  have hn':=List.nodup_cons.1 hn
  simp only [dX,List.sum_cons]
  by_cases e:a=k
  ·subst e
   rw [aC rfl]
   have:ks.map (fun k=>(if a=k then w else 0)+g k)=ks.map g:=List.map_congr_left fun x hx=>by
    rw [aG (fun e=>hn'.1 (by rw [e];exact hx)),iB]
   rw [this];omega
  ·rw [aG e,E5 hn'.2 (by rcases dC.1 h with h | h;exact absurd h e;exact h)];omega
theorem Dt {α:Type} {ks:List Nat} (hn:ks.Nodup) (f w:α->Nat): ∀{l:List α},(∀x∈l,f x∈ks)->(ks.map (fun k=>((l.filter (fun x=>decide (f x=k))).map w).sum)).sum= (l.map w).sum
 | [],_=>by
  have: ∀ks:List Nat,(ks.map (fun _=>0)).sum=0:=fun ks=>by
   induction ks with
   | nil=>rfl
   | cons k ks ih=>simp only [dX,List.sum_cons,ih]
  simpa using this ks
 | x::l,h=>by
  have ih:=Dt hn f w (l:=l) fun y hy=>h y (gU _ hy)
  have: (ks.map (fun k=>(((x::l).filter (fun x=>decide (f x=k))).map w).sum))=ks.map (fun k=>(if f x=k then w x else 0)+ ((l.filter (fun x=>decide (f x=k))).map w).sum):=List.map_congr_left fun k _=>by
   rw [List.filter_cons]
   by_cases e:f x=k
   ·rw [aC (by simpa using e),aC e,dX,List.sum_cons]
   ·rw [aG (by simpa using e),aG e,iB]
  rw [this,E5 hn (h x (by simp)),ih,dX,List.sum_cons]
def E6 (s:List aA):jc:=match s with | b::_=>⟨b.Xs.headD 0,b.Y0⟩ | []=>⟨0,0⟩
theorem xl.ne {a:ld} {mY:List (List aA)} {gI:List (List (List aA))} {p:aK} {i:Nat} {r:List aI} {s:List aA} {ps:List (List aA)} {u:Nat->Nat} {j k:Nat} (h:xl a mY gI p i r s ps u j k):p.Set≠[]:=by
 intro e
 have hh:=ja.1 (eU h.head)
 have hx: (aS s)[k]? =some (aS s)[k]:=aN hh.1
 have hm: (aS s)[k]∈ng (aS s) (aS s).length u k:=lA.2 ⟨k,hh.1,hh.2,hx⟩
 obtain⟨b,hb,q,hq,hr⟩:=p6 (eU hx)
 have hbm:bY b∈s.map bY:=dH.2 ⟨b,hb,rfl⟩
 have hq1:=Ef (h.dr.can.each _ hbm).2.2.1 q hq
 have hb1:=(h.dr.can.each _ hbm).1
 have hc:=h.set.cover q.1 b.Y0
 rw [e] at hc
 have:rX (ng (aS s) (aS s).length u k) q.1 b.Y0=true:=iK.2 ⟨_,hm,by rw [hr];exact⟨⟨Int.le_refl _,hq1⟩,Int.le_refl _,hb1⟩⟩
 rw [this] at hc
 cases hc
structure rz (a:ld) (mY:List (List aA)) (gI:List (List (List aA))) (r:Nat->Nat) (gs:List cO) (ofP ofB wc:List Int) (we:List j9):Prop where
 z5:oK a
 MY: ¬qz a
 dr:vY a.aJ a.aO a.aJ.length mY gI
 yP:Jz mY gI
 MX:Ep a.aO a.bV (eJ 0 gI) r gs ofP ofB wc we
inductive Jr (N:Nat) (a:ld):Prop
 | err (e:Int) (he:e≠0) (h:iO N a=some (none,e))
 | ok {mY:List (List aA)} {gI:List (List (List aA))} {r:Nat->Nat} {gs:List cO} {ofP ofB wc:List Int} {we:List j9} (b:rz a mY gI r gs ofP ofB wc we)
  (h:iO N a=some (some (a.aJ,a.cE,a.aO,a.bV,mY,eJ 0 gI,iV a.aO (eJ 0 gI),gs,ofP,ofB,wc,we),0))
theorem opened {a:ld} (hs:uC a) (hN:4398046511104<=N):Jr N a:=by
 obtain⟨x,hx,hI⟩:=Bl (N:=N) hs hN
 rcases hI with ⟨he,rfl⟩ | ⟨_,hg,hcl,mY,gI,D,⟨_,rfl⟩ | ⟨hf,r,gs,ofP,ofB,wc,we,hC,rfl⟩⟩
 ·exact .err _ he hx
 ·exact .err 2 (by omega) hx
 ·exact .ok ⟨hg,hcl,D,hf,hC⟩ hx
end
end Go.Gk
namespace Go.Gk
open Go Classical
section
variable {S R:Type}
theorem Ok.pq {body:S->Option (Fl S R)} {N n:Nat} {s:S} (ι:S->Int) (Inv:Nat->S->Prop) {Go:S->Prop} {Rt:R->Prop}
  (h1: ∀k s,k<n->ι s= ((k:Nat):Int)->Inv k s->Ok (body s) (Hu (fun s'=>ι s'= ((k+1:Nat):Int)/\Inv (k+1) s') Go Rt))
  (h2: ∀s,ι s= ((n:Nat):Int)->Inv n s->Ok (body s) (Hu (fun _=>False) Go Rt))
  {k0:Nat} (hk:k0<=n) (hi:ι s= ((k0:Nat):Int)) (h0:Inv k0 s) (hn:n<N):Ok (Gk.jz body N s) (KX Go Rt):=by
 refine Ok.jz (fun s=>∃k:Nat,k<=n/\ι s= ((k:Nat):Int)/\Inv k s) (fun s=>n - (ι s).toNat) ?_ ⟨k0,hk,hi,h0⟩ (by omega)
 rintro s ⟨k,hk,e,hI⟩
 by_cases hlt:k<n
 ·refine(h1 k s hlt e hI).mono ?_
  rintro(s' | s' | r) hp
  ·have hp1:ι s'= ((k+1:Nat):Int):=hp.1
   exact⟨⟨k+1,hlt,hp.1,hp.2⟩,by rw [e,hp1];simp only [cH];omega⟩
  ·exact hp
  ·exact hp
 ·have:k=n:=by omega
  subst this
  refine(h2 s e hI).mono ?_
  rintro(s' | s' | r) hp
  ·exact hp.elim
  ·exact hp
  ·exact hp
theorem kE {k n:Nat} (h:k<n):decide (((k:Nat):Int)< ((n:Nat):Int))=true:=bR (by omega)
theorem mX (n:Nat):decide (((n:Nat):Int)< ((n:Nat):Int))=false:=cC (by omega)
theorem xn {k n:Nat} (h:n<=k):decide (((k:Nat):Int)< ((n:Nat):Int))=false:=cC (by omega)
end
theorem pQ {α:Type} {p:α->Bool}: ∀{l:List α} {k:Nat},(∀(j:Nat) x,j<k->l[j]? =some x->p x=true)->(∀x,l[k]? =some x->p x=false)->l.takeWhile p=l.take k/\l.dropWhile p=l.drop k
 | [],k,_,_=>by simp
 | y::l,0,_,h2=>by
  have:=h2 y rfl
  rw [List.takeWhile_cons,List.dropWhile_cons,this];simp
 | y::l,k+1,h1,h2=>by
  have h:=h1 0 y (by omega) rfl
  obtain⟨e1,e2⟩:=pQ (l:=l) (k:=k) (fun j x hj hx=>h1 (j+1) x (by omega) hx) (fun x hx=>h2 x hx)
  rw [List.takeWhile_cons,List.dropWhile_cons,h,aC rfl,aC rfl,e1,e2];simp
section
variable {N:Nat}
def pR (l:List Int) (c:Int):List Int:=if c∈l then l else l.takeWhile (fun x=>decide (x<c))++c::l.dropWhile (fun x=>decide (x<c))
theorem xo (l:List Int) (c:Int): (pR l c).length<=l.length+1:=by
 unfold pR
 split
 ·omega
 ·have: (l.takeWhile (fun x=>decide (x<c))).length+ (l.dropWhile (fun x=>decide (x<c))).length=l.length:=by rw [<-cZ,List.takeWhile_append_dropWhile]
  rw [cZ,dP];omega
theorem z6 {l:List Int} {c x:Int}:x∈pR l c↔x∈l\/x=c:=by
 unfold pR
 split
 ·rename_i h
  exact⟨.inl,fun h'=>h'.elim id fun e=>e▸h⟩
 ·have:x∈l↔x∈l.takeWhile (fun x=>decide (x<c))\/x∈l.dropWhile (fun x=>decide (x<c)):=by rw [<-dA,List.takeWhile_append_dropWhile]
  rw [dA,dC,this]
  constructor
  ·rintro(h | h | h)
   ·exact .inl (.inl h)
   ·exact .inr h
   ·exact .inl (.inr h)
  ·rintro((h | h) | h)
   ·exact .inl h
   ·exact .inr (.inr h)
   ·exact .inr (.inl h)
theorem E7 {l:List Int} (h:jm l) (c:Int): ∀x∈l.dropWhile (fun x=>decide (x<c)),c<=x:=by
 induction l with
 | nil=>intro x hx;cases hx
 | cons a l ih=>
  rw [List.dropWhile_cons]
  by_cases ha:a<c
  ·rw [aC (by simpa using ha)];exact ih h.tail
  ·rw [aG (by simpa using ha)]
   intro x hx
   rcases dC.1 hx with rfl | hx
   ·omega
   ·have:=h.head x hx;omega
theorem H8 (l:List Int) (c:Int): ∀x∈l.takeWhile (fun x=>decide (x<c)),x<c:=by
 induction l with
 | nil=>intro x hx;cases hx
 | cons a l ih=>
  rw [List.takeWhile_cons]
  by_cases ha:a<c
  ·rw [aC (by simpa using ha)]
   intro x hx
   rcases dC.1 hx with rfl | hx
   ·exact ha
   ·exact ih x hx
  ·rw [aG (by simpa using ha)]
   intro x hx;cases hx
theorem sj {l:List Int} {c:Int} (h:jm l):jm (pR l c):=by
 unfold pR
 split
 ·exact h
 ·rename_i hc
  have hs:=h
  rw [<-List.takeWhile_append_dropWhile (p:=fun x=>decide (x<c)) (l:=l)] at hs
  unfold jm at hs ⊢
  rw [mB] at hs ⊢
  refine⟨hs.1,nS.2 ⟨fun x hx=>?_,hs.2.1⟩,fun x hx y hy=>?_⟩
  ·have h1:=E7 h c x hx
   have h2:x≠c:=fun e=>hc (by rw [<-e,<-List.takeWhile_append_dropWhile (p:=fun x=>decide (x<c)) (l:=l)];exact List.mem_append_right _ hx)
   omega
  ·have h1:=H8 l c x hx
   rcases dC.1 hy with rfl | hy
   ·exact h1
   ·have:=E7 h c y hy;omega
def j8 (l:List Int):List Int:=l.foldl pR []
theorem s8: ∀(cs l:List Int),jm l->jm (cs.foldl pR l)/\(∀x,x∈cs.foldl pR l↔x∈l\/x∈cs)/\(cs.foldl pR l).length<=l.length+cs.length
 | [],l,h=>⟨h,fun x=>by simp,by simp⟩
 | c::cs,l,h=>by
  obtain⟨h1,h2,h3⟩:=s8 cs (pR l c) (sj h)
  refine⟨h1,fun x=>?_,?_⟩
  ·rw [List.foldl_cons,h2,z6,dC,or_assoc]
  ·rw [List.foldl_cons,dP]
   have:=xo l c;omega
theorem mN (l:List Int):jm (j8 l):=(s8 l [] jH).1
theorem x6 {l:List Int} {x:Int}:x∈j8 l↔x∈l:=by
 have:=(s8 l [] jH).2.1 x
 unfold j8;rw [this];simp
theorem sm (l:List Int): (j8 l).length<=l.length:=by
 have:=(s8 l [] jH).2.2
 unfold j8;simpa using this
theorem uD (l:List Int) (c d:Int):j8 (l++[c,d])=pR (pR (j8 l) c) d:=by unfold j8;rw [List.foldl_append];rfl
theorem Er {a b:Nat} (h:a+b<=4611686018427387904):IntKind.wrap .i64 (Int.tdiv (IntKind.wrap .i64 (((a:Nat):Int)+ ((b:Nat):Int))) 2)= (((a+b) / 2:Nat):Int):=by
 rw [wrap_add h,Int.tdiv_eq_ediv_of_nonneg (by omega),eT (by omega) (by omega)];omega
theorem uV {l:List Int} {c:Int} (h:jm l) (hl:l.length<=1099511627776) (hN:4398046511104<=N):fh N l c=some (pR l c):=by
 refine Ok.get ?_
 unfold fh
 refine Ok.bind (Ok.jz (Go:=fun st:Int×Int=>∃a:Nat,st.1= ((a:Nat):Int)/\a<=l.length/\(∀(j:Nat) x,j<a->l[j]? =some x->x<c)/\(∀(j:Nat) x,a<=j->l[j]? =some x->c<=x)) (Rt:=fun _=>True)
  (fun st=>∃a b:Nat,st= (((a:Nat):Int),((b:Nat):Int))/\a<=b/\b<=l.length/\(∀(j:Nat) x,j<a->l[j]? =some x->x<c)/\(∀(j:Nat) x,b<=j->l[j]? =some x->c<=x))
  (fun st=>(st.2 - st.1).toNat) ?_ ⟨0,l.length,rfl,by omega,bT _,fun j x hj=>by omega,fun j x hj hx=>by have:=(bA.1 hx).1;omega⟩ (by simp only;omega)) ?_
 ·rintro st ⟨a,b,rfl,hab,hb,h1,h2⟩
  dsimp only
  by_cases hlt:a<b
  ·have hm: (a+b) / 2<l.length:=by omega
   have hx:l[(a+b) / 2]? =some l[(a+b) / 2]:=aN hm
   rw [kE hlt,aP,Er (by omega)]
   refine Ok.ix hx ?_
   by_cases hc:l[(a+b) / 2]<c
   ·rw [bR hc,aP,aB]
    refine Ok.nx ⟨⟨(a+b) / 2+1,b,?_,by omega,hb,fun j x hj hx'=>?_,h2⟩,?_⟩
    ·rw [bP (by omega)]
    ·by_cases e:j= (a+b) / 2
     ·subst e;rw [hx] at hx';injection hx' with hx';omega
     ·have:=h.lt (i:=j) (j:=(a+b) / 2) (by omega) hx' hx
      omega
    ·rw [bP (by omega)];simp only;omega
   ·rw [cC hc,aR,aB]
    refine Ok.nx ⟨⟨a,(a+b) / 2,rfl,by omega,by omega,h1,fun j x hj hx'=>?_⟩,by simp only;omega⟩
    by_cases e:j= (a+b) / 2
    ·subst e;rw [hx] at hx';injection hx' with hx';omega
    ·have:=h.lt (i:=(a+b) / 2) (j:=j) (by omega) hx hx'
     omega
  ·rw [xn (by omega),aR]
   exact Ok.br ⟨a,rfl,by omega,h1,fun j x hj hx=>h2 j x (by omega) hx⟩
 intro o ho
 refine Ok.cs ho ?_ (fun r hr=>r.elim)
 rintro⟨st1,st2⟩ ⟨a,ha,hle,h1,h2⟩
 dsimp only at ha ⊢
 subst ha
 have hin:l[a]? =some c->pR l c=l:=fun hx=>by unfold pR;rw [aC (eU hx)]
 have hout:l[a]? ≠some c->pR l c=l.take a++c::l.drop a:=fun hx=>by
  have hc:c∉l:=fun hc=>by
   obtain⟨j,hj⟩:=dS hc
   by_cases h3:j<a
   ·have:=h1 j c h3 hj;omega
   ·by_cases e:j=a
    ·subst e;exact hx hj
    ·have h5:a<l.length:=by have:=(bA.1 hj).1;omega
     have h6:l[a]? =some l[a]:=aN h5
     have h7:=h.lt (i:=a) (j:=j) (by omega) h6 hj
     have h8:=h2 a _ (bT _) h6
     omega
  unfold pR
  rw [aG hc]
  obtain⟨e1,e2⟩:=pQ (p:=fun x=>decide (x<c)) (l:=l) (k:=a) (fun j x hj hx'=>bR (h1 j x hj hx')) (fun x hx'=>cC (by have:=h2 a x (bT _) hx';omega))
  rw [e1,e2]
 have hrest:l[a]? ≠some c->Ok ((sC l 0 ((a:Nat):Int)).bind fun x49=>(app 8 ([]:List Int) x49).bind fun x51=>(app 8 x51 ([c]:List Int)).bind fun x54=>(sC l ((a:Nat):Int) ((l.length:Nat):Int)).bind fun x56=>(app 8 x54 x56).bind fun x58=>some x58) (fun r=>r=pR l c):=fun hx=>by
  have htk: (l.take a).length=a:=by rw [cL];omega
  refine Ok.eq (qf l a hle) (Ok.app (by simp only [List.length_nil];omega) (Ok.app (by rw [List.nil_append];simp only [dP,List.length_nil];omega) (Ok.eq (oR l a hle) (Ok.app ?_ (Ok.ret ?_)))))
  ·rw [List.nil_append,cZ,iA];simp only [dP,List.length_nil];omega
  ·rw [hout hx];simp
 by_cases hlt:a<l.length
 ·have hx:l[a]? =some l[a]:=aN hlt
  rw [kE hlt,aP,dU hx,aB,aB]
  refine Ok.bif (fun hb=>Ok.ret ?_) (fun hb=>hrest ?_)
  ·rw [beq_iff_eq] at hb
   rw [hin (by rw [hx,hb])]
  ·rw [beq_eq_false_iff_ne] at hb
   rw [hx];intro e;injection e with e;exact hb e
 ·rw [xn (by omega),aR,aB,aR]
  exact hrest (by rw [List.getElem?_eq_none (by omega)];intro e;cases e)
theorem Du (l m:List aI):je (l++m)=je l++je m:=List.flatMap_append
theorem z7 {l:List aI} (hl:l.length<=268435456) (hN:4398046511104<=N):gJ N l=some (j8 (je l)):=by
 refine Ok.get ?_
 unfold gJ
 refine Ok.bind (Ok.pq (n:=l.length) (fun s=>s.2) (fun k s=>s.1=j8 (je (l.take k))) (Go:=fun s=>s.1=j8 (je l)) (Rt:=fun _=>False) ?_ ?_ (dM _) rfl rfl (by omega)) ?_
 ·rintro k ⟨out,i⟩ hk e hI
  dsimp only at e hI ⊢
  subst e;subst hI
  rw [kE hk,aP]
  have hx:l[k]? =some l[k]:=aN hk
  have h1:=sm (je (l.take k))
  rw [jo,cL] at h1
  have h2:=xo (j8 (je (l.take k))) l[k].Y0
  refine Ok.ix hx (Ok.ix hx (Ok.eq (uV (mN _) (by omega) hN) (Ok.eq (uV (sj (mN _)) (by omega) hN) (Ok.nx ⟨bP (by omega),?_⟩))))
  rw [eF hk,Du]
  exact(uD _ _ _).symm
 ·rintro⟨out,i⟩ e hI
  dsimp only at e hI ⊢
  subst e
  rw [mX,aR]
  exact Ok.br (by rw [eO] at hI;exact hI)
 intro o ho
 exact Ok.cs ho (fun s hs=>Ok.ret hs) (fun r hr=>hr.elim)
def sp (s:aF):Int×Int:=(s.from_,s.to)
theorem Hh: ∀{l m:List aF},l.map sp=m.map sp->l=m
 | [],[],_=>rfl
 | [],_::_,h=>by cases h
 | _::_,[],h=>by cases h
 | ⟨a,b⟩::l,⟨c,d⟩::m,h=>by
  rw [dX,dX] at h
  injection h with h1 h2
  unfold sp at h1
  injection h1 with h3 h4
  simp only at h3 h4
  rw [h3,h4,Hh h2]
theorem s9 (a b:Int): (if b<a then b else a)=min a b:=by split <;> omega
theorem tc (a b:Int): (if a<b then b else a)=max a b:=by split <;> omega
theorem Bm {l:List aF} {s:aF} (hl:l.length<=268435456) (hN:4398046511104<=N):Ok (iq N l s) (fun r=>r.map sp=lr (l.map sp) (sp s)):=by
 unfold iq
 have hget: ∀(j:Nat) (x:Int×Int),(l.map sp)[j]? =some x->∃y,l[j]? =some y/\x=sp y:=fun j x h=>by
  rw [gr] at h
  cases hy:l[j]? with
  | none=>rw [hy] at h;cases h
  | some y=>rw [hy] at h;injection h with h;exact⟨y,rfl,h.symm⟩
 refine Ok.bind (Ok.jz (Go:=fun st:List aF×Int=>∃k:Nat,st= (l.take k,((k:Nat):Int))/\k<=l.length/\(∀(j:Nat) x,j<k->l[j]? =some x->x.to<s.from_)/\(∀x,l[k]? =some x->¬x.to<s.from_)) (Rt:=fun _=>False)
  (fun st=>∃k:Nat,st= (l.take k,((k:Nat):Int))/\k<=l.length/\∀(j:Nat) x,j<k->l[j]? =some x->x.to<s.from_) (fun st=>l.length - st.2.toNat) ?_ ⟨0,by simp,by omega,fun j x hj=>by omega⟩ (by simp;omega)) ?_
 ·rintro st ⟨k,rfl,hk,hI⟩
  dsimp only
  by_cases hlt:k<l.length
  ·have hx:l[k]? =some l[k]:=aN hlt
   rw [kE hlt,aP,dU hx,aB,aB]
   refine Ok.bif (fun hb=>?_) (fun hb=>?_)
   ·have hb:=of_decide_eq_true hb
    refine Ok.eq rfl (Ok.app ?_ (Ok.nx ⟨⟨k+1,?_,hlt,?_⟩,?_⟩))
    ·rw [cL];simp only [dP,List.length_nil];omega
    ·rw [bP (by omega),eF hlt]
    ·intro j x hj hx'
     by_cases e:j=k
     ·subst e;rw [hx] at hx';injection hx' with hx';rw [<-hx'];exact hb
     ·exact hI j x (by omega) hx'
    ·rw [bP (by omega)];simp only [cH];omega
   ·have hb:=of_decide_eq_false hb
    exact Ok.br ⟨k,rfl,hk,hI,fun x hx'=>by rw [hx] at hx';injection hx' with hx';rw [<-hx'];exact hb⟩
  ·rw [xn (by omega),aR,aB,aR]
   exact Ok.br ⟨k,rfl,hk,hI,fun x hx'=>by have:=(bA.1 hx').1;omega⟩
 intro o ho
 refine Ok.cs ho ?_ (fun r hr=>hr.elim)
 rintro st ⟨k,rfl,hk,hI,hE⟩
 dsimp only
 obtain⟨e1,e2⟩:=pQ (p:=fun a:Int×Int=>decide (a.2< (sp s).1)) (l:=l.map sp) (k:=k) (fun j x hj hx=>by
  obtain⟨y,hy,rfl⟩:=hget j x hx
  exact bR (hI j y hj hy)) (fun x hx=>by
  obtain⟨y,hy,rfl⟩:=hget k x hx
  exact cC (hE y hy))
 refine Ok.bind (Ok.jz (Go:=fun st:aF×Int=>∃i:Nat,st.2= ((i:Nat):Int)/\i<=l.length/\kb (sp s) ((l.drop k).map sp)= (sp st.1,(l.drop i).map sp)) (Rt:=fun _=>False)
  (fun st=>∃i:Nat,st.2= ((i:Nat):Int)/\i<=l.length/\kb (sp s) ((l.drop k).map sp)=kb (sp st.1) ((l.drop i).map sp)) (fun st=>l.length - st.2.toNat) ?_ ⟨k,rfl,hk,rfl⟩ (by simp only [cH];omega)) ?_
 ·rintro⟨s',i'⟩ ⟨i,e,hi,hm⟩
  dsimp only at e hm ⊢
  subst e
  by_cases hlt:i<l.length
  ·have hx:l[i]? =some l[i]:=aN hlt
   have hd: (l.drop i).map sp=sp l[i]::(l.drop (i+1)).map sp:=by rw [sD hlt,dX]
   rw [kE hlt,aP,dU hx,aB,aB]
   refine Ok.bif (fun hb=>?_) (fun hb=>?_)
   ·have hb:=of_decide_eq_true hb
    refine Ok.eq rfl (Ok.eq rfl (Ok.nx ⟨⟨i+1,bP (by omega),hlt,?_⟩,?_⟩))
    ·rw [hm,hd]
     conv=>lhs;unfold kb
     rw [aC (show (sp l[i]).1<=(sp s').2 from hb),s9,tc]
     rfl
    ·dsimp only;rw [bP (by omega)];simp only [cH];omega
   ·have hb:=of_decide_eq_false hb
    refine Ok.br ⟨i,rfl,hi,?_⟩
    rw [hm,hd]
    conv=>lhs;unfold kb
    rw [aG (show ¬(sp l[i]).1<=(sp s').2 from hb)]
  ·rw [xn (by omega),aR,aB,aR]
   refine Ok.br ⟨i,rfl,hi,?_⟩
   rw [hm,List.drop_eq_nil_of_le (by omega)];rfl
 intro o ho
 refine Ok.cs ho ?_ (fun r hr=>hr.elim)
 rintro⟨s',i'⟩ ⟨i,e,hi,hm⟩
 dsimp only at e hm ⊢
 subst e
 refine Ok.app ?_ (Ok.eq (oR l i hi) (Ok.app ?_ (Ok.ret ?_)))
 ·rw [cL];simp only [dP,List.length_nil];omega
 ·rw [cZ,cL,iA];simp only [dP,List.length_nil];omega
 ·unfold lr
  rw [e1,e2,<-List.map_take,<-List.map_drop,hm]
  simp
theorem z8: ∀(l:List (Int×Int)) (s:Int×Int),(kb s l).2.length<=l.length
 | [],s=>bT _
 | a::l,s=>by
  unfold kb
  split
  ·have:=z8 l (min s.1 a.1,max s.2 a.2)
   rw [dP];omega
  ·exact bT _
theorem yt (l:List (Int×Int)) (s:Int×Int): (lr l s).length<=l.length+1:=by
 unfold lr
 have h1:=z8 (l.dropWhile fun a=>decide (a.2<s.1)) s
 have h2: (l.takeWhile (fun x=>decide (x.2<s.1))).length+ (l.dropWhile (fun x=>decide (x.2<s.1))).length=l.length:=by rw [<-cZ,List.takeWhile_append_dropWhile]
 rw [cZ,dP];omega
def jy (y:Int) (out:List (Int×Int)) (r:aI):List (Int×Int):=if r.Y0<=y/\y<r.Y1 then lr out (r.X0,r.X1) else out
def kA (l:List aI) (y:Int):List (Int×Int):=l.foldl (jy y) []
theorem FT (l:List aI) (r:aI) (y:Int):kA (l++[r]) y=jy y (kA l y) r:=by unfold kA;rw [List.foldl_append];rfl
theorem yu (y:Int): ∀(l:List aI) (out:List (Int×Int)),(l.foldl (jy y) out).length<=out.length+l.length
 | [],out=>by simp
 | r::l,out=>by
  rw [List.foldl_cons,dP]
  have h1:=yu y l (jy y out r)
  have h2: (jy y out r).length<=out.length+1:=by
   unfold jy
   split
   ·exact yt _ _
   ·omega
  omega
theorem qA (l:List aI) (y:Int): (kA l y).length<=l.length:=by
 have:=yu y l []
 unfold kA;simpa using this
theorem xp (y:Int): ∀(l:List aI) (out:List (Int×Int)),(∀r∈l,r.X0<r.X1)->jm (dD out)->jm (dD (l.foldl (jy y) out))/\∀x,i7 (l.foldl (jy y) out) x= (i7 out x||rX l x y)
 | [],out,_,h=>⟨h,fun x=>by simp [rX]⟩
 | r::l,out,hr,h=>by
  have h0:=hr r (by simp)
  rw [List.foldl_cons]
  have hst:jm (dD (jy y out r))/\∀x,i7 (jy y out r) x= (i7 out x||((decide (r.X0<=x)&&decide (x<r.X1))&&(decide (r.Y0<=y)&&decide (y<r.Y1)))):=by
   unfold jy
   by_cases hy:r.Y0<=y/\y<r.Y1
   ·rw [aC hy]
    obtain⟨j1,j2⟩:=w5 (l:=out) (s:=(r.X0,r.X1)) h h0
    refine⟨j1,fun x=>?_⟩
    rw [j2,bR hy.1,bR hy.2,Bool.or_comm];simp
   ·rw [aG hy]
    refine⟨h,fun x=>?_⟩
    have: (decide (r.Y0<=y)&&decide (y<r.Y1))=false:=by rw [Bool.and_eq_false_iff,decide_eq_false_iff_not,decide_eq_false_iff_not];omega
    rw [this];simp
  obtain⟨m1,m2⟩:=xp y l (jy y out r) (fun r' hr'=>hr r' (gU _ hr')) hst.1
  refine⟨m1,fun x=>?_⟩
  rw [m2,hst.2,Bool.or_assoc];rfl
theorem sq {l:List aI} (h: ∀r∈l,r.X0<r.X1) (y:Int):jm (dD (kA l y))/\∀x,i7 (kA l y) x=rX l x y:=by
 obtain⟨h1,h2⟩:=xp y l [] h jH
 exact⟨h1,fun x=>by rw [show i7 (kA l y) x=_ from h2 x,show i7 [] x=false from rfl,Bool.false_or]⟩
theorem vz {y y':Int}: ∀(l:List aI) (out:List (Int×Int)),(∀r∈l,(r.Y0<=y/\y<r.Y1)↔(r.Y0<=y'/\y'<r.Y1))->l.foldl (jy y) out=l.foldl (jy y') out
 | [],out,_=>rfl
 | r::l,out,h=>by
  rw [List.foldl_cons,List.foldl_cons,vz l _ (fun r' hr'=>h r' (gU _ hr'))]
  congr 1
  unfold jy
  have:=h r (by simp)
  by_cases h1:r.Y0<=y/\y<r.Y1
  ·rw [aC h1,aC (this.1 h1)]
  ·rw [aG h1,aG (fun h2=>h1 (this.2 h2))]
theorem Es {l:List aI} {y y':Int} (h: ∀r∈l,(r.Y0<=y/\y<r.Y1)↔(r.Y0<=y'/\y'<r.Y1)):kA l y=kA l y':=vz l [] h
theorem Hi {l:List aI} {y:Int} (h: ∀r∈l,¬(r.Y0<=y/\y<r.Y1)):kA l y= []:=by
 have: ∀(l:List aI) (out:List (Int×Int)),(∀r∈l,¬(r.Y0<=y/\y<r.Y1))->l.foldl (jy y) out=out:=by
  intro l
  induction l with
  | nil=>intro out _;rfl
  | cons r l ih=>
   intro out h
   rw [List.foldl_cons,ih _ (fun r' hr'=>h r' (gU _ hr'))]
   unfold jy;rw [aG (h r (by simp))]
 exact this l [] h
theorem B6 {l:List aI} {y:Int} (hl:l.length<=134217728) (hN:4398046511104<=N):Ok (gH N l y) (fun r=>r.map sp=kA l y):=by
 unfold gH
 refine Ok.bind (Ok.pq (n:=l.length) (fun s=>s.2) (fun k s=>s.1.map sp=kA (l.take k) y) (Go:=fun s=>s.1.map sp=kA l y) (Rt:=fun _=>False) ?_ ?_ (dM _) rfl rfl (by omega)) ?_
 ·rintro k ⟨out,i⟩ hk e hI
  dsimp only at e hI ⊢
  subst e
  rw [kE hk,aP]
  have hx:l[k]? =some l[k]:=aN hk
  have hlen:out.length<=l.length:=by
   have h1:=qA (l.take k) y
   rw [<-hI,cV,cL] at h1;omega
  rw [dU hx,aB]
  have hst:kA (l.take (k+1)) y=jy y (kA (l.take k) y) l[k]:=by rw [eF hk,FT]
  have hno: ¬(l[k].Y0<=y/\y<l[k].Y1)->Ok ((some out).bind fun s141=>some (Fl.nx (s141,IntKind.wrap .i64 (((k:Nat):Int)+1)):Fl (List aF×Int) Empty)) (Hu (fun s'=>s'.2= ((k+1:Nat):Int)/\s'.1.map sp=kA (l.take (k+1)) y) (fun s=>s.1.map sp=kA l y) (fun _=>False)):=fun hy=>by
   rw [aB]
   refine Ok.nx ⟨bP (by omega),?_⟩
   rw [hst];unfold jy;rw [aG hy];exact hI
  by_cases h1:l[k].Y0<=y
  ·rw [bR h1,aP,aB,aB]
   by_cases h2:y<l[k].Y1
   ·rw [bR h2,aP]
    refine Ok.bind (P:=fun r:List aF=>r.map sp=kA (l.take (k+1)) y) (Ok.eq rfl (Ok.eq rfl (Ok.bind (Bm (by omega) hN) (fun r hr=>Ok.ret ?_)))) (fun r hr=>Ok.nx ⟨bP (by omega),hr⟩)
    rw [hr,hI,hst];unfold jy;rw [aC ⟨h1,h2⟩];rfl
   ·rw [cC h2,aR]
    exact hno (fun h=>h2 h.2)
  ·rw [cC h1,aR,aB,aR]
   exact hno (fun h=>h1 h.1)
 ·rintro⟨out,i⟩ e hI
  dsimp only at e hI ⊢
  subst e
  rw [mX,aR]
  exact Ok.br (by rw [eO] at hI;exact hI)
 intro o ho
 exact Ok.cs ho (fun s hs=>Ok.ret hs) (fun r hr=>hr.elim)
theorem x8 {l:List aF} {x:Int} (hl:l.length<=1099511627776) (hN:4398046511104<=N):gh N l x=some (i7 (l.map sp) x):=by
 refine Ok.get ?_
 unfold gh
 have hm: ∀b:Bool,(i7 (l.map sp) x=b↔(l.any fun s=>decide (s.from_<=x)&&decide (x<s.to))=b):=fun b=>by unfold i7;rw [List.any_map];rfl
 refine Ok.bind (Ok.pq (n:=l.length) (fun s=>s) (fun k s=>∀(j:Nat) y,j<k->l[j]? =some y->¬(y.from_<=x/\x<y.to)) (Go:=fun s=>i7 (l.map sp) x=false) (Rt:=fun r=>r=i7 (l.map sp) x) ?_ ?_ (dM _) rfl (fun j y hj=>by omega) (by omega)) ?_
 ·rintro k i hk e hI
  subst e
  rw [kE hk,aP]
  have hx:l[k]? =some l[k]:=aN hk
  rw [dU hx,aB]
  have hno: ¬(l[k].from_<=x/\x<l[k].to)->Ok (some (Fl.nx (IntKind.wrap .i64 (((k:Nat):Int)+1)):Fl Int Bool)) (Hu (fun s'=>s'= ((k+1:Nat):Int)/\∀(j:Nat) y,j<k+1->l[j]? =some y->¬(y.from_<=x/\x<y.to)) (fun s=>i7 (l.map sp) x=false) (fun r=>r=i7 (l.map sp) x)):=fun hy=>Ok.nx ⟨bP (by omega),fun j y hj hjy=>by
   by_cases e:j=k
   ·subst e;rw [hx] at hjy;injection hjy with hjy;rw [<-hjy];exact hy
   ·exact hI j y (by omega) hjy⟩
  by_cases h1:l[k].from_<=x
  ·rw [bR h1,aP,aB,aB]
   by_cases h2:x<l[k].to
   ·rw [bR h2,aP]
    refine Ok.rt ?_
    symm;rw [hm,kG]
    exact⟨l[k],cM hk,by rw [bR h1,bR h2];rfl⟩
   ·rw [cC h2,aR];exact hno (fun h=>h2 h.2)
  ·rw [cC h1,aR,aB,aR];exact hno (fun h=>h1 h.1)
 ·rintro i e hI
  subst e
  rw [mX,aR]
  refine Ok.br ?_
  rw [hm,List.any_eq_false]
  intro y hy
  obtain⟨j,hj⟩:=dS hy
  have:=hI j y (bA.1 hj).1 hj
  rw [jI,Bool.and_eq_false_iff,decide_eq_false_iff_not,decide_eq_false_iff_not];omega
 intro o ho
 exact Ok.cs ho (fun s hs=>Ok.ret hs.symm) (fun r hr=>Ok.ret hr)
end
end Go.Gk
namespace Go.Gk
open Go Classical
section
variable {α:Type} [DecidableEq α] {N:Nat}
def IK (N:Nat) (p0 p1:List α):Option Bool:=
 bif ((p0.length:Int) != (p1.length:Int)) then (some false) else ((jz (fun(s32:Int)=>(bif (decide (s32< (p0.length:Int))) then ((idx p0 s32).bind fun x45=>(idx p1 s32).bind fun x48=>bif (!(decide (x45=x48))) then (some (.rt false)) else (some (.nx (IntKind.wrap .i64 (s32+1))))) else (some (.br s32)):Option (Fl (Int) Bool))) N 0).bind fun o51=>o51.cs (fun(s32:Int)=>some true) (fun r=>some r))
theorem Dv {l m:List α} (hl:l.length<=1099511627776) (hN:4398046511104<=N):IK N l m=some (decide (l=m)):=by
 refine Ok.get ?_
 unfold IK
 by_cases he:l.length=m.length
 ·rw [show ((((l.length:Nat):Int)) != ((m.length:Nat):Int))=false by rw [he];simp,aR]
  refine Ok.bind (Ok.pq (n:=l.length) (fun s=>s) (fun k s=>∀j,j<k->l[j]? =m[j]?) (Go:=fun s=>l=m) (Rt:=fun r=>r=false/\l≠m) ?_ ?_ (dM _) rfl (fun j hj=>by omega) (by omega)) ?_
  ·rintro k i hk e hI
   subst e
   have hx:l[k]? =some l[k]:=aN hk
   have hy:m[k]? =some (m[k]'(by omega)):=aN _
   rw [kE hk,aP]
   refine Ok.ix hx (Ok.ix hy (Ok.bif (fun hb=>Ok.rt ⟨rfl,fun e=>?_⟩) (fun hb=>Ok.nx ⟨bP (by omega),fun j hj=>?_⟩)))
   ·have h1:some l[k]=some (m[k]'(by omega)):=hx.symm.trans ((by rw [e]:l[k]? =m[k]?).trans hy)
    injection h1 with h1
    rw [h1] at hb;simp at hb
   ·by_cases e:j=k
    ·subst e;rw [hx,hy];simpa using hb
    ·exact hI j (by omega)
  ·rintro i e hI
   subst e
   rw [mX,aR]
   refine Ok.br (List.ext_getElem? fun j=>?_)
   by_cases hj:j<l.length
   ·exact hI j hj
   ·rw [List.getElem?_eq_none (by omega),List.getElem?_eq_none (by omega)]
  intro o ho
  exact Ok.cs ho (fun s hs=>Ok.ret (bR hs).symm) (fun r hr=>Ok.ret (by rw [hr.1,cC hr.2]))
 ·rw [show ((((l.length:Nat):Int)) != ((m.length:Nat):Int))=true by rw [bne_iff_ne];omega,aP]
  exact Ok.ret (cC fun h=>he (by rw [h])).symm
end
section
variable {N:Nat}
theorem B7 {l m:List aI} (hl:l.length<=1099511627776) (hN:4398046511104<=N):eX N l m=some (decide (l=m)):=Dv hl hN
theorem B8 {l m:List aF} (hl:l.length<=1099511627776) (hN:4398046511104<=N):jv N l m=some (decide (l=m)):=Dv hl hN
def rA (b:aL):Bd:=⟨b.from_,b.to,dD (b.iN.map sp)⟩
theorem FU {l:List (Int×Int)}:dD l= []↔l= []:=by
 cases l with
 | nil=>exact⟨fun _=>rfl,fun _=>rfl⟩
 | cons s l=>exact⟨fun h=>(by cases h),fun h=>(by cases h)⟩
theorem FV {l m:List aF}:dD (l.map sp)=dD (m.map sp)↔l=m:=⟨fun h=>Hh (Bb h),fun h=>by rw [h]⟩
theorem Et {l:List aL} {b:aL} (hlt:b.from_<b.to) (hl:l.length<=1073741824) (hs: ∀c∈l,c.iN.length<=1099511627776) (hN:4398046511104<=N):
  Ok (fL N l b) (fun r=>r.map rA=jw (l.map rA) (rA b)):=by
 unfold fL jw
 by_cases h0:b.iN= []
 ·rw [show (((b.iN.length:Nat):Int)==0)=true by rw [h0];rfl,aP,aC (.inl (by unfold rA;rw [h0];rfl))]
  exact Ok.ret rfl
 ·rw [show (((b.iN.length:Nat):Int)==0)=false by rw [beq_eq_false_iff_ne];intro h;exact h0 (List.eq_nil_of_length_eq_zero (by omega)),aR]
  have hne: ¬((rA b).xs= []\/(rA b).y1<=(rA b).y0):=by
   rintro(h | h)
   ·have h:=FU.1 h
    exact h0 (List.map_eq_nil_iff.1 h)
   ·have h:b.to<=b.from_:=h
    omega
  rw [aG hne]
  rcases List.eq_nil_or_concat l with rfl | ⟨A,c,hA⟩
  ·rw [show decide (((([]:List aL).length:Nat):Int)>0)=false by decide,aR,aB,aR]
   exact Ok.app (by simp) (Ok.ret rfl)
  ·rw [List.concat_eq_append] at hA
   subst hA
   have hlen: (A++[c]).length=A.length+1:=by simp
   have hwp:IntKind.wrap .i64 ((((A++[c]).length:Nat):Int) - 1)= ((A.length:Nat):Int):=by rw [zB (by omega) (by omega),hlen];rfl
   have hlast: (A++[c])[A.length]? =some c:=by simp
   rw [hwp,bR (by omega),aP,dU hlast,aB,aB,B8 (by have:=hs c (by simp);omega) hN,aB,aB,cH]
   have hl2: ((A++[c]).map rA).getLast? =some (rA c):=by simp
   have hd2: ((A++[c]).map rA).dropLast=A.map rA:=by simp
   rw [hl2,hd2]
   dsimp only
   by_cases h1:c.to=b.from_/\c.iN=b.iN
   ·rw [aC (show (rA c).y1= (rA b).y0/\(rA c).xs= (rA b).xs from ⟨h1.1,by unfold rA;rw [h1.2]⟩),show (c.to==b.from_)=true by rw [h1.1];simp,aP,bR h1.2,aB,aP]
    refine Ok.ret ?_
    rw [List.set_append_right _ _ (bT _),Nat.sub_self]
    simp [rA]
   ·rw [aG (show ¬((rA c).y1= (rA b).y0/\(rA c).xs= (rA b).xs) from fun h=>h1 ⟨h.1,FV.1 h.2⟩)]
    have e2: (bif (c.to==b.from_) then (some (decide (c.iN=b.iN))) else (some false))=some false:=by
     by_cases h2:c.to=b.from_
     ·rw [show (c.to==b.from_)=true by rw [h2];simp,aP,cC (fun h=>h1 ⟨h2,h⟩)]
     ·rw [show (c.to==b.from_)=false by simpa using h2,aR]
    rw [e2,aB,aR]
    exact Ok.app (by rw [hlen];simp;omega) (Ok.ret (by simp))
theorem Hj {s:List Bd} {b c:Bd} (h:c∈jw s b):c.xs=b.xs\/∃d∈s,c.xs=d.xs:=by
 unfold jw at h
 split at h
 ·exact .inr ⟨c,h,rfl⟩
 ·split at h
  ·rename_i d hd
   split at h
   ·rcases dA.1 h with h | h
    ·exact .inr ⟨c,List.dropLast_subset _ h,rfl⟩
    ·simp at h
     exact .inr ⟨d,List.mem_of_getLast? hd,by rw [h]⟩
   ·rcases dA.1 h with h | h
    ·exact .inr ⟨c,h,rfl⟩
    ·simp at h;exact .inl (by rw [h])
  ·simp at h;exact .inl (by rw [h])
theorem pS {f:Int->List Int} {B:Nat} (hf: ∀y,(f y).length<=B): ∀(ss:List (Int×Int)) (out:List Bd),(∀c∈out,c.xs.length<=B)->(∀c∈lS f ss out,c.xs.length<=B)/\(lS f ss out).length<=out.length+ss.length
 | [],out,h=>⟨h,by simp [lS]⟩
 | s::ss,out,h=>by
  obtain⟨h1,h2⟩:=pS hf ss (jw out ⟨s.1,s.2,f s.1⟩) (fun c hc=>by
   rcases Hj hc with h3 | ⟨d,hd,h3⟩
   ·rw [h3];exact hf _
   ·rw [h3];exact h d hd)
  refine⟨h1,?_⟩
  have:=FG out ⟨s.1,s.2,f s.1⟩
  show (lS f ss (jw out ⟨s.1,s.2,f s.1⟩)).length<=_
  rw [dP];omega
theorem mA: ∀(ys:List Int),(j3 ys).length=ys.length - 1
 | []=>rfl
 | [_]=>rfl
 | a::b::l=>by
  show (j3 (b::l)).length+1=_
  rw [mA (b::l)];simp
theorem z9: ∀(ys:List Int) (k:Nat) (h:k+1<ys.length),(j3 ys)[k]? =some (ys[k],ys[k+1])
 | [],k,h=>by simp at h
 | [_],k,h=>by simp at h
 | a::b::l,0,h=>rfl
 | a::b::l,k+1,h=>by
  have:=z9 (b::l) k (by simp at h ⊢;omega)
  show (j3 (b::l))[k]? =_
  rw [this];rfl
theorem Dw (f:Int->List Int) (ss:List (Int×Int)) (s:Int×Int) (out:List Bd):lS f (ss++[s]) out=jw (lS f ss out) ⟨s.1,s.2,f s.1⟩:=by unfold lS;rw [List.foldl_append];rfl
theorem Aa {ys:List Int} (hy:jm ys) {f:Int->List Int} {B:Nat} (hf: ∀y,(f y).length<=B) (hB:B<=1099511627776) (hys:ys.length<=1073741824) {out:List aL} {k:Nat} (h1:1<=k) (hk:k<ys.length)
  (hI:out.map rA=lS f ((j3 ys).take (k - 1)) []) {r:List aF} (hr:dD (r.map sp)=f (ys[k - 1]'(by omega))) (hN:4398046511104<=N):
  Ok (fL N out ⟨ys[k - 1]'(by omega),ys[k],r⟩) (fun o=>o.map rA=lS f ((j3 ys).take k) []):=by
 have hlt:ys[k - 1]'(by omega)<ys[k]:=mC.1 hy (k - 1) k (by omega) hk (by omega)
 obtain⟨s1,s2⟩:=pS hf ((j3 ys).take (k - 1)) [] (fun c hc=>by cases hc)
 have hol:out.length<=ys.length:=by
  have: (out.map rA).length<=ys.length:=by
   rw [hI]
   have h3:=mA ys
   rw [cL] at s2
   simp only [List.length_nil] at s2;omega
  rwa [cV] at this
 refine(Et hlt (by omega) (fun c hc=>?_) hN).mono fun o ho=>?_
 ·have h3: (rA c).xs.length<=B:=s1 _ (by rw [<-hI];exact dH.2 ⟨c,hc,rfl⟩)
  have h4: (rA c).xs.length=2*c.iN.length:=by unfold rA;rw [jO,cV]
  omega
 ·have hg:=z9 ys (k - 1) (by omega)
  have hts: (j3 ys).take k= (j3 ys).take (k - 1)++[(ys[k - 1]'(by omega),ys[k])]:=by
   have hl:k - 1< (j3 ys).length:=by rw [mA];omega
   have e:=eF hl
   rw [show k - 1+1=k by omega] at e
   rw [e]
   congr 1
   rw [aN hl] at hg
   injection hg with hg
   rw [hg];simp only [show k - 1+1=k by omega]
  rw [ho,hI,hts,Dw]
  congr 1
  unfold rA
  simp only [hr]
def pr (b:aL):List aI:=b.iN.map fun s=>⟨s.from_,b.from_,s.to,b.to⟩
def lv (l:List aL):List aI:=l.flatMap pr
theorem Dx: ∀(l:List (Int×Int)),zD (dD l)=l
 | []=>rfl
 | s::l=>by rw [i9];show (s.1,s.2)::zD (dD l)=_;rw [Dx l]
theorem x9: ∀{l:List aL} {s:List aA},l.map rA=s.map bY->lv l=aS s
 | [],[],_=>rfl
 | [],_::_,h=>by cases h
 | _::_,[],h=>by cases h
 | b::l,c::s,h=>by
  rw [dX,dX] at h
  injection h with h1 h2
  have e:=x9 h2
  show pr b++lv l=mq c++aS s
  rw [e]
  congr 1
  unfold rA bY at h1
  injection h1 with g1 g2 g3
  unfold pr mq
  rw [<-g3,Dx,g1,g2,List.map_map]
  rfl
theorem Dy (l:List aL) (b:aL):lv (l++[b])=lv l++pr b:=by unfold lv;rw [List.flatMap_append];simp
theorem E8 {l:List aL} (hl:l.length<=1099511627776) (hs: ∀b∈l,b.iN.length<=1099511627776) (hr: (lv l).length<=1099511627776) (hN:4398046511104<=N):iW N l=some (lv l):=by
 refine Ok.get ?_
 unfold iW
 refine Ok.bind (Ok.pq (n:=l.length) (fun s=>s.2) (fun k s=>s.1=lv (l.take k)) (Go:=fun s=>s.1=lv l) (Rt:=fun _=>False) ?_ ?_ (dM _) rfl rfl (by omega)) ?_
 ·rintro k ⟨out,i⟩ hk e hI
  dsimp only at e hI ⊢
  subst e;subst hI
  rw [kE hk,aP]
  have hx:l[k]? =some l[k]:=aN hk
  have hsl:=hs _ (cM hk)
  have hts:lv (l.take (k+1))=lv (l.take k)++pr l[k]:=by rw [eF hk,Dy]
  have hlen: (lv (l.take k)).length+l[k].iN.length<=(lv l).length:=by
   have h1: (lv l).length= (lv (l.take (k+1))).length+ (lv (l.drop (k+1))).length:=by
    rw [<-cZ];unfold lv;rw [<-List.flatMap_append,List.take_append_drop]
   have h2: (pr l[k]).length=l[k].iN.length:=by unfold pr;rw [cV]
   rw [hts,cZ,h2] at h1;omega
  refine Ok.bind (Ok.pq (n:=l[k].iN.length) (fun s=>s.2) (fun j s=>s.1=lv (l.take k)++(pr l[k]).take j) (Go:=fun s=>s.1=lv (l.take (k+1))) (Rt:=fun _=>False) ?_ ?_ (dM _) rfl (by simp) (by omega)) ?_
  ·rintro j ⟨o2,i2⟩ hj e hI
   dsimp only at e hI ⊢
   subst e;subst hI
   have hy:l[k].iN[j]? =some l[k].iN[j]:=aN hj
   have hjr:j< (pr l[k]).length:=by unfold pr;rw [cV];exact hj
   refine Ok.ix hx ?_
   rw [kE hj,aP]
   refine Ok.ix hx (Ok.ix hy (Ok.ix hx (Ok.ix hx (Ok.ix hy (Ok.ix hx (Ok.app ?_ (Ok.nx ⟨bP (by omega),?_⟩)))))))
   ·rw [cZ,cL];simp only [dP,List.length_nil];omega
   ·dsimp only
    rw [kh]
    congr 1
    rw [eF hjr]
    congr 1
    simp [pr]
  ·rintro⟨o2,i2⟩ e hI
   dsimp only at e hI ⊢
   subst e;subst hI
   refine Ok.ix hx ?_
   rw [mX,aR]
   refine Ok.br ?_
   dsimp only
   rw [hts]
   congr 1
   exact lj (by unfold pr;rw [cV];omega)
  intro o ho
  exact Ok.cs ho (fun s hs=>Ok.nx ⟨bP (by omega),hs⟩) (fun r hr=>hr.elim)
 ·rintro⟨out,i⟩ e hI
  dsimp only at e hI ⊢
  subst e
  rw [mX,aR]
  exact Ok.br (by rw [eO] at hI;exact hI)
 intro o ho
 exact Ok.cs ho (fun s hs=>Ok.ret hs) (fun r hr=>hr.elim)
theorem ya {l:List aI} {ys:List Int} (hm: ∀r∈l,r.Y0∈ys/\r.Y1∈ys) {s:Int×Int} {y:Int} (hs:s∈j3 ys) (hy:jm ys) (h1:s.1<=y) (h2:y<s.2):kA l y=kA l s.1:=Es fun r hr=>by
 obtain⟨m1,m2⟩:=hm r hr
 obtain⟨_,_,_,h⟩:=p5 hy s hs
 rcases h _ m1 with h3 | h3 <;> rcases h _ m2 with h4 | h4 <;> constructor <;> intro h5 <;> omega
theorem B9 {l:List aI} {ys:List Int} (hm: ∀r∈l,r.Y0∈ys/\r.Y1∈ys) {y:Int} (h: (∀c∈ys,y<c)\/(∀c∈ys,c<=y)):kA l y= []:=Hi fun r hr hc=>by
 obtain⟨m1,m2⟩:=hm r hr
 rcases h with h | h
 ·have:=h _ m1;omega
 ·have:=h _ m2;omega
theorem Ca {l:List aI}: ∀r∈l,r.Y0∈j8 (je l)/\r.Y1∈j8 (je l):=fun r hr=>⟨x6.2 (kY.2 ⟨r,hr, .inl rfl⟩),x6.2 (kY.2 ⟨r,hr, .inr rfl⟩)⟩
theorem Hk (l:List aI): (j8 (je l)).length<=2*l.length:=by
 have:=sm (je l)
 rwa [jo] at this
theorem te {l:List aI} {s:List aA} (hc:eQ (s.map bY)) (hcov: ∀x y,tO (s.map bY) x y=rX l x y) (hl:l.length<=10000000) (hok: ∀r∈l,r.X0<r.X1) (hr: (aS s).length<=1099511627776) (hN:4398046511104<=N):
  eW N l=some (aS s):=by
 refine Ok.get ?_
 unfold eW
 refine Ok.eq (z7 (by omega) hN) ?_
 have hyl:=Hk l
 have hyi:=mN (je l)
 have hf: ∀y,jm (dD (kA l y))/\(dD (kA l y)).length % 2=0:=fun y=>⟨(sq hok y).1,by rw [jO];omega⟩
 have hfl: ∀y,(dD (kA l y)).length<=20000000:=fun y=>by rw [jO];have:=qA l y;omega
 obtain⟨b1,b2⟩:=yo (f:=fun y=>dD (kA l y)) hf hyi (fun t ht y h1 h2=>by (try dsimp only);rw [ya Ca ht hyi h1 h2]) (fun y h=>by (try dsimp only);rw [B9 Ca h];rfl)
 have hsame:lS (fun y=>dD (kA l y)) (j3 (j8 (je l))) []=s.map bY:=sV b1 hc fun x y=>by
  rw [hcov];unfold tO;rw [b2,rZ (hf y).1,(sq hok y).2]
 have hmy:= @Ca l
 generalize j8 (je l)=ys at *
 refine Ok.bind (Ok.pq (n:=max 1 ys.length) (fun s=>s.2) (fun k st=>1<=k/\st.1.map rA=lS (fun y=>dD (kA l y)) ((j3 ys).take (k - 1)) []) (Go:=fun st=>st.1.map rA=s.map bY) (Rt:=fun _=>False) ?_ ?_ (k0:=1) (by omega) rfl ⟨bT _,rfl⟩ (by omega)) ?_
 ·rintro k ⟨out,i⟩ hk e ⟨hk1,hI⟩
  dsimp only at e hI ⊢
  subst e
  have hk2:k<ys.length:=by omega
  rw [kE hk2,aP,i5 hk1 (by omega)]
  refine Ok.idx (by omega) (Ok.idx hk2 (Ok.idx (by omega) (Ok.bind (B6 (by omega) hN) fun r hr=>Ok.bind (Aa hyi (f:=fun y=>dD (kA l y)) hfl (by omega) (by omega) hk1 hk2 hI (by (try dsimp only);rw [hr]) hN) fun o ho=>Ok.nx ⟨bP (by omega),by omega,?_⟩)))
  rw [Nat.add_sub_cancel];exact ho
 ·rintro⟨out,i⟩ e ⟨hk1,hI⟩
  dsimp only at e hI ⊢
  subst e
  rw [xn (by omega),aR]
  refine Ok.br ?_
  rw [lj (by rw [mA];omega),hsame] at hI
  exact hI
 intro o ho
 refine Ok.cs ho (fun st hs=>?_) (fun r hr=>hr.elim)
 have e:=x9 hs
 obtain⟨s1,s2⟩:=pS (f:=fun y=>dD (kA l y)) hfl (j3 ys) [] (fun c hc=>by cases hc)
 refine Ok.eq (E8 (l:=st.1) ?_ ?_ (by rw [e];exact hr) hN) (Ok.ret e)
 ·have: (st.1.map rA).length<=ys.length:=by rw [hs,<-hsame];have:=mA ys;simp only [List.length_nil] at s2;omega
  rw [cV] at this;omega
 ·intro b hb
  have h3:=s1 (rA b) (by rw [hsame,<-hs];exact dH.2 ⟨b,hb,rfl⟩)
  have h4: (rA b).xs.length=2*b.iN.length:=by unfold rA;rw [jO,cV]
  omega
def qB (w:Int) (p q:Bool):Bool:=((((w==1)&&(p||q))||(((w==2)&&p)&&q))||(((w==3)&&p)&&(!q)))
theorem Hl (w:Int):qB w false false=false:=by unfold qB;simp
theorem yv (gD:Bool->Bool->Bool) (a b ss:List (Int×Int)) (s:Int×Int) (out:List (Int×Int)):lR gD a b (ss++[s]) out=if gD (i7 a s.1) (i7 b s.1)=true then lr (lR gD a b ss out) s else lR gD a b ss out:=by unfold lR;rw [List.foldl_append];rfl
theorem v5 (gD:Bool->Bool->Bool) (a b:List (Int×Int)): ∀(ss out:List (Int×Int)),(lR gD a b ss out).length<=out.length+ss.length
 | [],out=>by simp [lR]
 | s::ss,out=>by
  have h1:=v5 gD a b ss (if gD (i7 a s.1) (i7 b s.1)=true then lr out s else out)
  have h2: (if gD (i7 a s.1) (i7 b s.1)=true then lr out s else out).length<=out.length+1:=by
   split
   ·exact yt _ _
   ·omega
  show (lR gD a b ss (if gD (i7 a s.1) (i7 b s.1)=true then lr out s else out)).length<=_
  rw [dP];omega
def yw (a b:List (Int×Int)):List Int:=j8 (dD a++dD b)
theorem Bn (a b:List (Int×Int)): (yw a b).length<=2*a.length+2*b.length:=by
 have:=sm (dD a++dD b)
 rw [cZ,jO,jO] at this
 exact this
theorem Hm {a b:List aF} {w:Int} (ha:a.length<=10000000) (hb:b.length<=10000000) (hN:4398046511104<=N):
  Ok (jE N a b w) (fun r=>r.map sp=lR (qB w) (a.map sp) (b.map sp) (j3 (yw (a.map sp) (b.map sp))) []):=by
 unfold jE
 have hfl: ∀(l:List aF),(j8 (dD (l.map sp))).length<=2*l.length:=fun l=>by
  have:=sm (dD (l.map sp))
  rwa [jO,cV] at this
 refine Ok.bind (Ok.pq (n:=a.length) (fun s=>s.2) (fun k s=>s.1=j8 (dD ((a.take k).map sp))) (Go:=fun s=>s.1=j8 (dD (a.map sp))) (Rt:=fun _=>False) ?_ ?_ (dM _) rfl rfl (by omega)) ?_
 ·rintro k ⟨out,i⟩ hk e hI
  dsimp only at e hI ⊢
  subst e;subst hI
  rw [kE hk,aP]
  have hx:a[k]? =some a[k]:=aN hk
  have h1:=hfl (a.take k)
  rw [cL] at h1
  have h2:=xo (j8 (dD ((a.take k).map sp))) a[k].from_
  refine Ok.ix hx (Ok.ix hx (Ok.eq (uV (mN _) (by omega) hN) (Ok.eq (uV (sj (mN _)) (by omega) hN) (Ok.nx ⟨bP (by omega),?_⟩))))
  rw [eF hk,dN,sW]
  exact(uD _ _ _).symm
 ·rintro⟨out,i⟩ e hI
  dsimp only at e hI ⊢
  subst e
  rw [mX,aR]
  exact Ok.br (by rw [eO] at hI;exact hI)
 intro o ho
 refine Ok.cs ho ?_ (fun r hr=>hr.elim)
 rintro⟨xa,ia⟩ hxa
 dsimp only at hxa ⊢
 subst hxa
 refine Ok.bind (Ok.pq (n:=b.length) (fun s=>s.2) (fun k s=>s.1=j8 (dD (a.map sp)++dD ((b.take k).map sp))) (Go:=fun s=>s.1=yw (a.map sp) (b.map sp)) (Rt:=fun _=>False) ?_ ?_ (dM _) rfl (by simp [dD]) (by omega)) ?_
 ·rintro k ⟨out,i⟩ hk e hI
  dsimp only at e hI ⊢
  subst e;subst hI
  rw [kE hk,aP]
  have hx:b[k]? =some b[k]:=aN hk
  have h1:=sm (dD (a.map sp)++dD ((b.take k).map sp))
  rw [cZ,jO,jO,cV,cV,cL] at h1
  have h2:=xo (j8 (dD (a.map sp)++dD ((b.take k).map sp))) b[k].from_
  refine Ok.ix hx (Ok.ix hx (Ok.eq (uV (mN _) (by omega) hN) (Ok.eq (uV (sj (mN _)) (by omega) hN) (Ok.nx ⟨bP (by omega),?_⟩))))
  rw [eF hk,dN,sW,<-kh]
  exact(uD _ _ _).symm
 ·rintro⟨out,i⟩ e hI
  dsimp only at e hI ⊢
  subst e
  rw [mX,aR]
  exact Ok.br (by rw [eO] at hI;exact hI)
 intro o ho
 refine Ok.cs ho ?_ (fun r hr=>hr.elim)
 rintro⟨xs,ix⟩ hxs
 dsimp only at hxs ⊢
 have hxl:=Bn (a.map sp) (b.map sp)
 rw [<-hxs,cV,cV] at hxl
 rw [<-hxs]
 clear hxs
 refine Ok.bind (Ok.pq (n:=max 1 xs.length) (fun s=>s.2) (fun k st=>1<=k/\st.1.map sp=lR (qB w) (a.map sp) (b.map sp) ((j3 xs).take (k - 1)) []) (Go:=fun st=>st.1.map sp=lR (qB w) (a.map sp) (b.map sp) (j3 xs) []) (Rt:=fun _=>False) ?_ ?_ (k0:=1) (by omega) rfl ⟨bT _,rfl⟩ (by omega)) ?_
 ·rintro k ⟨out,i⟩ hk e ⟨hk1,hI⟩
  dsimp only at e hI ⊢
  subst e
  have hk2:k<xs.length:=by omega
  rw [kE hk2,aP,i5 hk1 (by omega)]
  have hx:xs[k - 1]? =some (xs[k - 1]'(by omega)):=aN _
  have hy:xs[k]? =some xs[k]:=aN hk2
  have hg:=z9 xs (k - 1) (by omega)
  have hts: (j3 xs).take k= (j3 xs).take (k - 1)++[(xs[k - 1]'(by omega),xs[k])]:=by
   have hl:k - 1< (j3 xs).length:=by rw [mA];omega
   have e:=eF hl
   rw [show k - 1+1=k by omega] at e
   rw [e]
   congr 1
   rw [aN hl] at hg
   injection hg with hg
   rw [hg];simp only [show k - 1+1=k by omega]
  have hol:out.length<=xs.length:=by
   have h1:=v5 (qB w) (a.map sp) (b.map sp) ((j3 xs).take (k - 1)) []
   rw [<-hI,cV,cL,mA] at h1
   simp only [List.length_nil] at h1;omega
  refine Ok.ix hx (Ok.ix hx (Ok.eq (x8 (by omega) hN) (Ok.eq (x8 (by omega) hN) ?_)))
  refine Ok.bind (P:=fun r:List aF=>r.map sp=lR (qB w) (a.map sp) (b.map sp) ((j3 xs).take k) []) (Ok.bif (fun hb=>?_) (fun hb=>?_)) (fun r hr=>Ok.nx ⟨bP (by omega),by omega,by rw [Nat.add_sub_cancel];exact hr⟩)
  ·refine Ok.ix hx (Ok.ix hy (Ok.bind (Bm (by omega) hN) (fun r hr=>Ok.ret ?_)))
   rw [hr,hI,hts,yv,aC (show qB w _ _=true from hb)];rfl
  ·refine Ok.ret ?_
   rw [hI,hts,yv,aG (show ¬qB w _ _=true by rw [jI];exact hb)]
 ·rintro⟨out,i⟩ e ⟨hk1,hI⟩
  dsimp only at e hI ⊢
  subst e
  rw [xn (by omega),aR]
  refine Ok.br ?_
  rw [lj (by rw [mA];omega)] at hI
  exact hI
 intro o ho
 exact Ok.cs ho (fun s hs=>Ok.ret hs) (fun r hr=>hr.elim)
def nC (w:Int) (a b:List aI) (y:Int):List (Int×Int):=lR (qB w) (kA a y) (kA b y) (j3 (yw (kA a y) (kA b y))) []
theorem Dz (a b:List (Int×Int)):Ends a (yw a b)/\Ends b (yw a b):=by
 constructor <;> intro s hs <;> constructor <;> refine x6.2 (dA.2 ?_)
 ·exact .inl (List.mem_flatMap.2 ⟨s,hs,by simp⟩)
 ·exact .inl (List.mem_flatMap.2 ⟨s,hs,by simp⟩)
 ·exact .inr (List.mem_flatMap.2 ⟨s,hs,by simp⟩)
 ·exact .inr (List.mem_flatMap.2 ⟨s,hs,by simp⟩)
theorem yx {a b:List aI} (ha: ∀r∈a,r.X0<r.X1) (hb: ∀r∈b,r.X0<r.X1) (w y:Int):jm (dD (nC w a b y))/\∀x,i7 (nC w a b y) x=qB w (rX a x y) (rX b x y):=by
 obtain⟨h1,h2⟩:=C9 (gD:=qB w) (Hl w) (a:=kA a y) (b:=kA b y) (xs:=yw (kA a y) (kA b y)) (mN _) (Dz _ _).1 (Dz _ _).2
 exact⟨h1,fun x=>by rw [show i7 (nC w a b y) x=_ from h2 x,(sq ha y).2,(sq hb y).2]⟩
theorem Eu (w:Int) (a b:List aI) (y:Int): (nC w a b y).length<=2*a.length+2*b.length:=by
 have h1:=v5 (qB w) (kA a y) (kA b y) (j3 (yw (kA a y) (kA b y))) []
 have h2:=Bn (kA a y) (kA b y)
 have h3:=qA a y
 have h4:=qA b y
 rw [mA] at h1
 unfold nC
 simp only [List.length_nil] at h1;omega
theorem DA {a b:List aI} {w:Int} {s:List aA} (hc:eQ (s.map bY)) (hcov: ∀x y,tO (s.map bY) x y=qB w (rX a x y) (rX b x y)) (hla:a.length<=10000000) (hlb:b.length<=10000000)
  (ha: ∀r∈a,r.X0<r.X1) (hb: ∀r∈b,r.X0<r.X1) (hr: (aS s).length<=1099511627776) (hN:4398046511104<=N):gu N a b w=some (aS s):=by
 refine Ok.get ?_
 unfold gu
 refine Ok.app (by simp only [List.length_nil];omega) (Ok.app (by rw [List.nil_append];omega) ?_)
 rw [List.nil_append]
 refine Ok.eq (z7 (by rw [cZ];omega) hN) ?_
 have hyl:=Hk (a++b)
 rw [cZ] at hyl
 have hyi:=mN (je (a++b))
 have hmy:= @Ca (a++b)
 have hma: ∀r∈a,r.Y0∈j8 (je (a++b))/\r.Y1∈j8 (je (a++b)):=fun r hr=>hmy r (List.mem_append_left _ hr)
 have hmb: ∀r∈b,r.Y0∈j8 (je (a++b))/\r.Y1∈j8 (je (a++b)):=fun r hr=>hmy r (List.mem_append_right _ hr)
 have hf: ∀y,jm (dD (nC w a b y))/\(dD (nC w a b y)).length % 2=0:=fun y=>⟨(yx ha hb w y).1,by rw [jO];omega⟩
 have hfl: ∀y,(dD (nC w a b y)).length<=80000000:=fun y=>by rw [jO];have:=Eu w a b y;omega
 obtain⟨b1,b2⟩:=yo (f:=fun y=>dD (nC w a b y)) hf hyi (fun t ht y h1 h2=>by (try dsimp only);unfold nC;rw [ya hma ht hyi h1 h2,ya hmb ht hyi h1 h2]) (fun y h=>by
  (try dsimp only);unfold nC;rw [B9 hma h,B9 hmb h];rfl)
 have hsame:lS (fun y=>dD (nC w a b y)) (j3 (j8 (je (a++b)))) []=s.map bY:=sV b1 hc fun x y=>by
  rw [hcov];unfold tO;rw [b2,rZ (hf y).1,(yx ha hb w y).2]
 clear hmy hma hmb
 generalize j8 (je (a++b))=ys at *
 refine Ok.bind (Ok.pq (n:=max 1 ys.length) (fun s=>s.2) (fun k st=>1<=k/\st.1.map rA=lS (fun y=>dD (nC w a b y)) ((j3 ys).take (k - 1)) []) (Go:=fun st=>st.1.map rA=s.map bY) (Rt:=fun _=>False) ?_ ?_ (k0:=1) (by omega) rfl ⟨bT _,rfl⟩ (by omega)) ?_
 ·rintro k ⟨out,i⟩ hk e ⟨hk1,hI⟩
  dsimp only at e hI ⊢
  subst e
  have hk2:k<ys.length:=by omega
  rw [kE hk2,aP,i5 hk1 (by omega)]
  refine Ok.idx (by omega) (Ok.idx hk2 (Ok.idx (by omega) (Ok.idx (by omega) (Ok.bind (B6 (by omega) hN) fun r1 hr1=>Ok.bind (B6 (by omega) hN) fun r2 hr2=>?_))))
  have l1:r1.length<=10000000:=by have:=qA a (ys[k - 1]'(by omega));rw [<-hr1,cV] at this;omega
  have l2:r2.length<=10000000:=by have:=qA b (ys[k - 1]'(by omega));rw [<-hr2,cV] at this;omega
  refine Ok.bind (Hm l1 l2 hN) fun r hr=>Ok.bind (Aa hyi (f:=fun y=>dD (nC w a b y)) hfl (by omega) (by omega) hk1 hk2 hI (by (try dsimp only);rw [hr,hr1,hr2];rfl) hN) fun o ho=>Ok.nx ⟨bP (by omega),by omega,?_⟩
  rw [Nat.add_sub_cancel];exact ho
 ·rintro⟨out,i⟩ e ⟨hk1,hI⟩
  dsimp only at e hI ⊢
  subst e
  rw [xn (by omega),aR]
  refine Ok.br ?_
  rw [lj (by rw [mA];omega),hsame] at hI
  exact hI
 intro o ho
 refine Ok.cs ho (fun st hs=>?_) (fun r hr=>hr.elim)
 have e:=x9 hs
 obtain⟨s1,s2⟩:=pS (f:=fun y=>dD (nC w a b y)) hfl (j3 ys) [] (fun c hc=>by cases hc)
 refine Ok.eq (E8 (l:=st.1) ?_ ?_ (by rw [e];exact hr) hN) (Ok.ret e)
 ·have: (st.1.map rA).length<=ys.length:=by rw [hs,<-hsame];have:=mA ys;simp only [List.length_nil] at s2;omega
  rw [cV] at this;omega
 ·intro b hb
  have h3:=s1 (rA b) (by rw [hsame,<-hs];exact dH.2 ⟨b,hb,rfl⟩)
  have h4: (rA b).xs.length=2*b.iN.length:=by unfold rA;rw [jO,cV]
  omega
theorem Cb (n:Int):cR N n=some (lh n):=rfl
theorem Ab {l:List aI} (hl:l.length<=1099511627776) (hN:4398046511104<=N):gO N l=some (k6 l):=by
 refine Ok.get ?_
 unfold gO k6
 by_cases h:2000<l.length
 ·rw [bR (by omega),aP,aC h];exact Ok.ret rfl
 ·rw [cC (by omega),aR,aG h]
  refine Ok.bind (Ok.pq (n:=l.length) (fun s=>s) (fun k s=>∀(j:Nat) x,j<k->l[j]? =some x->kx x=none) (Go:=fun s=>l.findSome? kx=none) (Rt:=fun r=>l.findSome? kx=some r) ?_ ?_ (dM _) rfl (fun j x hj=>by omega) (by omega)) ?_
  ·rintro k i hk e hI
   subst e
   rw [kE hk,aP]
   have hx:l[k]? =some l[k]:=aN hk
   have hrt: ∀c,kx l[k]=some c->l.findSome? kx=some c:=fun c hc=>by
    rw [List.findSome?_eq_some_iff]
    refine⟨l.take k,l[k],l.drop (k+1),?_,hc,fun x hx'=>?_⟩
    ·rw [List.getElem_cons_drop,List.take_append_drop]
    ·obtain⟨j,hj⟩:=dS hx'
     have hjk:j<k:=by have:=(bA.1 hj).1;rw [cL] at this;omega
     exact hI j x hjk (by rw [List.getElem?_take_of_lt hjk] at hj;exact hj)
   refine Ok.ix hx ?_
   have hb: ((cR N l[k].X0).bind fun x110=>bif (!x110) then (some true) else ((cR N l[k].Y0).bind fun x112=>bif (!x112) then (some true) else ((cR N l[k].X1).bind fun x114=>bif (!x114) then (some true) else ((cR N l[k].Y1).bind fun x116=>some (!x116)))))=some (!fj l[k]):=by
    rw [Cb,Cb,Cb,Cb]
    unfold fj
    simp only [aB]
    cases lh l[k].X0 <;> cases lh l[k].Y0 <;> cases lh l[k].X1 <;> rfl
   refine Ok.eq hb (Ok.bif (fun h1=>Ok.rt (hrt 1 ?_)) (fun h1=>Ok.bif (fun h2=>Ok.rt (hrt 13 ?_)) (fun h2=>Ok.nx ⟨bP (by omega),fun j x hj hjx=>?_⟩)))
   ·unfold kx;rw [aG (by rw [jI];simpa using h1)]
   ·unfold kx
    rw [aC (by simpa using h1),aC (by rw [dK,bQ,bQ] at h2;exact h2)]
   ·by_cases e:j=k
    ·subst e;rw [hx] at hjx;injection hjx with hjx;rw [<-hjx]
     unfold kx
     rw [aC (by simpa using h1),aG (by rw [<-jI,dK,bQ,bQ] at h2;exact h2)]
    ·exact hI j x (by omega) hjx
  ·rintro i e hI
   subst e
   rw [mX,aR]
   refine Ok.br ?_
   rw [List.findSome?_eq_none_iff]
   intro x hx
   obtain⟨j,hj⟩:=dS hx
   exact hI j x (bA.1 hj).1 hj
  intro o ho
  exact Ok.cs ho (fun s hs=>Ok.ret (by rw [hs];rfl)) (fun r hr=>Ok.ret (by rw [hr];rfl))
theorem Ev {l:List aI} {s:List aA} (hs:r8 l s):zS l↔aS s=l:=⟨fun⟨t,h1,h2⟩=>by rw [hs.unique h1];exact h2,fun h=>⟨s,hs,h⟩⟩
theorem tr {l:List aI} (hl:l.length<=1073741824) (hN:4398046511104<=N):fm N l=some (jJ l):=by
 refine Ok.get ?_
 unfold fm
 refine Ok.eq (Ab (by omega) hN) ?_
 unfold jJ
 refine Ok.bif (fun h=>Ok.ret ?_) (fun h=>?_)
 ·rw [aC (by simpa using h)]
 ·have h0:k6 l=0:=by simpa using h
  rw [aG (by simpa using h0)]
  obtain⟨hlen,hok⟩:=zT h0
  have hbf: ∀a b:aI,(((decide (a.Y0<b.Y0))||((a.Y0==b.Y0)&&(decide (a.X0<b.X0))))=true)↔¬(b.Y0<a.Y0\/(b.Y0=a.Y0/\b.X0<=a.X0)):=fun a b=>by
   rw [dK,bW,bQ,bQ,beq_iff_eq];omega
  refine Ok.bind (Ok.jz (Go:=fun _=>Jp l) (Rt:=fun r=>r=8/\¬Jp l) (fun s=>∃k:Nat,s= ((k:Nat):Int)/\1<=k/\∀(j:Nat) a b,j+1<k->l[j]? =some a->l[j+1]? =some b->¬(b.Y0<a.Y0\/(b.Y0=a.Y0/\b.X0<=a.X0))) (fun s=>l.length - s.toNat) ?_ ⟨1,rfl,bT _,fun j a b hj=>by omega⟩ (by simp;omega)) ?_
  ·rintro s ⟨k,rfl,hk,hI⟩
   refine Ok.bif (fun h=>?_) (fun h=>Ok.br fun j a b ha hb=>hI j a b ?_ ha hb)
   ·have hk2:k<l.length:=by have:=of_decide_eq_true h;omega
    rw [i5 hk (by omega)]
    have hx:l[k - 1]? =some (l[k - 1]'(by omega)):=aN _
    have hy:l[k]? =some l[k]:=aN hk2
    refine Ok.ix hx (Ok.ix hy ?_)
    unfold il
    rw [aB]
    refine Ok.bif (fun hb=>Ok.rt ⟨rfl,fun hu=>?_⟩) (fun hb=>Ok.nx ⟨⟨k+1,by rw [bP (by omega)],by omega,fun j a b hj ha hb'=>?_⟩,by rw [bP (by omega)];simp only [cH];omega⟩)
    ·have:=(hbf _ _).2 (hu (k - 1) _ _ hx (by rw [show k - 1+1=k by omega];exact hy))
     rw [this] at hb;cases hb
    ·by_cases e:j+1<k
     ·exact hI j a b e ha hb'
     ·have:j+1=k:=by omega
      have h1:l[k - 1]? =some a:=by rw [show k - 1=j by omega];exact ha
      have h2:l[k]? =some b:=by rw [<-this];exact hb'
      rw [hx] at h1;rw [hy] at h2
      injection h1 with h1;injection h2 with h2
      rw [<-h1,<-h2]
      refine(hbf _ _).1 ?_
      rw [Bool.not_eq_false'] at hb
      exact hb
   ·have:=of_decide_eq_false h
    have:=(bA.1 hb).1;omega
  ·rintro o ho
   refine Ok.cs ho (fun s hu=>?_) (fun r hr=>Ok.ret (by rw [hr.1,aG hr.2]))
   rw [aC hu]
   obtain⟨s,_,hs⟩:=oF (N:=N) (l:=l) (by omega) hok (by omega)
   obtain⟨z1,z2,z3⟩:=hs.Dk
   have z4:2*l.length* (2*l.length)<=4000*4000:=Nat.mul_le_mul (by omega) (by omega)
   refine Ok.eq (te hs.can hs.cover (by omega) (fun r hr=>(hok r hr).x) (by omega) hN) (Ok.eq (B7 (by omega) hN) ?_)
   have hiff:=Ev hs
   refine Ok.bif (fun h=>Ok.ret ?_) (fun h=>Ok.ret ?_)
   ·have h: ¬l=aS s:=by simpa using h
    rw [aG (fun h'=>h (hiff.1 h').symm)]
   ·have h:l=aS s:=by simpa using h
    rw [aC (hiff.2 h.symm)]
end
end Go.Gk
namespace Go.Gk
open Go Classical
theorem Ac (n:Nat) (g:Nat->Nat): ((List.range (n+1)).map g).sum= ((List.range n).map g).sum+g n:=by
 rw [List.range_succ,dN,List.sum_append];simp
def Lb (r:aI) (x y:Int):Bool:=(decide (r.X0<=x)&&decide (x<r.X1))&&(decide (r.Y0<=y)&&decide (y<r.Y1))
def K5 (a b:aI):Prop:=∀x y,¬(Lb a x y=true/\Lb b x y=true)
theorem H9 {r:aI} {x y:Int}:Lb r x y=true↔(r.X0<=x/\x<r.X1)/\r.Y0<=y/\y<r.Y1:=by unfold Lb;simp
theorem xq: ∀{xs:List Int},jm xs->(zD xs).Pairwise (fun p q=>p.2<q.1)
 | [],_=>jH
 | [a],_=>jH
 | a::b::l,h=>by
  unfold zD
  rw [nS]
  exact⟨fun q hq=>h.tail.head q.1 (BZ q hq).1,xq h.tail.tail⟩
def qC (a b:aI):Prop:=a.Y1<=b.Y0\/(a.Y0=b.Y0/\a.Y1=b.Y1/\a.X1<b.X0)
theorem qC.apart {a b:aI} (h:qC a b):K5 a b:=fun x y ⟨h1,h2⟩=>by
 rw [H9] at h1 h2
 rcases h with h | h <;> omega
theorem pT: ∀{s:List aA},eQ (s.map bY)->(aS s).Pairwise qC
 | [],_=>jH
 | b::s,h=>by
  rw [mu,mB]
  refine⟨?_,pT h.tail,fun x hx y hy=>?_⟩
  ·unfold mq
   rw [List.pairwise_map]
   exact List.Pairwise.imp (fun hpq=> .inr ⟨rfl,rfl,hpq⟩) (xq (h.each (bY b) (by simp)).2.2.1)
  ·unfold mq at hx
   obtain⟨p,_,rfl⟩:=dH.1 hx
   obtain⟨c,hc,q,_,rfl⟩:=p6 hy
   exact .inl (h.zy (bY c) (dH.2 ⟨c,hc,rfl⟩))
theorem su {s:List aA} (h:eQ (s.map bY)): ∀r∈aS s,r.X0<r.X1/\r.Y0<r.Y1:=fun r hr=>by
 obtain⟨b,hb,p,hp,rfl⟩:=p6 hr
 have hc:=h.each (bY b) (dH.2 ⟨b,hb,rfl⟩)
 exact⟨Ef hc.2.2.1 p hp,hc.1⟩
theorem DB {s:List aA} (h:eQ (s.map bY)): (aS s).Nodup:=by
 have h1:=pT h
 have h2:=su h
 refine List.Pairwise.imp_of_mem (fun{a b} ha hb hab e=>?_) h1
 subst e
 have:=h2 a ha
 rcases hab with h | h <;> omega
def pw (s:List Bd):Nat:=(s.map (fun b=>b.xs.length / 2)).sum
theorem uE (s t:List Bd):pw (s++t)=pw s+pw t:=by unfold pw;rw [dN,List.sum_append]
theorem FW (s:List Bd) (b:Bd):pw (jw s b)<=pw s+b.xs.length / 2:=by
 unfold jw
 split
 ·omega
 ·split
  ·rename_i c hc
   have hsp:=qs hc
   have e:pw s=pw s.dropLast+c.xs.length / 2:=by
    conv=>lhs;rw [hsp,uE]
    simp [pw]
   split
   ·rw [uE,e];simp [pw]
   ·rw [uE];simp [pw]
  ·simp [pw]
structure MH (t:List Bd):Prop where
 each: ∀b∈t,b.y0<b.y1/\jm b.xs/\b.xs.length % 2=0
 ord:t.Pairwise (fun b c=>b.y1<=c.y0)
theorem fold_push: ∀(t out:List Bd),MH t->eQ out->(∀c∈out,∀b∈t,c.y1<=b.y0)->eQ (t.foldl jw out)/\pw (t.foldl jw out)<=pw out+pw t/\
  ∀y,rowAt (t.foldl jw out) y=if (∃b∈t,b.y0<=y/\y<b.y1) then rowAt t y else rowAt out y
 | [],out,_,hc,_=>⟨hc,by simp [pw],fun y=>by simp⟩
 | b::t,out,hl,hc,ho=>by
  have hb:=hl.each b (by simp)
  have hord:=nS.1 hl.ord
  have ho1: ∀c∈out,c.y1<=b.y0:=fun c h=>ho c h b (by simp)
  have h1:=uN hc ho1 hb.2.1 hb.2.2
  have htop:=uO ho1 (show b.y0<=b.y1 by omega)
  obtain⟨f1,f2,f3⟩:=fold_push t (jw out b) ⟨fun c hcm=>hl.each c (gU _ hcm),hord.2⟩ h1 (fun c hcm d hd=>by have:=htop c hcm;have:=hord.1 d hd;omega)
  refine⟨f1,?_,fun y=>?_⟩
  ·have:=FW out b
   have e:pw (b::t)=b.xs.length / 2+pw t:=by simp [pw]
   rw [List.foldl_cons,e];omega
  ·rw [List.foldl_cons,f3 y,uM ho1 (fun c hcm=>(hc.each c hcm).1) (fun h=>absurd h (by omega)),mn]
   by_cases hy:b.y0<=y/\y<b.y1
   ·have hn: ¬∃c∈t,c.y0<=y/\y<c.y1:=fun⟨c,hcm,h⟩=>by have:=hord.1 c hcm;omega
    rw [aG hn,aC hy,aC ⟨b,by simp,hy⟩,aC hy]
   ·rw [aG hy]
    by_cases h: ∃c∈t,c.y0<=y/\y<c.y1
    ·obtain⟨c,hcm,h⟩:=h
     rw [aC ⟨c,hcm,h⟩,aC ⟨c,gU _ hcm,h⟩,aG hy]
    ·rw [aG h,aG hy,aG (show ¬∃c∈b::t,c.y0<=y/\y<c.y1 from fun⟨c,hcm,h2⟩=>by
      rcases dC.1 hcm with rfl | hcm
      ·exact hy h2
      ·exact h ⟨c,hcm,h2⟩)]
noncomputable def pC (C:List aI) (b:aA):Bd:=⟨b.Y0,b.Y1,dD ((zD b.Xs).filter (fun p=>decide ((⟨p.1,b.Y0,p.2,b.Y1⟩:aI)∈C)))⟩
theorem FX {l m:List (Int×Int)} (h:l.Sublist m): (dD l).Sublist (dD m):=by
 induction h with
 | slnil=>exact List.Sublist.refl _
 | cons a _ ih=>rw [i9];exact(ih.cons _).cons _
 | cons_cons a _ ih=>rw [i9,i9];exact(ih.cons_cons _).cons_cons _
theorem Ad (l:List (Int×Int)): (dD l).length % 2=0/\(dD l).length / 2=l.length:=by rw [jO];omega
theorem Bo {s p:List aA} {C:List aI} (hs:eQ (s.map bY)) (hp:eQ (p.map bY)) (hC: ∀r∈C,r∈aS s) (hcov: ∀x y,tO (p.map bY) x y=rX C x y): (aS p).length<=C.length:=by
 have hinc: ∀b∈s,jm (pC C b).xs:=fun b hb=>by
  have h1:=E2 hs b hb
  have h2:=FX (List.filter_sublist (l:=zD b.Xs) (p:=fun p=>decide ((⟨p.1,b.Y0,p.2,b.Y1⟩:aI)∈C)))
  rw [w7 (sd hs b hb)] at h2
  exact List.Pairwise.sublist h2 h1
 have hlow:MH (s.map (pC C)):=by
  refine⟨fun b hb=>?_,?_⟩
  ·obtain⟨c,hc,rfl⟩:=dH.1 hb
   exact⟨(hs.each (bY c) (dH.2 ⟨c,hc,rfl⟩)).1,hinc c hc,(Ad _).1⟩
  ·have:=hs.ord
   rw [List.pairwise_map] at this ⊢
   exact List.Pairwise.imp (fun h=>h.1) this
 obtain⟨f1,f2,f3⟩:=fold_push (s.map (pC C)) [] hlow eQ.nil (fun c hc=>by cases hc)
 have hrow: ∀{t:List aA},(∀b∈t,b∈s)->∀x y,ox (rowAt (t.map (pC C)) y) x=true->rX C x y=true:=by
  intro t ht x y h
  induction t with
  | nil=>cases h
  | cons b t ih=>
   rw [dX,mn] at h
   split at h
   ·rename_i hy
    have hbm:=ht b (by simp)
    have h1:=hinc b hbm
    have h:ox (dD ((zD b.Xs).filter (fun p=>decide ((⟨p.1,b.Y0,p.2,b.Y1⟩:aI)∈C)))) x=true:=h
    rw [rZ h1,rY] at h
    obtain⟨q,hq,h2⟩:=h
    have hq:=jr.1 hq
    exact iK.2 ⟨_,of_decide_eq_true hq.2,h2,hy⟩
   ·exact ih (fun c hc=>ht c (gU _ hc)) h
 have hrow2: ∀x y,rX C x y=true->ox (rowAt (s.map (pC C)) y) x=true:=by
  intro x y h
  obtain⟨r,hr,h1,h2⟩:=iK.1 h
  obtain⟨b,hb,q,hq,rfl⟩:=p6 (hC r hr)
  dsimp only at h1 h2
  have key: ∀{t:List aA},(∀c∈t,c∈s)->eQ (t.map bY)->b∈t->rowAt (t.map (pC C)) y= (pC C b).xs:=by
   intro t ht hc hbt
   induction t with
   | nil=>cases hbt
   | cons c t ih=>
    rw [dX,mn]
    by_cases hy:c.Y0<=y/\y<c.Y1
    ·rw [aC (show (pC C c).y0<=y/\y< (pC C c).y1 from hy)]
     rcases dC.1 hbt with rfl | hbt
     ·rfl
     ·have:=hc.zy (bY b) (dH.2 ⟨b,hbt,rfl⟩)
      have e1: (bY c).y1=c.Y1:=rfl
      have e2: (bY b).y0=b.Y0:=rfl
      omega
    ·rw [aG (show ¬((pC C c).y0<=y/\y< (pC C c).y1) from hy)]
     rcases dC.1 hbt with rfl | hbt
     ·exact absurd h2 hy
     ·exact ih (fun d hd=>ht d (gU _ hd)) hc.tail hbt
  rw [key (fun c hc=>hc) hs hb]
  have h1':=hinc b hb
  show ox (dD ((zD b.Xs).filter (fun p=>decide ((⟨p.1,b.Y0,p.2,b.Y1⟩:aI)∈C)))) x=true
  rw [rZ h1',rY]
  exact⟨q,jr.2 ⟨hq,bR hr⟩,h1⟩
 have hsame:p.map bY= (s.map (pC C)).foldl jw []:=sV hp f1 fun x y=>by
  rw [hcov,fc]
  have e:rowAt ((s.map (pC C)).foldl jw []) y=rowAt (s.map (pC C)) y:=by
   rw [f3]
   by_cases h: ∃b∈s.map (pC C),b.y0<=y/\y<b.y1
   ·rw [aC h]
   ·rw [aG h]
    exact(lq fun b hb=>by
     have: ¬(b.y0<=y/\y<b.y1):=fun h2=>h ⟨b,hb,h2⟩
     omega).symm
  unfold tO
  rw [e]
  exact⟨hrow2 x y,hrow (fun b hb=>hb) x y⟩
 have hc1: (aS p).length=pw (p.map bY):=by
  have: ∀p:List aA,(aS p).length=pw (p.map bY):=fun p=>by
   induction p with
   | nil=>rfl
   | cons b p ih=>rw [mu,cZ,mL,ih];unfold pw;rw [dX,dX,List.sum_cons];rfl
  exact this p
 have hc2: ∀s:List aA,pw (s.map (pC C))= ((aS s).filter (fun r=>decide (r∈C))).length:=fun s=>by
  induction s with
  | nil=>rfl
  | cons b s ih=>
   rw [mu,ki,cZ,<-ih]
   unfold pw
   rw [dX,dX,List.sum_cons]
   congr 1
   show (dD _).length / 2=_
   rw [(Ad _).2]
   unfold mq
   rw [List.filter_map,cV];rfl
 have hc3: ((aS s).filter (fun r=>decide (r∈C))).length<=C.length:=fD (List.Nodup.sublist List.filter_sublist (DB hs)) fun r hr=>of_decide_eq_true (jr.1 hr).2
 rw [hc1,hsame]
 have e0:pw ([]:List Bd)=0:=rfl
 have:=hc2 s
 omega
end Go.Gk
namespace Go.Gk
open Go Classical
section
variable {N:Nat}
theorem Ia (hN:16<=N):iM N=some true:=by
 have:=FL (N:=N - 16)
 rwa [show N - 16+16=N by omega] at this
theorem vA {all:List aI} (w:aI->Nat): ∀(c:List Nat),((c.filterMap (fun i=>all[i]?)).map w).sum= (c.map (fun i=>(all[i]?).elim 0 w)).sum
 | []=>rfl
 | i::c=>by
  rw [dX,List.sum_cons,<-vA w c]
  cases h:all[i]? with
  | none=>rw [List.filterMap_cons_none (f:=fun i=>all[i]?) h];simp
  | some x=>rw [List.filterMap_cons_some (f:=fun i=>all[i]?) h,dX,List.sum_cons];rfl
theorem Ib {all:List aI} {u:Nat->Nat} (h: ∀i,i<all.length->u i∈bK all.length u) (w:aI->Nat): ((bK all.length u).map (fun k=>((ng all all.length u k).map w).sum)).sum= (all.map w).sum:=by
 have e: (fun k=>((ng all all.length u k).map w).sum)=fun k=>(((List.range all.length).filter (fun x=>decide (u x=k))).map (fun i=>(all[i]?).elim 0 w)).sum:=by
  funext k;unfold ng;rw [vA];rfl
 rw [e,Dt (mw _ _) u _ (fun x hx=>h x (qO.1 hx))]
 have: ∀m,m<=all.length->((List.range m).map (fun i=>(all[i]?).elim 0 w)).sum= ((all.take m).map w).sum:=by
  intro m
  induction m with
  | zero=>intro _;rfl
  | succ m ih=>
   intro hm
   rw [Ac,ih (by omega),eF (by omega),dN,List.sum_append,aN (by omega)]
   simp
 rw [this _ (bT _),eO]
theorem Ae: ∀{l m:List Nat},l.length=m.length->(∀(j x y:Nat),l[j]? =some x->m[j]? =some y->x<=y)->l.sum<=m.sum
 | [],[],_,_=>bT _
 | [],_::_,h,_=>by simp at h
 | _::_,[],h,_=>by simp at h
 | a::l,b::m,h,hle=>by
  have h1:=hle 0 a b rfl rfl
  have h2:=Ae (l:=l) (m:=m) (by simpa using h) fun j x y hx hy=>hle (j+1) x y (by simpa using hx) (by simpa using hy)
  rw [List.sum_cons,List.sum_cons];omega
theorem E9 {r hs:List aI} {s:List aA} (h1: ∀x∈r,fj x=true) (h2: ∀x∈hs,fj x=true) (hc:eQ (s.map bY)) (hl:v9 (r6 r++r6 hs) (je r++je hs) (s.map bY)): ∀q∈aS s,fj q=true/\q.X0<q.X1/\q.Y0<q.Y1:=by
 intro q hq
 have hp:=su hc q hq
 obtain⟨b,hb,p,hpm,rfl⟩:=p6 hq
 have hll:=hl (bY b) (dH.2 ⟨b,hb,rfl⟩)
 have hm:=BZ p hpm
 have bx: ∀c∈r6 r++r6 hs,-1000000<=c/\c<=1000000:=fun c hcm=>by
  rcases dA.1 hcm with h | h
  ·obtain⟨x,hx,h⟩:=r7.1 h
   have:=my (h1 x hx)
   rcases h with rfl | rfl <;> omega
  ·obtain⟨x,hx,h⟩:=r7.1 h
   have:=my (h2 x hx)
   rcases h with rfl | rfl <;> omega
 have by': ∀c∈je r++je hs,-1000000<=c/\c<=1000000:=fun c hcm=>by
  rcases dA.1 hcm with h | h
  ·obtain⟨x,hx,h⟩:=kY.1 h
   have:=my (h1 x hx)
   rcases h with rfl | rfl <;> omega
  ·obtain⟨x,hx,h⟩:=kY.1 h
   have:=my (h2 x hx)
   rcases h with rfl | rfl <;> omega
 have g1:=bx _ (hll.2.2 p.1 hm.1)
 have g2:=bx _ (hll.2.2 p.2 hm.2)
 have g3:=by' _ hll.1
 have g4:=by' _ hll.2.1
 exact⟨zR ⟨g1,g3,g2,g4⟩,hp⟩
structure px (r hs:List aI) (s:List aA) (u:Nat->Nat) (ps:List (List aA)):Prop where
 r1: ∀x∈r,fj x=true
 r2: ∀x∈hs,fj x=true
 k1: ∀x∈r,Ar x
 k2: ∀x∈hs,Ar x
 dr:sY r hs s
 pt:qW s u ps
 yP: (aS s).length<=2000
theorem px.part {r hs:List aI} {s:List aA} {u:Nat->Nat} {ps:List (List aA)} (h:px r hs s u ps) {p:List aA} (hp:p∈ps):eQ (p.map bY)/\(aS p).length<=2000/\∀q∈aS p,fj q=true/\q.X0<q.X1/\q.Y0<q.Y1:=by
 obtain⟨sx,sy⟩:=h.dr.small h.k1 h.k2
 obtain⟨j,k,g1,g2,g3,g4⟩:=zW h.pt h.dr.can h.dr.lim sx sy hp
 have:=Bo h.dr.can g3.can (fun x hx=>by
  obtain⟨i,_,_,hi⟩:=lA.1 hx
  exact eU hi) g3.cover
 have h2:=zN (aS s) (aS s).length u k
 have:=h.yP
 exact⟨g3.can,by omega,E9 h.r1 h.r2 g3.can g4⟩
theorem px.bK {r hs:List aI} {s:List aA} {u:Nat->Nat} {ps:List (List aA)} (h:px r hs s u ps): ∀i,i< (aS s).length->u i∈Gk.bK (aS s).length u:=fun i hi=>ja.2 ⟨by have:=h.pt.join.le i hi;omega,h.pt.join.rr i hi⟩
theorem px.total {r hs:List aI} {s:List aA} {u:Nat->Nat} {ps:List (List aA)} (h:px r hs s u ps): (ps.map (fun p=>(aS p).length)).sum<=(aS s).length:=by
 have h1:=Ib h.bK (fun _=>1)
 have one: ∀l:List aI,(l.map (fun _=>1)).sum=l.length:=fun l=>by
  induction l with
  | nil=>rfl
  | cons x l ih=>simp only [dX,List.sum_cons,ih,dP];omega
 simp only [one] at h1
 rw [<-h1]
 refine Ae (by simp [h.pt.len]) fun j x y hx hy=>?_
 rw [gr,qN] at hx hy
 obtain⟨p,hp,rfl⟩:=hx
 obtain⟨k,hk,rfl⟩:=hy
 have hs:=h.pt.each j k p hk hp
 exact Bo h.dr.can hs.can (fun x hx=>by
  obtain⟨i,_,_,hi⟩:=lA.1 hx
  exact eU hi) hs.cover
theorem yy {ps:List (List aA)} {x y:Int}:rX (ps.flatMap aS) x y=true↔∃p∈ps,rX (aS p) x y=true:=by
 rw [iK]
 constructor
 ·rintro⟨r,hr,h⟩
  obtain⟨p,hp,hrp⟩:=List.mem_flatMap.1 hr
  exact⟨p,hp,iK.2 ⟨r,hrp,h⟩⟩
 ·rintro⟨p,hp,h⟩
  obtain⟨r,hr,h⟩:=iK.1 h
  exact⟨r,List.mem_flatMap.2 ⟨p,hp,hr⟩,h⟩
theorem px.cover {r hs:List aI} {s:List aA} {u:Nat->Nat} {ps:List (List aA)} (h:px r hs s u ps) (x y:Int):rX (ps.flatMap aS) x y=tO (s.map bY) x y:=by
 rw [<-oG h.dr.can,fc,yy]
 constructor
 ·rintro⟨p,hp,hc⟩
  obtain⟨j,hj⟩:=dS hp
  have hjl:=(bA.1 hj).1
  have hk: (Gk.bK (aS s).length u)[j]? =some ((Gk.bK (aS s).length u)[j]'(by rw [<-h.pt.len];exact hjl)):=aN _
  have hs:=h.pt.each j _ _ hk hj
  rw [oG hs.can,hs.cover] at hc
  obtain⟨q,hq,h2⟩:=iK.1 hc
  obtain⟨i,_,_,hi⟩:=lA.1 hq
  exact iK.2 ⟨q,eU hi,h2⟩
 ·intro hc
  obtain⟨q,hq,h2⟩:=iK.1 hc
  obtain⟨i,hi⟩:=dS hq
  have hil:=(bA.1 hi).1
  obtain⟨j,hj⟩:=dS (h.bK i hil)
  have hjl:j<ps.length:=by rw [h.pt.len];exact(bA.1 hj).1
  have hs:=h.pt.each j _ _ hj (aN hjl)
  refine⟨_,cM hjl,?_⟩
  rw [oG hs.can,hs.cover]
  exact iK.2 ⟨q,lA.2 ⟨i,hil,rfl,hi⟩,h2⟩
theorem Af {l:List aI} (hl:l.length<=1073741824) (hN:4398046511104<=N):eX N l l=some true:=by
 refine Ok.get ?_
 unfold eX
 rw [show (((l.length:Nat):Int) != ((l.length:Nat):Int))=false by simp,aR]
 refine Ok.bind (Ok.jz (Go:=fun _=>True) (Rt:=fun _=>False) (fun s=>∃k:Nat,s= ((k:Nat):Int)) (fun s=>l.length - s.toNat) ?_ ⟨0,rfl⟩ (by simp;omega)) (fun o ho=>Ok.cs ho (fun _ _=>Ok.ret rfl) (fun r hr=>hr.elim))
 rintro s ⟨k,rfl⟩
 refine Ok.bif (fun h=>?_) (fun _=>Ok.br trivial)
 have hk:k<l.length:=by have:=of_decide_eq_true h;omega
 refine Ok.idx hk (Ok.idx hk ?_)
 rw [show (!decide (l[k]=l[k]))=false by simp,aR,bP (by omega)]
 exact Ok.nx ⟨⟨k+1,rfl⟩,by simp only [cH];omega⟩
section
variable {a:ld} {mY:List (List aA)} {gI:List (List (List aA))} {r:Nat->Nat} {gs:List cO} {ofP ofB wc:List Int} {we:List j9}
theorem yz (b:rz a mY gI r gs ofP ofB wc we) {i:Nat} (hi:i<a.aJ.length): ∃s ps u,mY[i]? =some s/\gI[i]? =some ps/\px a.aJ[i] (jL a.aO ((i:Nat):Int)) s u ps:=by
 have hd:mY[i]? =some (mY[i]'(by rw [b.dr.len];exact hi)):=aN _
 have hp:gI[i]? =some (gI[i]'(by rw [b.dr.yO];exact hi)):=aN _
 have hdr:=b.dr.dr i _ _ hi (aN hi) hd
 obtain⟨u,hu⟩:=b.dr.pt i _ _ hi hd hp
 have hreg:=uB.1 (b.z5.MA _ (cM hi))
 exact⟨_,_,u,hd,hp,fun x hx=>((oI.1 hreg.1).2 x hx).1,fun x hx=>(qx b.z5.gb _ x hx).2,(zT hreg.1).2,fun x hx=>(qx b.z5.gb _ x hx).1,hdr,hu,b.yP.1 _ (eU hd)⟩
end
end
end Go.Gk
namespace Go.Gk
open Go Classical
def Ag (a b:aI):Prop:=(0<min a.X1 b.X1 - max a.X0 b.X0/\0<=min a.Y1 b.Y1 - max a.Y0 b.Y0)\/(0<=min a.X1 b.X1 - max a.X0 b.X0/\0<min a.Y1 b.Y1 - max a.Y0 b.Y0)
theorem FY {all:List aI} (hB:all.Pairwise qC) (hp: ∀r∈all,r.X0<r.X1/\r.Y0<r.Y1) {i j:Nat} {a c:aI} (ha:all[i]? =some a) (hc:all[j]? =some c):Ag a c↔i=j\/xv all i j\/xv all j i:=by
 have h1:xv all i j↔B3 a c:=⟨fun⟨a',c',e1,e2,h⟩=>by rw [ha] at e1;rw [hc] at e2;injection e1 with e1;injection e2 with e2;rw [e1,e2];exact h,fun h=>⟨a,c,ha,hc,h⟩⟩
 have h2:xv all j i↔B3 c a:=⟨fun⟨a',c',e1,e2,h⟩=>by rw [hc] at e1;rw [ha] at e2;injection e1 with e1;injection e2 with e2;rw [e1,e2];exact h,fun h=>⟨c,a,hc,ha,h⟩⟩
 have p1:=hp a (eU ha)
 have p2:=hp c (eU hc)
 rw [h1,h2]
 obtain⟨l1,e1⟩:=bA.1 ha
 obtain⟨l2,e2⟩:=bA.1 hc
 unfold Ag B3
 rcases Nat.lt_trichotomy i j with h | h | h
 ·have:=mC.1 hB i j l1 l2 h
  rw [e1,e2] at this
  unfold qC at this
  rcases this with this | this
  ·constructor
   ·rintro(h3 | h3)
    ·exact .inr (.inl ⟨by omega,by omega,by omega⟩)
    ·omega
   ·rintro(h3 | h3 | h3)
    ·omega
    ·left;omega
    ·omega
  ·constructor
   ·rintro(h3 | h3) <;> omega
   ·rintro(h3 | h3 | h3) <;> omega
 ·subst h
  rw [ha] at hc;injection hc with hc;subst hc
  exact⟨fun _=> .inl rfl,fun _=> .inl (by omega)⟩
 ·have:=mC.1 hB j i l2 l1 h
  rw [e1,e2] at this
  unfold qC at this
  rcases this with this | this
  ·constructor
   ·rintro(h3 | h3)
    ·exact .inr (.inr ⟨by omega,by omega,by omega⟩)
    ·omega
   ·rintro(h3 | h3 | h3)
    ·omega
    ·omega
    ·left;omega
  ·constructor
   ·rintro(h3 | h3) <;> omega
   ·rintro(h3 | h3 | h3) <;> omega
theorem yb {α:Type} {q q':List α} (h:q <+:q') {t:Nat} {x:α} (hx:q[t]? =some x):q'[t]? =some x:=by
 obtain⟨r,rfl⟩:=h
 rw [gq (bA.1 hx).1];exact hx
def tf (f:Int->Int->Bool) (x y:Int):Prop:=f x y=true/\∀x' y',f x' y'=true->y<y'\/(y=y'/\x<=x')
theorem tf.unique {f:Int->Int->Bool} {x y x' y':Int} (h:tf f x y) (h':tf f x' y'):x=x'/\y=y':=by
 have h1:=h.2 _ _ h'.1
 have h2:=h'.2 _ _ h.1
 omega
theorem Ew {a:aI} {l:List aI} (hp: ∀r∈a::l,r.X0<r.X1/\r.Y0<r.Y1) (hB: ∀r∈l,qC a r):tf (rX (a::l)) a.X0 a.Y0:=by
 have pa:=hp a (by simp)
 refine⟨iK.2 ⟨a,by simp,by omega,by omega⟩,fun x' y' h=>?_⟩
 obtain⟨r,hr,hx,hy⟩:=iK.1 h
 rcases dC.1 hr with rfl | hr
 ·omega
 ·have:=hB r hr
  unfold qC at this
  omega
theorem Ex {s:List aA} (hc:eQ (s.map bY)) (hne:s≠[]): ∃r t,aS s=r::t/\tf (fun x y=>tO (s.map bY) x y) r.X0 r.Y0/\E6 s= ⟨r.X0,r.Y0⟩:=by
 cases s with
 | nil=>exact absurd rfl hne
 | cons b s=>
  have hx:=hc.each (bY b) (by simp)
  have hxs:b.Xs≠[]:=hx.2.1
  have he:b.Xs.length % 2=0:=hx.2.2.2
  obtain⟨x0,x1,xs,e⟩: ∃x0 x1 xs,b.Xs=x0::x1::xs:=by
   match hb:b.Xs with
   | []=>exact absurd hb hxs
   | [x0]=>rw [hb] at he;simp at he
   | x0::x1::xs=>exact⟨x0,x1,xs,rfl⟩
  have hr:aS (b::s)= ⟨x0,b.Y0,x1,b.Y1⟩::((zD xs).map (fun p=>(⟨p.1,b.Y0,p.2,b.Y1⟩:aI))++aS s):=by
   rw [mu]
   unfold mq
   rw [e];rfl
  have hB:=pT hc
  have hpos:=su hc
  rw [hr] at hB hpos
  refine⟨_,_,hr,?_,by unfold E6;dsimp only;rw [e];rfl⟩
  have:=Ew hpos (nS.1 hB).1
  rw [<-hr] at this
  refine⟨?_,fun x' y' h=>this.2 x' y' ?_⟩
  ·show tO _ _ _=true
   rw [<-oG hc];exact this.1
  ·rw [oG hc];exact h
theorem Bp {all:List aI} {u:Nat->Nat} (hB:all.Pairwise qC) (hp: ∀r∈all,r.X0<r.X1/\r.Y0<r.Y1) (hJ:Joined all u) {h:Nat} {a:aI} (ha:all[h]? =some a) (hu:u h=h):tf (rX (ng all all.length u h)) a.X0 a.Y0:=by
 obtain⟨hl,e⟩:=bA.1 ha
 have pa:=hp a (eU ha)
 refine⟨iK.2 ⟨a,lA.2 ⟨h,hl,hu,ha⟩,by omega,by omega⟩,fun x' y' hc=>?_⟩
 obtain⟨r,hr,hx,hy⟩:=iK.1 hc
 obtain⟨k,hk,huk,hrk⟩:=lA.1 hr
 have hle:=hJ.le k hk
 by_cases ek:k=h
 ·subst ek;rw [ha] at hrk;injection hrk with hrk;subst hrk;omega
 ·obtain⟨hl2,e2⟩:=bA.1 hrk
  have:=mC.1 hB h k hl hl2 (by omega)
  rw [e,e2] at this
  unfold qC at this
  omega
theorem tg {u:Nat->Nat}: ∀(d i:Nat),∃t,bK (i+d) u=bK i u++t
 | 0,i=>⟨[],by simp⟩
 | d+1,i=>by
  obtain⟨t,ht⟩:=tg (u:=u) d i
  rw [<-Nat.add_assoc,gm,ht]
  split
  ·exact⟨t++[i+d],by simp⟩
  ·exact⟨t,rfl⟩
theorem Hn {u:Nat->Nat} {i n:Nat} (hi:i<n) (hu:u i=i): (bK n u)[(bK i u).length]? =some i:=by
 obtain⟨t,ht⟩:=tg (u:=u) (n - (i+1)) (i+1)
 rw [show i+1+ (n - (i+1))=n by omega] at ht
 rw [ht,gm,aC hu]
 simp
section
variable {N:Nat}
theorem FZ {a b:aI} (ha:Ar a) (hb:Ar b):iL N a b=some (decide (Ag a b)):=by
 have a1:=ha.s1;have a2:=ha.s2;have a3:=ha.s3;have a4:=ha.s4
 have b1:=hb.s1;have b2:=hb.s2;have b3:=hb.s3;have b4:=hb.s4
 unfold small at a1 a2 a3 a4 b1 b2 b3 b4
 unfold iL
 rw [s9,s9,tc,tc,eT (x:=min a.X1 b.X1 - max a.X0 b.X0) (by omega) (by omega),eT (x:=min a.Y1 b.Y1 - max a.Y0 b.Y0) (by omega) (by omega)]
 congr 1
 rw [fc]
 unfold Ag
 simp only [dK,bW,bQ,gt_iff_lt,ge_iff_le]
theorem insert_eq {l:List (List aI)} {r0:aI} {t:List aI} (hl:l.length<=1000000) (hN:4398046511104<=N) (h: ∀x,l[l.length - 1]? =some x->∃x0 t',x=x0::t'/\¬(r0.Y0<x0.Y0\/(r0.Y0=x0.Y0/\r0.X0<x0.X0))):jl N l (r0::t)=some (l++[r0::t]):=by
 refine Ok.get ?_
 unfold jl
 refine Ok.bind (Ok.jz (Go:=fun s=>s= ((l.length:Nat):Int)) (Rt:=fun _=>False) (fun s=>s= ((l.length:Nat):Int)) (fun s=>0) ?_ rfl (by omega)) ?_
 ·rintro s rfl
  by_cases h0:l.length=0
  ·rw [cC (by omega),aR,aB,aR];exact Ok.br rfl
  ·rw [bR (by omega),aP,i5 (by omega) (by omega)]
   have hx:l[l.length - 1]? =some (l[l.length - 1]'(by omega)):=aN _
   obtain⟨x0,t',e,hn⟩:=h _ hx
   have i1:idx (r0::t) 0=some r0:=rfl
   have i2:idx (l[l.length - 1]'(by omega)) 0=some x0:=by rw [e];rfl
   rw [i1,aB,dU hx,aB,i2,aB]
   unfold il
   rw [aB,aB,show ((decide (r0.Y0<x0.Y0))||((r0.Y0==x0.Y0)&&(decide (r0.X0<x0.X0))))=false by
    rw [<-jI,dK,bW,bQ,bQ,beq_iff_eq];exact hn,aR]
   exact Ok.br rfl
 intro o ho
 refine Ok.cs ho ?_ (fun r hr=>hr.elim)
 rintro s rfl
 refine Ok.eq (qf l l.length (bT _)) (Ok.app ?_ (Ok.app ?_ (Ok.eq (oR l l.length (bT _)) (Ok.app ?_ (Ok.ret ?_)))))
 ·rw [eO];simp only [List.length_nil];omega
 ·rw [eO];simp only [List.length_nil,cZ,dP];omega
 ·rw [eO,List.drop_length];simp only [List.length_nil,cZ,dP];omega
 ·simp
structure BI (all:List aI) (u:Nat->Nat) (i:Nat) (q:List Nat) (done:List Bool) (own:List aI):Prop where
 len:done.length=all.length
 nd:q.Nodup
 lt: ∀k∈q,k<all.length/\u k=i
 hd:i∈q
 dn: ∀k,k<all.length->done[k]? =some (decide (u k<i\/k∈q))
 ow:own.map some=q.map (fun k=>all[k]?)
theorem BI.K6 {all:List aI} {u:Nat->Nat} {i:Nat} {q:List Nat} {done:List Bool} {own:List aI} (h:BI all u i q done own):own.length=q.length:=by
 have:=congrArg List.length h.ow
 rwa [cV,cV] at this
theorem BI.yP {all:List aI} {u:Nat->Nat} {i:Nat} {q:List Nat} {done:List Bool} {own:List aI} (h:BI all u i q done own):q.length<=all.length:=by
 have:=fD h.nd (m:=List.range all.length) (fun k hk=>by rw [qO];exact(h.lt k hk).1)
 rwa [List.length_range] at this
theorem BI.at_ {all:List aI} {u:Nat->Nat} {i:Nat} {q:List Nat} {done:List Bool} {own:List aI} (h:BI all u i q done own) {p k:Nat} (hk:q[p]? =some k):own[p]? =all[k]? :=by
 have e:=congrArg (fun l=>l[p]?) h.ow
 simp only [gr,hk,Option.map_some] at e
 cases ho:own[p]? with
 | none=>rw [ho] at e;cases e
 | some x=>rw [ho] at e;injection e
theorem BI.mem {all:List aI} {u:Nat->Nat} {i:Nat} {q:List Nat} {done:List Bool} {own:List aI} (h:BI all u i q done own) {r:aI}:r∈own↔∃k∈q,all[k]? =some r:=by
 have:r∈own↔some r∈own.map some:=by simp
 rw [this,h.ow,dH]
theorem DC {s:List aA} {u:Nat->Nat} {ps:List (List aA)} (hc:eQ (s.map bY)) (hP:qW s u ps) (hn: (aS s).length<=2000) (hok: ∀r∈aS s,Ar r) (hps: ∀p∈ps,(aS p).length<=2000) (hN:4398046511104<=N):
  fw N (aS s)=some (ps.map aS):=by
 refine Ok.get ?_
 have hB:=pT hc
 have hpos:=su hc
 have hJ:=hP.join
 have hlen:=hP.len
 have heach:=hP.each
 clear hP hc
 generalize aS s=all at *
 unfold fw
 refine Ok.eq (qT false (by omega)) ?_
 have hadj: ∀a b,(xv all a b\/xv all b a)->u a=u b:=fun a b h=>h.elim (fun h=>hJ.co a b h) (fun h=>(hJ.co b a h).symm)
 refine Ok.bind (Ok.pq (n:=all.length) (fun st=>st.2.2) (fun i st=>st.1.length=all.length/\(∀k,k<all.length->st.1[k]? =some (decide (u k<i)))/\st.2.1= (ps.take (bK i u).length).map aS) (Go:=fun st=>st.2.1=ps.map aS) (Rt:=fun _=>False) ?_ ?_ (dM _) rfl
  ⟨by simp,fun k hk=>by simp [hk],by simp [bK]⟩ (by omega)) ?_
 ·rintro i ⟨done,out,ii⟩ hi e ⟨hdl,hdn,hout⟩
  dsimp only at e hdl hdn hout ⊢
  subst e
  rw [kE hi,aP]
  refine Ok.ix (hdn i hi) (Ok.bif (fun hb=>?_) (fun hb=>?_))
  ·have hlt:u i<i:=of_decide_eq_true hb
   refine Ok.nx ⟨bP (by omega),hdl,fun k hk=>?_,?_⟩
   ·rw [hdn k hk]
    congr 1
    rw [decide_eq_decide]
    have hne:u k≠i:=fun e=>by have:=hJ.rr k hk;rw [e] at this;omega
    omega
   ·rw [gm,aG (by omega)];exact hout
  ·have hge: ¬u i<i:=of_decide_eq_false hb
   have hui:u i=i:=by have:=hJ.le i hi;omega
   have hx:all[i]? =some all[i]:=aN hi
   refine Ok.ix (hdn i hi) (Ok.ix hx ?_)
   refine Ok.bind (Ok.jz (Go:=fun st=>st.1.length=all.length/\(∀k,k<all.length->st.1[k]? =some (decide (u k<i+1)))/\(∀r,r∈st.2.1↔r∈ng all all.length u i)/\st.2.1.length<=all.length) (Rt:=fun _=>False)
    (fun st=>∃(q:List Nat) (t:Nat),st.2.2= ((t:Nat):Int)/\t<=q.length/\BI all u i q st.1 st.2.1/\∀(p k j:Nat),p<t->q[p]? =some k->j<all.length->(xv all k j\/xv all j k)->j∈q)
    (fun st=>all.length+1 - st.2.2.toNat) ?_ ⟨[i],0,rfl,by simp,?_,fun p k j hp=>by omega⟩ (by simp;omega)) ?_
   ·rintro⟨d1,o1,t'⟩ ⟨q,t,e,ht,hI,hcl⟩
    dsimp only at e hI ⊢
    subst e
    have hql:=hI.yP
    have hol:=hI.K6
    by_cases hlt:t<q.length
    ·rw [kE (by omega:t<o1.length),aP]
     have hqt:q[t]? =some q[t]:=aN hlt
     have hkt:=hI.lt _ (cM hlt)
     have hya:all[q[t]]? =some all[q[t]]:=aN hkt.1
     refine Ok.bind (Ok.pq (n:=all.length) (fun st=>st.2.2) (fun j st=>∃q',q <+:q'/\BI all u i q' st.1 st.2.1/\∀j',j'<j->(xv all q[t] j'\/xv all j' q[t])->j'∈q')
      (Go:=fun st=>∃q',q <+:q'/\BI all u i q' st.1 st.2.1/\∀j',j'<all.length->(xv all q[t] j'\/xv all j' q[t])->j'∈q') (Rt:=fun _=>False) ?_ ?_ (dM _) rfl ⟨q,List.prefix_refl _,hI,fun j' hj=>by omega⟩ (by omega)) ?_
     ·rintro j ⟨d2,o2,jj⟩ hj e ⟨q',hpre,hI',hc'⟩
      dsimp only at e hI' ⊢
      subst e
      rw [kE hj,aP]
      have hq't:q'[t]? =some q[t]:=by rw [yb hpre hqt]
      have hy2:o2[t]? =some all[q[t]]:=by rw [hI'.at_ hq't];exact hya
      have hz:all[j]? =some all[j]:=aN hj
      have htc:=FY hB hpos hya hz
      have hcond: ((idx d2 ((j:Nat):Int)).bind fun x1054=>bif (!x1054) then ((idx o2 ((t:Nat):Int)).bind fun x1056=>(idx all ((j:Nat):Int)).bind fun x1058=>(iL N x1056 x1058).bind fun x1061=>some x1061) else (some false))=some (!decide (u j<i\/j∈q')&&decide (Ag all[q[t]] all[j])):=by
       rw [dU (hI'.dn j hj),aB]
       cases decide (u j<i\/j∈q') with
       | true=>rfl
       | false=>rw [nU,aP,dU hy2,aB,dU hz,aB,FZ (hok _ (cM hkt.1)) (hok _ (cM hj)),aB,Bool.true_and]
      refine Ok.eq hcond ?_
      refine Ok.bind (P:=fun st:List Bool×List aI=>∃q',q <+:q'/\BI all u i q' st.1 st.2/\∀j',j'<j+1->(xv all q[t] j'\/xv all j' q[t])->j'∈q') (Ok.bif (fun hb=>?_) (fun hb=>?_)) (fun st hst=>Ok.nx ⟨bP (by omega),hst⟩)
      ·rw [bW,Bool.not_eq_true',decide_eq_false_iff_not,bQ] at hb
       have hju:u j=i:=by
        rcases htc.1 hb.2 with h | h
        ·rw [<-h];exact hkt.2
        ·rw [<-hadj _ _ h];exact hkt.2
       have hjq:j∉q':=fun h=>hb.1 (.inr h)
       have hol2:=hI'.K6
       have hql2:=hI'.yP
       refine Ok.ix (hI'.dn j hj) (Ok.ix hz (Ok.app (by simp only [dP,List.length_nil];omega) (Ok.ret ⟨q'++[j],hpre.trans (List.prefix_append _ _),⟨?_,?_,?_,?_,?_,?_⟩,?_⟩)))
       ·rw [iQ];exact hI'.len
       ·rw [List.nodup_append]
        exact⟨hI'.nd,by simp,fun a ha b hb=>by simp at hb;subst hb;exact fun e=>hjq (e▸ha)⟩
       ·intro k hk
        rcases dA.1 hk with hk | hk
        ·exact hI'.lt k hk
        ·simp at hk;subst hk;exact⟨hj,hju⟩
       ·exact List.mem_append_left _ hI'.hd
       ·intro k hk
        rw [cH,fe]
        by_cases e:j=k
        ·subst e
         rw [aC rfl,aC (by rw [hI'.len];exact hj)]
         congr 1
         exact(bR (.inr (by simp))).symm
        ·rw [aG e,hI'.dn k hk]
         congr 1
         rw [decide_eq_decide,dA]
         simp only [qP]
         constructor
         ·exact fun h=>h.elim .inl (fun h=> .inr (.inl h))
         ·exact fun h=>h.elim .inl (fun h=>h.elim .inr (fun h=>absurd h.symm e))
       ·rw [dN,dN,hI'.ow];simp [hz]
       ·intro j' hj' ha
        by_cases e:j'=j
        ·subst e;simp
        ·exact List.mem_append_left _ (hc' j' (by omega) ha)
      ·refine Ok.ret ⟨q',hpre,hI',fun j' hj' ha=>?_⟩
       by_cases e:j'=j
       ·subst e
        have hj2:u j'=i:=by rw [<-hadj _ _ ha];exact hkt.2
        rw [bR (htc.2 (.inr ha)),Bool.and_true,Bool.not_eq_false',bQ] at hb
        rcases hb with hb | hb
        ·omega
        ·exact hb
       ·exact hc' j' (by omega) ha
     ·rintro⟨d2,o2,jj⟩ e hI2
      dsimp only at e hI2 ⊢
      subst e
      rw [mX,aR]
      exact Ok.br hI2
     intro o ho
     refine Ok.cs ho ?_ (fun r hr=>hr.elim)
     rintro⟨d2,o2,jj⟩ ⟨q',hpre,hI',hc'⟩
     dsimp only at hI' ⊢
     refine Ok.nx ⟨⟨q',t+1,bP (by omega),?_,hI',fun p k j hp hk hj ha=>?_⟩,?_⟩
     ·have:=hpre.length_le;omega
     ·by_cases e:p=t
      ·subst e
       rw [yb hpre hqt] at hk;injection hk with hk;subst hk
       exact hc' j hj ha
      ·have hpq:q[p]? =some (q[p]'(by omega)):=aN _
       rw [yb hpre hpq] at hk;injection hk with hk;subst hk
       exact hpre.subset (hcl p _ j (by omega) hpq hj ha)
     ·rw [bP (by omega)];simp only [cH];omega
    ·rw [xn (by omega:o1.length<=t),aR]
     have htq:t=q.length:=by omega
     have hcls: ∀k,k<all.length->(k∈q↔u k=i):=fun k hk=>⟨fun h=>(hI.lt k h).2,fun h=>by
      have hstep: ∀a b,xv all a b->(a∈q↔b∈q):=fun a b hab=>by
       have hab':=hab
       obtain⟨ra,rb,e1,e2,_⟩:=hab'
       have hla:=(bA.1 e1).1
       have hlb:=(bA.1 e2).1
       constructor
       ·intro h'
        obtain⟨p,hp⟩:=dS h'
        exact hcl p a b (by rw [htq];exact(bA.1 hp).1) hp hlb (.inl hab)
       ·intro h'
        obtain⟨p,hp⟩:=dS h'
        exact hcl p b a (by rw [htq];exact(bA.1 hp).1) hp hla (.inr hab)
      exact hJ.fi (fun k=>k∈q) hstep i k hi hk (by rw [hui,h]) hI.hd⟩
     refine Ok.br ⟨hI.len,fun k hk=>?_,fun r=>?_,by rw [hol];exact hql⟩
     ·rw [hI.dn k hk]
      congr 1
      rw [decide_eq_decide,hcls k hk];omega
     ·rw [hI.mem,lA]
      constructor
      ·rintro⟨k,hk,h⟩
       exact⟨k,(hI.lt k hk).1,(hI.lt k hk).2,h⟩
      ·rintro⟨k,hk,h1,h2⟩
       exact⟨k,(hcls k hk).2 h1,h2⟩
   ·refine⟨by rw [iQ];exact hdl,by simp,fun k hk=>by simp at hk;subst hk;exact⟨hi,hui⟩,by simp,fun k hk=>?_,by simp [hx]⟩
    rw [cH,fe]
    by_cases e:i=k
    ·subst e
     rw [aC rfl,aC (by rw [hdl];exact hi)]
     congr 1
     exact(bR (.inr (by simp))).symm
    ·rw [aG e,hdn k hk]
     congr 1
     rw [decide_eq_decide]
     simp only [qP]
     omega
   intro o ho
   refine Ok.cs ho ?_ (fun r hr=>hr.elim)
   rintro⟨d1,o1,t'⟩ ⟨g1,g2,g3,g4⟩
   dsimp only at g1 g2 g3 g4 ⊢
   have hh:=Hn hi hui
   have hml: (bK i u).length<ps.length:=by rw [hlen];exact(bA.1 hh).1
   have hpp:ps[(bK i u).length]? =some ps[(bK i u).length]:=aN hml
   have mD:=heach _ _ _ hh hpp
   have hcov: ∀x y,tO (ps[(bK i u).length].map bY) x y=rX o1 x y:=fun x y=>by rw [mD.cover];exact(HZ g3 x y).symm
   have hpl:=hps _ (cM hml)
   refine Ok.eq (te mD.can hcov (by omega) (fun r hr=>?_) (by omega) hN) ?_
   ·obtain⟨k,_,_,hk⟩:=lA.1 ((g3 r).1 hr)
    exact(hpos r (eU hk)).1
   have hfirst: ∀(j h:Nat) p,(bK all.length u)[j]? =some h->ps[j]? =some p->∃r t a,aS p=r::t/\all[h]? =some a/\r.X0=a.X0/\r.Y0=a.Y0:=fun j h p hj hp=>by
    have hs:=heach j h p hj hp
    obtain⟨hhl,hhu⟩:=ja.1 (eU hj)
    have ha:all[h]? =some all[h]:=aN hhl
    have hne:p≠[]:=fun e=>by
     have hL:=(Bp hB hpos hJ ha hhu).1
     rw [<-hs.cover,e] at hL
     cases hL
    obtain⟨r,t,e1,e2,_⟩:=Ex hs.can hne
    have e2':tf (rX (ng all all.length u h)) r.X0 r.Y0:=⟨by rw [<-hs.cover];exact e2.1,fun x' y' hxy=>e2.2 x' y' (by simp only;rw [hs.cover];exact hxy)⟩
    obtain⟨e3,e4⟩:=e2'.unique (Bp hB hpos hJ ha hhu)
    exact⟨r,t,all[h],e1,ha,e3,e4⟩
   obtain⟨r,t,a,e1,e2,e3,e4⟩:=hfirst _ _ _ hh hpp
   have hheads: (bK i u).length<=i:=kZ i u
   rw [e1]
   refine Ok.eq (insert_eq (by rw [hout,cV,cL];omega) hN (fun x hxl=>?_)) (Ok.nx ⟨bP (by omega),g1,g2,?_⟩)
   ·have hol:out.length= (bK i u).length:=by rw [hout,cV,cL];omega
    have hpos2:0< (bK i u).length:=by
     have:=(bA.1 hxl).1;omega
    rw [hout,gr,cV,cL,show min (bK i u).length ps.length= (bK i u).length by omega,List.getElem?_take_of_lt (by omega)] at hxl
    have hp2:ps[(bK i u).length - 1]? =some (ps[(bK i u).length - 1]'(by omega)):=aN _
    rw [hp2] at hxl
    injection hxl with hxl
    have hh2: (bK i u)[(bK i u).length - 1]? =some ((bK i u)[(bK i u).length - 1]'(by omega)):=aN _
    have hm2:=ja.1 (eU hh2)
    obtain⟨tl,htl⟩:=tg (u:=u) (all.length - i) i
    rw [show i+ (all.length - i)=all.length by omega] at htl
    have hh3: (bK all.length u)[(bK i u).length - 1]? =some ((bK i u)[(bK i u).length - 1]'(by omega)):=by rw [htl,gq (by omega)];exact hh2
    obtain⟨r',t',a',f1,f2,f3,f4⟩:=hfirst _ _ _ hh3 hp2
    refine⟨r',t',by rw [<-hxl];exact f1,?_⟩
    obtain⟨l1,q1⟩:=bA.1 f2
    obtain⟨l2,q2⟩:=bA.1 e2
    have hbh:=mC.1 hB _ _ l1 l2 hm2.1
    rw [q1,q2] at hbh
    have p1:=hpos a' (eU f2)
    unfold qC at hbh
    rw [e3,e4,f3,f4]
    omega
   ·dsimp only
    rw [gm,aC hui,cZ,hout]
    simp only [dP,List.length_nil]
    rw [eF hml,dN,dX,List.map_nil,e1]
 ·rintro⟨done,out,ii⟩ e ⟨_,_,hout⟩
  dsimp only at e hout ⊢
  subst e
  rw [mX,aR]
  refine Ok.br ?_
  dsimp only
  rw [hout,lj (by rw [hlen];omega)]
 intro o ho
 exact Ok.cs ho (fun s hs=>Ok.ret hs) (fun r hr=>hr.elim)
end
end Go.Gk
namespace Go.Gk
open Go Classical
section
variable {α β:Type}
end
def yA (p q:fk):Prop:=eG.lt p.Part q.Part\/(p.Part=q.Part/\eG.lt p.fk q.fk)
theorem Fa {p q:fk} (h1:p.Part=q.Part) (h2:p.fk=q.fk):p=q:=by cases p;cases q;simp at h1 h2;subst h1;subst h2;rfl
theorem yA.irrefl (p:fk): ¬yA p p:=fun h=>by
 rcases h with h | ⟨_,h⟩
 ·exact eG.lt_irrefl _ h
 ·exact eG.lt_irrefl _ h
theorem yA.trans {p q r:fk} (h1:yA p q) (h2:yA q r):yA p r:=by
 rcases h1 with h1 | ⟨e1,h1⟩ <;> rcases h2 with h2 | ⟨e2,h2⟩
 ·exact .inl (eG.lt_trans h1 h2)
 ·exact .inl (by rw [<-e2];exact h1)
 ·exact .inl (by rw [e1];exact h2)
 ·exact .inr ⟨e1.trans e2,eG.lt_trans h1 h2⟩
theorem yA.total (p q:fk):yA p q\/p=q\/yA q p:=by
 rcases eG.C7 p.Part q.Part with h | h | h
 ·exact .inl (.inl h)
 ·rcases eG.C7 p.fk q.fk with h' | h' | h'
  ·exact .inl (.inr ⟨h,h'⟩)
  ·exact .inr (.inl (Fa h h'))
  ·exact .inr (.inr (.inr ⟨h.symm,h'⟩))
 ·exact .inr (.inr (.inl h))
theorem yA.asymm {p q:fk} (h:yA p q): ¬yA q p:=fun h'=>yA.irrefl p (h.trans h')
theorem yA.ne {p q:fk} (h:yA p q):p≠q:=fun e=>by subst e;exact yA.irrefl _ h
theorem sw {a b:eG}:Lib.compareBytes a.cY b.cY=0↔a=b:=⟨fun h=>eG.ext' ((vO _ _).1 h),fun h=>(vO _ _).2 (by rw [h])⟩
theorem th {p q:fk}:kJ p q=0↔p=q:=by
 unfold kJ
 by_cases h:Lib.compareBytes p.Part.cY q.Part.cY=0
 ·rw [aG (by simpa using h),sw]
  exact⟨fun h'=>Fa (sw.1 h) h',fun h'=>by rw [h']⟩
 ·rw [aC h]
  exact⟨fun h'=>absurd h' h,fun h'=>absurd (sw.2 (by rw [h'])) h⟩
theorem v7 {p q:fk}:kJ p q<0↔yA p q:=by
 unfold kJ yA
 by_cases h:Lib.compareBytes p.Part.cY q.Part.cY=0
 ·rw [aG (by simpa using h),vN]
  have e:=sw.1 h
  constructor
  ·exact fun h'=> .inr ⟨e,h'⟩
  ·rintro(h' | ⟨_,h'⟩)
   ·rw [e] at h';exact absurd h' (eG.lt_irrefl _)
   ·exact h'
 ·rw [aC h,vN]
  constructor
  ·exact fun h'=> .inl h'
  ·rintro(h' | ⟨e,_⟩)
   ·exact h'
   ·exact absurd (sw.2 e) h
theorem Ey {p q:fk}:0<kJ p q↔yA q p:=by
 constructor
 ·intro h
  rcases yA.total p q with h' | h' | h'
  ·have:=v7.2 h';omega
  ·have:=th.2 h';omega
  ·exact h'
 ·intro h
  by_cases h1:kJ p q<0
  ·exact absurd (v7.1 h1) h.asymm
  ·by_cases h2:kJ p q=0
   ·exact absurd (th.1 h2).symm h.ne
   ·omega
section
variable {N:Nat}
structure Ez (a:ld) (x:fK):Prop where
 name:mW x.Part=true/\isWord x.fk=true
 K3:0<=x.cU/\x.cU< ((a.aJ.length:Nat):Int)
 at_:qw x.At=true
structure uW (a:ld):Prop where
 yP:a.bV.length<=1000
 each: ∀x∈a.bV,Ez a x
 up:a.bV.Pairwise (fun x y=>yA (mM x) (mM y))
theorem Cc {a:ld} {k:Nat} {x:fK} (hx:a.bV[k]? =some x) (h:j6 a k=none):Ez a x/\∀y,0<k->a.bV[k - 1]? =some y->yA (mM y) (mM x):=by
 unfold j6 at h
 rw [hx,Option.bind_some] at h
 split at h
 ·rename_i h1
  split at h
  ·rename_i h2
   split at h
   ·cases h
   ·rename_i h3
    rw [bW] at h1 h2
    unfold fF at h2
    rw [bW,bQ,bQ] at h2
    refine⟨⟨h1,⟨by omega,by omega⟩,h2.2⟩,fun y hk hy=>?_⟩
    have h4: ¬kJ (mM x) (mM y)<=0:=fun h4=>h3 ⟨hk,y,hy,h4⟩
    exact Ey.1 (by omega)
  ·cases h
 ·cases h
theorem Ah {a:ld} {k:Nat} {e:Int} (h:j6 a k=some e):e≠0:=by
 unfold j6 at h
 cases hx:a.bV[k]? with
 | none=>rw [hx] at h;cases h
 | some x=>
  rw [hx,Option.bind_some] at h
  repeat' split at h
  all_goals first | (injection h with h;omega) | cases h
theorem F0 {a:ld} (h:mz a=0):uW a:=by
 unfold mz at h
 split at h
 ·omega
 rename_i hl
 have hn:u7 a.bV.length (j6 a)=none:=by
  cases hf:u7 a.bV.length (j6 a) with
  | none=>rfl
  | some e=>
   rw [hf] at h
   obtain⟨k,_,hk,_⟩:=oE.1 hf
   exact absurd h (Ah hk)
 rw [nK] at hn
 have hg: ∀(k:Nat) x,a.bV[k]? =some x->Ez a x/\∀y,0<k->a.bV[k - 1]? =some y->yA (mM y) (mM x):=fun k x hx=>Cc hx (hn k (bA.1 hx).1)
 refine⟨by omega,fun x hx=>?_,?_⟩
 ·obtain⟨k,hk⟩:=dS hx
  exact(hg k x hk).1
 ·have hstep: ∀(n i:Nat) x y,a.bV[i]? =some x->a.bV[i+n+1]? =some y->yA (mM x) (mM y):=by
   intro n
   induction n with
   | zero=>intro i x y hx hy;exact(hg (i+1) y hy).2 x (by omega) hx
   | succ n ih=>
    intro i x y hx hy
    have hz:i+n+1<a.bV.length:=by have:=(bA.1 hy).1;omega
    have h1:=ih i x _ hx (aN hz)
    exact h1.trans ((hg (i+ (n+1)+1) y hy).2 _ (by omega) (by rw [show i+ (n+1)+1 - 1=i+n+1 by omega];exact aN hz))
  rw [mC]
  intro i j hi hj hij
  exact hstep (j - i - 1) i _ _ (aN hi) (by rw [show i+ (j - i - 1)+1=j by omega];exact aN hj)
theorem uW.inj {a:ld} (h:uW a) {i j:Nat} {x y:fK} (hx:a.bV[i]? =some x) (hy:a.bV[j]? =some y) (e:mM x=mM y):i=j:=by
 obtain⟨h1,rfl⟩:=bA.1 hx
 obtain⟨h2,rfl⟩:=bA.1 hy
 have hp:=mC.1 h.up
 rcases Nat.lt_trichotomy i j with h3 | h3 | h3
 ·exact absurd e (hp i j h1 h2 h3).ne
 ·exact h3
 ·exact absurd e.symm (hp j i h2 h1 h3).ne
end
end Go.Gk
namespace Go.Gk
open Go Classical
theorem uF {α β:Type} {l:List α} {f:α->Option β} {k:Nat} {x:α} {c:β} (hx:l[k]? =some x) (hn: ∀(j:Nat) y,j<k->l[j]? =some y->f y=none) (hc:f x=some c):l.findSome? f=some c:=by
 obtain⟨hk,rfl⟩:=bA.1 hx
 rw [List.findSome?_eq_some_iff]
 refine⟨l.take k,l[k],l.drop (k+1),?_,hc,fun y hy=>?_⟩
 ·rw [List.getElem_cons_drop,List.take_append_drop]
 ·obtain⟨j,hj⟩:=dS hy
  have hjk:j<k:=by have:=(bA.1 hj).1;rw [cL] at this;omega
  exact hn j y hjk (by rw [List.getElem?_take_of_lt hjk] at hj;exact hj)
theorem yB {α β:Type} {l:List α} {f:α->Option β} (h: ∀(j:Nat) y,j<l.length->l[j]? =some y->f y=none):l.findSome? f=none:=by
 rw [List.findSome?_eq_none_iff]
 intro x hx
 obtain⟨j,hj⟩:=dS hx
 exact h j x (bA.1 hj).1 hj
section
variable {N:Nat}
theorem K7 (c:UInt8): (bif (!((((decide (((c.toNat:Nat):Int)>=97))&&(decide (((c.toNat:Nat):Int)<=122)))||((decide (((c.toNat:Nat):Int)>=65))&&(decide (((c.toNat:Nat):Int)<=90))))||((decide (((c.toNat:Nat):Int)>=48))&&(decide (((c.toNat:Nat):Int)<=57))))) then ((gF N (⟨[95,43,45,35]⟩) ((c.toNat:Nat):Int)).bind fun x50=>some (decide (x50<0))) else (some false))=some (Dh c):=by
 rw [sX,aB]
 unfold Dh
 generalize decide (Lib.indexByte (⟨[95,43,45,35]⟩:eG).cY c<0)=p
 have e: (!((((decide (((c.toNat:Nat):Int)>=97))&&(decide (((c.toNat:Nat):Int)<=122)))||((decide (((c.toNat:Nat):Int)>=65))&&(decide (((c.toNat:Nat):Int)<=90))))||((decide (((c.toNat:Nat):Int)>=48))&&(decide (((c.toNat:Nat):Int)<=57)))))= ((((decide (((c.toNat:Nat):Int)<65))||(decide (((c.toNat:Nat):Int)>90)))&&((decide (((c.toNat:Nat):Int)<97))||(decide (((c.toNat:Nat):Int)>122))))&&((decide (((c.toNat:Nat):Int)<48))||(decide (((c.toNat:Nat):Int)>57)))):=by
  rw [fc]
  simp only [Bool.not_eq_true',Bool.or_eq_false_iff,Bool.and_eq_false_iff,decide_eq_false_iff_not,bW,dK,bQ]
  omega
 rw [e]
 cases ((((decide (((c.toNat:Nat):Int)<65))||(decide (((c.toNat:Nat):Int)>90)))&&((decide (((c.toNat:Nat):Int)<97))||(decide (((c.toNat:Nat):Int)>122))))&&((decide (((c.toNat:Nat):Int)<48))||(decide (((c.toNat:Nat):Int)>57)))) with
 | true=>rw [aP,Bool.true_and]
 | false=>rw [aR,Bool.false_and]
theorem yC {s:eG} (h:s.cY.length<=1048576) (hN:4194304<=N):ga N s=some (isWord s):=by
 refine Ok.get ?_
 unfold ga isWord
 refine Ok.bind (Ok.pq (n:=s.cY.length) (fun s=>s) (fun k _=>∀(j:Nat) x,j<k->s.cY[j]? =some x->Dh x=false) (Go:=fun _=>s.cY.any Dh=false) (Rt:=fun r=>r=false/\s.cY.any Dh=true) ?_ ?_ (dM _) rfl (fun j x hj=>by omega) (by omega)) ?_
 ·rintro k i hk e hI
  subst e
  rw [kE hk,aP]
  refine Ok.eq (C6 s k hk) (Ok.eq (K7 _) (Ok.bif (fun hb=>Ok.rt ⟨rfl,kG.2 ⟨_,cM hk,hb⟩⟩) (fun hb=>Ok.nx ⟨bP (by omega),fun j x hj hx=>?_⟩)))
  by_cases e:j=k
  ·subst e;rw [aN hk] at hx;injection hx with hx;rw [<-hx];exact hb
  ·exact hI j x (by omega) hx
 ·rintro i e hI
  subst e
  rw [mX,aR]
  refine Ok.br ?_
  rw [List.any_eq_false]
  intro x hx
  obtain⟨j,hj⟩:=dS hx
  rw [hI j x (bA.1 hj).1 hj];exact nh
 intro o ho
 refine Ok.cs ho (fun s' hs'=>?_) (fun r hr=>Ok.ret (by rw [hr.1,hr.2];rfl))
 rw [hs']
 show Ok ((some _).bind _) _
 refine Ok.ret ?_
 rw [nU,Bool.true_and]
 congr 1 <;> · rw [decide_eq_decide];omega
theorem DD {s:eG} (h:s.cY.length<=1048576) (hN:4194304<=N):jk N s=some (mW s):=by
 refine Ok.get ?_
 unfold jk mW
 refine Ok.eq (Dj 47 h hN) ?_
 have hsn:=Bh s 47
 refine Ok.bind (Ok.pq (n:=(nB s 47).length) (fun s=>s) (fun k _=>∀(j:Nat) x,j<k->(nB s 47)[j]? =some x->isWord x=true) (Go:=fun _=>(nB s 47).all isWord=true) (Rt:=fun r=>r=false/\(nB s 47).all isWord=false) ?_ ?_ (dM _) rfl (fun j x hj=>by omega) (by omega)) ?_
 ·rintro k i hk e hI
  subst e
  rw [kE hk,aP]
  have hx: (nB s 47)[k]? =some (nB s 47)[k]:=aN hk
  have hl:=Bg (cM hk)
  refine Ok.ix hx (Ok.eq (yC (by omega) hN) (Ok.bif (fun hb=>Ok.rt ⟨rfl,?_⟩) (fun hb=>Ok.nx ⟨bP (by omega),fun j x hj hx'=>?_⟩)))
  ·rw [List.all_eq_false]
   exact⟨_,cM hk,by simpa using hb⟩
  ·by_cases e:j=k
   ·subst e;rw [hx] at hx';injection hx' with hx';rw [<-hx'];simpa using hb
   ·exact hI j x (by omega) hx'
 ·rintro i e hI
  subst e
  rw [mX,aR]
  refine Ok.br ?_
  rw [kH]
  intro x hx
  obtain⟨j,hj⟩:=dS hx
  exact hI j x (bA.1 hj).1 hj
 intro o ho
 refine Ok.cs ho (fun s' hs'=>Ok.ret ?_) (fun r hr=>Ok.ret (by rw [hr.1,hr.2,Bool.and_false]))
 rw [hs',Bool.and_true,decide_eq_decide];omega
theorem q6 (n lo hi:Int):cK N n lo hi=some (fF n lo hi):=rfl
theorem lM {b:cD} (h:pB b=true):cG N b=some (tP b):=mx (N:=N) h
theorem yc {b:cD}:gz N b=some (lY b).2:=by
 have e1: (bif (!(fF b.dE 1 10000)) then (some true) else (some (!(qw b.At))))=some (!pB b):=by unfold pB;cases fF b.dE 1 10000 <;> rfl
 have e2: ∀n,cR N n=some (lh n):=fun _=>rfl
 unfold gz lY
 rw [q6,aB,yq,aB,e1,aB]
 cases hf:pB b with
 | false=>rfl
 | true=>
  rw [lT,aR,lM hf,aB]
  simp only [e2,aB]
  unfold fj
  cases lh (tP b).X0 <;> cases lh (tP b).Y0 <;> cases lh (tP b).X1 <;> cases lh (tP b).Y1 <;> rfl
theorem Js {x y:fK}: ((x.Part.sB y.Part)||((x.Part.sA y.Part)&&(x.fk.sB y.fk||x.fk.sA y.fk)))=decide (kJ (mM x) (mM y)<=0):=by
 have hle:kJ (mM x) (mM y)<=0↔yA (mM x) (mM y)\/mM x=mM y:=by
  rw [<-v7,<-th];omega
 rw [fc,bQ,hle,dK,bW,dK,BQ,BQ]
 unfold yA mM
 simp only [fk.mk.injEq]
 constructor
 ·rintro(h | ⟨h1,h2 | h2⟩)
  ·exact .inl (.inl h)
  ·exact .inl (.inr ⟨h1,h2⟩)
  ·exact .inr ⟨h1,h2⟩
 ·rintro((h | ⟨h1,h2⟩) | ⟨h1,h2⟩)
  ·exact .inl h
  ·exact .inr ⟨h1, .inl h2⟩
  ·exact .inr ⟨h1, .inr h2⟩
theorem Ai {a:ld} (hc:a.aJ.length<=1073741824) (hl:a.bV.length<=1073741824) {k:Nat} {x:fK} (hx:a.bV[k]? =some x) (hn:x.Part.cY.length<=1048576/\x.fk.cY.length<=1048576) (hN:4194304<=N):ir N a ((k:Nat):Int)=some ((j6 a k).getD 0):=by
 have hk:=(bA.1 hx).1
 have hw:IntKind.wrap .i64 (((a.aJ.length:Nat):Int) - 1)= ((a.aJ.length:Nat):Int) - 1:=eT (by omega) (by omega)
 unfold ir j6
 rw [dU hx,aB,DD hn.1 hN,aB,hx,Option.bind_some]
 have e1: (bif (!(mW x.Part)) then (some true) else ((ga N x.fk).bind fun x44=>some (!x44)))=some (!(mW x.Part&&isWord x.fk)):=by
  rw [yC hn.2 hN,aB]
  cases mW x.Part <;> rfl
 rw [e1,aB]
 cases h1: (mW x.Part&&isWord x.fk) with
 | false=>rw [nU,aP,aG nh];rfl
 | true=>
  rw [lT,aR,aC rfl,hw,q6,aB]
  have e2: (bif (!(fF x.cU 0 (((a.aJ.length:Nat):Int) - 1))) then (some true) else ((fM N x.At).bind fun x57=>some (!x57)))=some (!(fF x.cU 0 (((a.aJ.length:Nat):Int) - 1)&&qw x.At)):=by
   rw [yq,aB]
   cases fF x.cU 0 (((a.aJ.length:Nat):Int) - 1) <;> rfl
  rw [e2,aB]
  cases h2: (fF x.cU 0 (((a.aJ.length:Nat):Int) - 1)&&qw x.At) with
  | false=>rw [nU,aP,aG nh];rfl
  | true=>
   rw [lT,aR,aC rfl]
   by_cases h0:0<k
   ·have hy:a.bV[k - 1]? =some (a.bV[k - 1]'(by omega)):=aN _
    rw [bR (by omega),aP,i5 h0 (by omega),dU hy,aB,Js]
    by_cases h3:kJ (mM x) (mM (a.bV[k - 1]'(by omega)))<=0
    ·rw [bR h3,aP,aC ⟨h0,_,hy,h3⟩];rfl
    ·rw [cC h3,aR,aG (by rintro⟨_,y,hy',h4⟩;rw [hy] at hy';injection hy' with hy';subst hy';exact h3 h4)];rfl
   ·rw [cC (by omega),aR,aG (fun h=>h0 h.1)];rfl
noncomputable def lC (a:ld):Int:=if a.aJ.length=0 then 9 else if 16<a.aJ.length then 2 else match a.aJ.findSome? vk with
 | some e=>e
 | none=>if jJ a.cE≠0 then jJ a.cE else if 2000<a.cE.length+ (a.aJ.map List.length).sum then 2 else if iU a≠0 then iU a else mz a
theorem DE (a:ld):kz a=if lC a≠0 then lC a else if qz a then 12 else 0:=by
 unfold kz lC Hg Dr
 by_cases h0:a.aJ.length=0
 ·rw [aC h0,aC h0,aC (by decide)]
 rw [aG h0,aG h0]
 by_cases h1:16<a.aJ.length
 ·rw [aC h1,aC h1,aC (by decide)]
 rw [aG h1,aG h1]
 cases hf:a.aJ.findSome? vk with
 | some e=>
  have he:e≠0:=by
   obtain⟨_,x,_,_,hx,_⟩:=List.findSome?_eq_some_iff.1 hf
   unfold vk at hx
   split at hx
   ·rename_i h;injection hx with hx;rw [<-hx];exact h
   ·cases hx
  dsimp only
  rw [aC he]
 | none=>
  dsimp only
  by_cases h2:jJ a.cE≠0
  ·rw [aC h2,aC h2,aC h2]
  rw [aG h2,aG h2]
  by_cases h3:2000<a.cE.length+ (a.aJ.map List.length).sum
  ·rw [aC h3,aC h3,aC (by decide)]
  rw [aG h3,aG h3]
  by_cases h4:iU a≠0
  ·rw [aC h4,aC h4,aC h4]
  rw [aG h4,aG h4]
theorem Aj {a:ld} (h:lC a=0):iU a=0:=by
 unfold lC at h
 by_cases h0:a.aJ.length=0
 ·rw [aC h0] at h;omega
 rw [aG h0] at h
 by_cases h1:16<a.aJ.length
 ·rw [aC h1] at h;omega
 rw [aG h1] at h
 cases hf:a.aJ.findSome? vk with
 | some e=>
  rw [hf] at h
  have h:e=0:=h
  obtain⟨_,x,_,_,hx,_⟩:=List.findSome?_eq_some_iff.1 hf
  unfold vk at hx
  split at hx
  ·rename_i h';injection hx with hx;rw [hx] at h';exact absurd h h'
  ·cases hx
 | none=>
  rw [hf] at h
  dsimp only at h
  by_cases h2:jJ a.cE≠0
  ·rw [aC h2] at h;exact absurd h h2
  rw [aG h2] at h
  by_cases h3:2000<a.cE.length+ (a.aJ.map List.length).sum
  ·rw [aC h3] at h;omega
  rw [aG h3] at h
  by_cases h4:iU a≠0
  ·rw [aC h4] at h;exact absurd h h4
  ·simpa using h4
theorem yR {a:ld} (hs:uC a) (hN:4398046511104<=N):gQ N a=some (lC a):=by
 refine Ok.get ?_
 have c1:=hs.cs
 have c2:=hs.out
 have c3:=hs.bs
 have c4:=hs.ls
 unfold gQ lC
 refine Ok.bif (fun h=>Ok.ret ?_) (fun h=>?_)
 ·rw [aC (by have:=beq_iff_eq.1 h;omega)]
 have h0: ¬a.aJ.length=0:=by rw [beq_eq_false_iff_ne] at h;omega
 rw [aG h0]
 refine Ok.bif (fun h=>Ok.ret ?_) (fun h=>?_)
 ·rw [aC (by have:=of_decide_eq_true h;omega)]
 have h1: ¬16<a.aJ.length:=by have:=of_decide_eq_false h;omega
 rw [aG h1]
 have sumle: ∀k,k<=a.aJ.length->((a.aJ.take k).map List.length).sum<=k*1048576:=by
  intro k
  induction k with
  | zero=>intro _;simp
  | succ k ih=>
   intro hk
   have:=ih (by omega)
   have h2:=hs.each _ (cM (show k<a.aJ.length by omega))
   rw [eF (by omega),dN,List.sum_append]
   simp only [dX,List.map_nil,List.sum_cons,List.sum_nil]
   rw [Nat.add_mul];omega
 refine Ok.bind (Ok.pq (n:=a.aJ.length) (fun s=>s.2) (fun k s=>s.1= ((a.cE.length+ ((a.aJ.take k).map List.length).sum:Nat):Int)/\∀(j:Nat) r,j<k->a.aJ[j]? =some r->vk r=none)
  (Go:=fun s=>s.1= ((a.cE.length+ (a.aJ.map List.length).sum:Nat):Int)/\a.aJ.findSome? vk=none) (Rt:=fun r=>a.aJ.findSome? vk=some r) ?_ ?_ (dM _) rfl ⟨by simp,fun j r hj=>by omega⟩ (by omega)) ?_
 ·rintro k ⟨m,i⟩ hk e ⟨hm,hI⟩
  dsimp only at e hm ⊢
  subst e;subst hm
  have hx:a.aJ[k]? =some a.aJ[k]:=aN hk
  have he:=hs.each _ (cM hk)
  have hsl:=sumle k (by omega)
  rw [kE hk,aP]
  refine Ok.ix hx (Ok.eq (tr (by omega) hN) (Ok.bif (fun hb=>Ok.rt ?_) (fun hb=>Ok.ix hx (Ok.nx ⟨bP (by omega),?_,fun j r hj hr=>?_⟩))))
  ·exact uF hx hI (by unfold vk;rw [aC (by simpa using hb)])
  ·dsimp only
   rw [wrap_add (by omega),eF hk,dN,List.sum_append]
   simp only [dX,List.map_nil,List.sum_cons,List.sum_nil]
   omega
  ·by_cases e:j=k
   ·subst e;rw [hx] at hr;injection hr with hr;rw [<-hr]
    unfold vk;rw [aG (by simpa using hb)]
   ·exact hI j r (by omega) hr
 ·rintro⟨m,i⟩ e ⟨hm,hI⟩
  dsimp only at e hm ⊢
  subst e
  rw [mX,aR]
  rw [eO] at hm
  exact Ok.br ⟨hm,yB hI⟩
 intro o ho
 refine Ok.cs ho ?_ (fun r hr=>Ok.ret (by rw [hr]))
 rintro⟨m,i⟩ ⟨hm,hf⟩
 dsimp only at hm ⊢
 subst hm
 rw [hf]
 dsimp only
 refine Ok.eq (tr (by omega) hN) (Ok.bif (fun h=>Ok.ret ?_) (fun h=>?_))
 ·rw [aC (by simpa using h)]
 rw [aG (by simpa using h)]
 have hmr:Ok (bif (decide (((a.cE.length+ (a.aJ.map List.length).sum:Nat):Int)>2000)) then (some true) else (some (decide (((a.aO.length:Nat):Int)>500)))) (fun b=>b=decide (2000<a.cE.length+ (a.aJ.map List.length).sum\/500<a.aO.length)):=by
  by_cases h2:2000<a.cE.length+ (a.aJ.map List.length).sum
  ·rw [bR (by omega),aP];exact Ok.ret (bR (.inl h2)).symm
  ·rw [cC (by omega),aR]
   refine Ok.ret ?_
   rw [decide_eq_decide];omega
 refine Ok.bind hmr fun b hb=>?_
 subst hb
 refine Ok.bif (fun h=>Ok.ret ?_) (fun h=>?_)
 ·have h:=of_decide_eq_true h
  by_cases h2:2000<a.cE.length+ (a.aJ.map List.length).sum
  ·rw [aC h2]
  ·rw [aG h2]
   have hb:iU a=2:=by unfold iU;rw [aC (by omega)]
   rw [hb,aC (by decide)]
 have h:=of_decide_eq_false h
 rw [aG (by omega)]
 have hbe:iU a= (a.aO.findSome? (lu a.aJ.length)).getD 0:=by unfold iU;rw [aG (by omega)]
 have hw:IntKind.wrap .i64 (((a.aJ.length:Nat):Int) - 1)= ((a.aJ.length:Nat):Int) - 1:=eT (by omega) (by omega)
 refine Ok.bind (Ok.pq (n:=a.aO.length) (fun s=>s) (fun k _=>∀(j:Nat) b,j<k->a.aO[j]? =some b->lu a.aJ.length b=none) (Go:=fun _=>a.aO.findSome? (lu a.aJ.length)=none) (Rt:=fun r=>a.aO.findSome? (lu a.aJ.length)=some r/\r≠0) ?_ ?_ (dM _) rfl (fun j b hj=>by omega) (by omega)) ?_
 ·rintro k i hk e hI
  subst e
  rw [kE hk,aP]
  have hx:a.aO[k]? =some a.aO[k]:=aN hk
  refine Ok.ix hx (Ok.eq yc (Ok.bif (fun hb=>Ok.rt ?_) (fun hb=>?_)))
  ·have hb: (lY a.aO[k]).2≠0:=by simpa using hb
   exact⟨uF hx hI (by unfold lu;rw [aC hb]),hb⟩
  ·have hb: ¬(lY a.aO[k]).2≠0:=by simpa using hb
   rw [hw]
   have e2: ((cK N a.aO[k].cN 0 (((a.aJ.length:Nat):Int) - 1)).bind fun x135=>bif (!x135) then (some true) else ((cK N a.aO[k].To a.aO[k].cN (((a.aJ.length:Nat):Int) - 1)).bind fun x138=>some (!x138)))=some (!(fF a.aO[k].cN 0 (((a.aJ.length:Nat):Int) - 1)&&fF a.aO[k].To a.aO[k].cN (((a.aJ.length:Nat):Int) - 1))):=by
    rw [q6,aB,q6,aB]
    cases fF a.aO[k].cN 0 (((a.aJ.length:Nat):Int) - 1) <;> rfl
   refine Ok.eq e2 (Ok.bif (fun h3=>Ok.rt ⟨uF hx hI ?_,by decide⟩) (fun h3=>Ok.nx ⟨bP (by omega),fun j b hj hb'=>?_⟩))
   ·unfold lu
    rw [aG hb,aG (by rintro⟨g1,g2⟩;rw [g1,g2] at h3;cases h3)]
   ·by_cases e:j=k
    ·subst e;rw [hx] at hb';injection hb' with hb';rw [<-hb']
     rw [Bool.not_eq_false',bW] at h3
     unfold lu;rw [aG hb,aC h3]
    ·exact hI j b (by omega) hb'
 ·rintro i e hI
  subst e
  rw [mX,aR]
  exact Ok.br (yB hI)
 intro o ho
 refine Ok.cs ho ?_ (fun r hr=>Ok.ret ?_)
 rotate_left
 ·rw [hbe,hr.1,Option.getD_some,aC hr.2]
 intro _ hbn
 rw [hbe,hbn,Option.getD_none,aG (by decide)]
 unfold mz
 refine Ok.bif (fun h=>Ok.ret ?_) (fun h=>?_)
 ·rw [aC (by have:=of_decide_eq_true h;omega)]
 have h5: ¬1000<a.bV.length:=by have:=of_decide_eq_false h;omega
 rw [aG h5]
 refine Ok.bind (Ok.pq (n:=a.bV.length) (fun s=>s) (fun k _=>∀j,j<k->j6 a j=none) (Go:=fun _=>u7 a.bV.length (j6 a)=none) (Rt:=fun r=>u7 a.bV.length (j6 a)=some r) ?_ ?_ (dM _) rfl (fun j hj=>by omega) (by omega)) ?_
 ·rintro k i hk e hI
  subst e
  rw [kE hk,aP]
  have hx:a.bV[k]? =some a.bV[k]:=aN hk
  refine Ok.eq (Ai (by omega) (by omega) hx (hs.nm _ (cM hk)) (by omega)) (Ok.bif (fun hb=>Ok.rt ?_) (fun hb=>Ok.nx ⟨bP (by omega),fun j hj=>?_⟩))
  ·cases hl:j6 a k with
   | none=>rw [hl] at hb;cases hb
   | some e=>exact oE.2 ⟨k,hk,hl,hI⟩
  ·by_cases e:j=k
   ·subst e
    cases hl:j6 a j with
    | none=>rfl
    | some e=>rw [hl] at hb;exact absurd (by simpa using hb) (Ah hl)
   ·exact hI j (by omega)
 ·rintro i e hI
  subst e
  rw [mX,aR]
  exact Ok.br (nK.2 hI)
 intro o ho
 exact Ok.cs ho (fun _ h=>Ok.ret (by rw [h];rfl)) (fun r hr=>Ok.ret (by rw [hr];rfl))
theorem ti (b:cD) (k:Int):eR N b k=some (jG b k):=rfl
theorem uG {a:ld} {i:Nat} {r:List aI} {s:List aA} (hb:kg a.aO) (hr:a.aJ[i]? =some r) (hrl:r.length<=2000) (hro: ∀x∈r,Ar x) (hd:sY r (jL a.aO ((i:Nat):Int)) s) (hN:4398046511104<=N):fX N a ((i:Nat):Int)=some (aS s):=by
 refine Ok.get ?_
 have hbl:=hb.len
 have hhl:=xW hb ((i:Nat):Int)
 have hho:=qx hb ((i:Nat):Int)
 unfold fX
 refine Ok.bind (Ok.pq (n:=a.aO.length) (fun s=>s.2) (fun k st=>st.1=jL (a.aO.take k) ((i:Nat):Int)) (Go:=fun st=>st.1=jL a.aO ((i:Nat):Int)) (Rt:=fun _=>False) ?_ ?_ (dM _) rfl rfl (by omega)) ?_
 ·rintro k ⟨out,ii⟩ hk e hI
  dsimp only at e hI ⊢
  subst e;subst hI
  have hx:a.aO[k]? =some a.aO[k]:=aN hk
  have hts:jL (a.aO.take (k+1)) ((i:Nat):Int)=if jG a.aO[k] ((i:Nat):Int)=true then jL (a.aO.take k) ((i:Nat):Int)++[tP a.aO[k]] else jL (a.aO.take k) ((i:Nat):Int):=by
   unfold jL
   rw [eF hk,ki,dN]
   by_cases h:jG a.aO[k] ((i:Nat):Int)=true
   ·rw [aC h];simp [h]
   ·rw [aG h];simp [h]
  have hlen: (jL (a.aO.take k) ((i:Nat):Int)).length<=k:=by
   unfold jL
   rw [cV]
   have:=ni (fun b=>jG b ((i:Nat):Int)) (a.aO.take k)
   rw [cL] at this;omega
  rw [kE hk,aP]
  refine Ok.ix hx (Ok.eq (ti _ _) (Ok.bind (P:=fun st:List aI=>st=jL (a.aO.take (k+1)) ((i:Nat):Int)) (Ok.bif (fun h=>?_) (fun h=>Ok.ret ?_)) (fun st hst=>Ok.nx ⟨bP (by omega),hst⟩)))
  ·refine Ok.ix hx (Ok.eq (lM (hb.ok _ (cM hk)).1) (Ok.app (by simp only [dP,List.length_nil];omega) (Ok.ret ?_)))
   rw [hts,aC h]
  ·rw [hts,aG (by rw [jI];exact h)]
 ·rintro⟨out,ii⟩ e hI
  dsimp only at e hI ⊢
  subst e
  rw [mX,aR]
  exact Ok.br (by rw [eO] at hI;exact hI)
 intro o ho
 refine Ok.cs ho ?_ (fun r hr=>hr.elim)
 rintro⟨hs,ii⟩ hI
 dsimp only at hI ⊢
 subst hI
 obtain⟨t,_,ht⟩:=oF (N:=N) (l:=jL a.aO ((i:Nat):Int)) (by omega) (fun x hx=>(hho x hx).1) (by omega)
 obtain⟨z1,z2,z3⟩:=ht.Dk
 have z4:2* (jL a.aO ((i:Nat):Int)).length* (2* (jL a.aO ((i:Nat):Int)).length)<=1000*1000:=Nat.mul_le_mul (by omega) (by omega)
 refine Ok.ix hr (Ok.eq (te ht.can ht.cover (by omega) (fun x hx=>(hho x hx).1.x) (by omega) hN) ?_)
 unfold j5
 have hsz:=(uU (A:=5000) hd.can hd.lim (by rw [cZ,lz,lz];omega) (by rw [cZ,jo,jo];omega)).2.2
 have hc:gu N r (aS t) 3=some (aS s):=DA hd.can (fun x y=>by
  rw [hd.cover,oG ht.can,ht.cover];unfold qB;simp) (by omega) (by omega) (fun x hx=>(hro x hx).x) (fun x hx=>(su ht.can x hx).1) (by omega) hN
 rw [hc,aB,aB]
 exact Ok.ret rfl
theorem uX: ∀(gI:List (List (List aA))) (k:Nat),(eJ k gI).length= (gI.map List.length).sum
 | [],k=>rfl
 | ps::gI,k=>by
  show (ps.map _++eJ (k+1) gI).length=_
  rw [cZ,cV,uX gI (k+1),dX,List.sum_cons]
theorem F1 {a:ld} {mY:List (List aA)} {gI:List (List (List aA))} (hg:oK a) (hD:vY a.aJ a.aO a.aJ.length mY gI) {i:Nat} {s:List aA} (hi:i<a.aJ.length) (hd:mY[i]? =some s) (hf: (aS s).length<=2000): ∃ps u,gI[i]? =some ps/\px a.aJ[i] (jL a.aO ((i:Nat):Int)) s u ps:=by
 have hp:gI[i]? =some (gI[i]'(by rw [hD.yO];exact hi)):=aN _
 have hdr:=hD.dr i _ _ hi (aN hi) hd
 obtain⟨u,hu⟩:=hD.pt i _ _ hi hd hp
 have hreg:=uB.1 (hg.MA _ (cM hi))
 exact⟨_,u,hp,fun x hx=>((oI.1 hreg.1).2 x hx).1,fun x hx=>(qx hg.gb _ x hx).2,(zT hreg.1).2,fun x hx=>(qx hg.gb _ x hx).1,hdr,hu,hf⟩
theorem px.pieces {r hs:List aI} {s:List aA} {u:Nat->Nat} {ps:List (List aA)} (h:px r hs s u ps) (hN:4398046511104<=N):fw N (aS s)=some (ps.map aS):=by
 refine DC h.dr.can h.pt h.yP (fun q hq=>?_) (fun p hp=>(h.part hp).2.1) hN
 obtain⟨h1,h2,h3⟩:=E9 h.r1 h.r2 h.dr.can h.dr.lim q hq
 exact B4 h1 h2 h3
theorem EA {a b:aI} (ha:a.X0<a.X1/\a.Y0<a.Y1) (hb:b.X0<b.X1/\b.Y0<b.Y1):fN N a b=some (Dq a b):=by
 unfold fN
 rw [s9,s9,tc,tc]
 have e1:decide (min a.X1 b.X1>max a.X0 b.X0)=xm a.X0 a.X1 b.X0 b.X1:=by
  unfold xm
  rw [fc,bW,bQ,bQ,bQ];omega
 have e2:decide (min a.Y1 b.Y1>max a.Y0 b.Y0)=xm a.Y0 a.Y1 b.Y0 b.Y1:=by
  unfold xm
  rw [fc,bW,bQ,bQ,bQ];omega
 rw [e1,e2]
 unfold Dq
 cases xm a.X0 a.X1 b.X0 b.X1 <;> rfl
theorem sq_pos {b:cD} (h:pB b=true): (tP b).X0< (tP b).X1/\(tP b).Y0< (tP b).Y1:=by
 obtain⟨h1,_,_⟩:=qX h
 simp only [tP];omega
inductive Checked (N:Nat) (a:ld):Prop
 | err (e:Int) (he:e≠0) (h1:iO N a=some (none,e)) (h2:dB N a=some e)
 | ok {mY:List (List aA)} {gI:List (List (List aA))} {r:Nat->Nat} {gs:List cO} {ofP ofB wc:List Int} {we:List j9} (b:rz a mY gI r gs ofP ofB wc we)
  (h1:iO N a=some (some (a.aJ,a.cE,a.aO,a.bV,mY,eJ 0 gI,iV a.aO (eJ 0 gI),gs,ofP,ofB,wc,we),0)) (h2:dB N a=some 0)
theorem Fb {a:ld} (hb:kg a.aO) (hN:4398046511104<=N) {f:Int->Option Int} {Q:Int->Prop} (hc:qz a->Q 12) (hn: ¬qz a->∀s,Ok (f s) Q):
  Ok ((jz (fun(s35:Int)=>(bif (decide (s35< (a.aO.length:Int))) then ((jz (fun(s622:Int)=>(bif (decide (s622<s35)) then (((idx a.aO s35).bind fun x869=>(idx a.aO s622).bind fun x873=>(iu N x869 x873).bind fun x876=>bif x876 then ((idx a.aO s35).bind fun x879=>(cG N x879).bind fun x882=>(idx a.aO s622).bind fun x885=>(cG N x885).bind fun x888=>(fN N x882 x888).bind fun x890=>some x890) else (some false)).bind fun s867=>bif s867 then (some (.rt 12)) else (some (.nx (IntKind.wrap .i64 (s622+1))))) else (some (.br s622)):Option (Fl (Int) Int))) N 0).bind fun o911=>o911.cs (fun(s622:Int)=>some (.nx (IntKind.wrap .i64 (s35+1)))) (fun r=>some (.rt r))) else (some (.br s35)):Option (Fl (Int) Int))) N 0).bind fun o933=>o933.cs f (fun r=>some r)) Q:=by
 have hbl:=hb.len
 refine Ok.bind (Ok.pq (n:=a.aO.length) (fun s=>s) (fun k _=>∀(i j:Nat) (x y:cD),i<k->j<i->a.aO[i]? =some x->a.aO[j]? =some y->¬qy x y=true) (Go:=fun _=>¬qz a) (Rt:=fun r=>r=12/\qz a) ?_ ?_ (dM _) rfl (fun i j x y hi=>by omega) (by omega)) ?_
 ·rintro k s hk e hI
  subst e
  rw [kE hk,aP]
  have hx:a.aO[k]? =some a.aO[k]:=aN hk
  have fx:=(hb.ok _ (cM hk)).1
  refine Ok.bind (Ok.pq (n:=k) (fun s=>s) (fun t _=>∀(j:Nat) (y:cD),j<t->a.aO[j]? =some y->¬qy a.aO[k] y=true) (Go:=fun _=>∀(j:Nat) (y:cD),j<k->a.aO[j]? =some y->¬qy a.aO[k] y=true) (Rt:=fun r=>r=12/\qz a) ?_ ?_ (dM _) rfl (fun j y hj=>by omega) (by omega)) ?_
  ·rintro t s ht e hI2
   subst e
   rw [kE ht,aP]
   have hy:a.aO[t]? =some (a.aO[t]'(by omega)):=aN _
   have fy:=(hb.ok _ (cM (show t<a.aO.length by omega))).1
   have hcond: ((idx a.aO ((k:Nat):Int)).bind fun x869=>(idx a.aO ((t:Nat):Int)).bind fun x873=>(iu N x869 x873).bind fun x876=>bif x876 then ((idx a.aO ((k:Nat):Int)).bind fun x879=>(cG N x879).bind fun x882=>(idx a.aO ((t:Nat):Int)).bind fun x885=>(cG N x885).bind fun x888=>(fN N x882 x888).bind fun x890=>some x890) else (some false))=some (qy a.aO[k] (a.aO[t]'(by omega))):=by
    rw [dU hx,aB,dU hy,aB]
    unfold iu qy
    rw [aB]
    cases (decide (a.aO[k].cN<=(a.aO[t]'(by omega)).To)&&decide ((a.aO[t]'(by omega)).cN<=a.aO[k].To)) with
    | false=>rfl
    | true=>rw [aP,aB,lM fx,aB,aB,lM fy,aB,EA (sq_pos fx) (sq_pos fy),aB,Bool.true_and]
   refine Ok.eq hcond (Ok.bif (fun h=>Ok.rt ⟨rfl,k,t,_,_,ht,hx,hy,h⟩) (fun h=>Ok.nx ⟨bP (by omega),fun j y hj hjy=>?_⟩))
   by_cases e:j=t
   ·subst e;rw [hy] at hjy;injection hjy with hjy;rw [<-hjy,h];exact nh
   ·exact hI2 j y (by omega) hjy
  ·rintro s e hI2
   subst e
   rw [mX,aR]
   exact Ok.br hI2
  intro o ho
  refine Ok.cs ho (fun s hs=>Ok.nx ⟨bP (by omega),fun i j x y hi hj hix hjy=>?_⟩) (fun r hr=>Ok.rt hr)
  by_cases e:i=k
  ·subst e;rw [hx] at hix;injection hix with hix;rw [<-hix];exact hs j y hj hjy
  ·exact hI i j x y (by omega) hj hix hjy
 ·rintro s e hI
  subst e
  rw [mX,aR]
  refine Ok.br ?_
  rintro⟨i,j,x,y,hij,hx,hy,hc⟩
  exact hI i j x y (bA.1 hx).1 hij hx hy hc
 intro o ho
 exact Ok.cs ho (fun s hs=>hn hs s) (fun r hr=>Ok.ret (by rw [hr.1];exact hc hr.2))
theorem checked {a:ld} (hs:uC a) (hN:4398046511104<=N):Checked N a:=by
 obtain⟨x,hx,hI⟩:=Bl (N:=N) hs hN
 have hbe:=DE a
 have hcp:=yR (N:=N) hs hN
 rcases hI with ⟨he,rfl⟩ | ⟨h0,hg,hcl,mY,gI,D,hI⟩
 ·refine .err _ he hx (Ok.get ?_)
  unfold dB
  refine Ok.eq hcp ?_
  by_cases h:lC a≠0
  ·rw [aC h] at hbe
   rw [show (lC a != 0)=true by simpa using h,aP,hbe];exact Ok.ret rfl
  ·rw [aG h] at hbe
   have hp0:lC a=0:=by simpa using h
   have hc:qz a:=by
    by_cases hc:qz a
    ·exact hc
    ·rw [aG hc] at hbe;exact absurd hbe he
   rw [aC hc] at hbe
   rw [hp0,show ((0:Int) != 0)=false by rfl,aR]
   have hbo:=Aj hp0
   refine Fb ⟨(lL hbo).1,fun b hb=>⟨((lL hbo).2 b hb).1,((lL hbo).2 b hb).2.1⟩⟩ hN (fun _=>hbe.symm) (fun h=>absurd hc h)
 ·have hp0:lC a=0:=by
   by_cases h:lC a≠0
   ·rw [aC h] at hbe;rw [hbe] at h0;exact h0
   ·simpa using h
  have key:dB N a=some (if Jz mY gI then 0 else 2):=by
   refine Ok.get ?_
   unfold dB
   refine Ok.eq hcp ?_
   rw [hp0,show ((0:Int) != 0)=false by rfl,aR]
   refine Fb hg.gb hN (fun h=>absurd h hcl) (fun _ _=>?_)
   have hc16:=hg.yP.2
   refine Ok.bind (Ok.pq (n:=a.aJ.length) (fun s=>s.2) (fun k st=>st.1= ((((gI.take k).map List.length).sum:Nat):Int)/\((gI.take k).map List.length).sum<=k*2000/\∀(j:Nat) s,j<k->mY[j]? =some s->(aS s).length<=2000)
    (Go:=fun st=>st.1= (((gI.map List.length).sum:Nat):Int)/\∀s∈mY,(aS s).length<=2000) (Rt:=fun r=>r=2/\¬Jz mY gI) ?_ ?_ (dM _) rfl ⟨by simp,by simp,fun j s hj=>by omega⟩ (by omega)) ?_
   ·rintro k ⟨m,i⟩ hk e ⟨hm,hml,hI2⟩
    dsimp only at e hm ⊢
    subst e;subst hm
    rw [kE hk,aP]
    have hcx:a.aJ[k]? =some a.aJ[k]:=aN hk
    have hd:mY[k]? =some (mY[k]'(by rw [D.len];exact hk)):=aN _
    have hcs:=hg.cs _ (cM hk)
    refine Ok.eq (uG hg.gb hcx hcs.1 hcs.2 (D.dr k _ _ hk hcx hd) hN) (Ok.bif (fun h=>Ok.rt ⟨rfl,fun hf=>?_⟩) (fun h=>?_))
    ·have:=hf.1 _ (eU hd)
     have:=of_decide_eq_true h
     omega
    ·have hf: (aS (mY[k]'(by rw [D.len];exact hk))).length<=2000:=by have:=of_decide_eq_false h;omega
     obtain⟨ps,u,hp,L⟩:=F1 hg D hk hd hf
     have hpl:=L.pt.yP
     have hkp:k<gI.length:=by rw [D.yO];exact hk
     have hpe:gI[k]=ps:=by rw [aN hkp] at hp;injection hp
     refine Ok.eq (L.pieces hN) (Ok.nx ⟨bP (by omega),?_,?_,fun j s hj hjs=>?_⟩)
     ·dsimp only
      rw [cV,wrap_add (by omega),eF hkp,dN,List.sum_append,hpe]
      simp
     ·rw [eF hkp,dN,List.sum_append,hpe]
      simp only [dX,List.map_nil,List.sum_cons,List.sum_nil]
      rw [Nat.add_mul];omega
     ·by_cases e:j=k
      ·subst e;rw [hd] at hjs;injection hjs with hjs;rw [<-hjs];exact hf
      ·exact hI2 j s (by omega) hjs
   ·rintro⟨m,i⟩ e ⟨hm,hml,hI2⟩
    dsimp only at e hm ⊢
    subst e
    rw [mX,aR]
    rw [lj (by rw [D.yO];exact bT _)] at hm
    refine Ok.br ⟨hm,fun s hs'=>?_⟩
    obtain⟨j,hj⟩:=dS hs'
    exact hI2 j s (by have:=(bA.1 hj).1;rw [D.len] at this;exact this) hj
   intro o ho
   refine Ok.cs ho ?_ (fun r hr=>Ok.ret (by rw [hr.1,aG hr.2]))
   rintro⟨m,i⟩ ⟨hm,hf⟩
   dsimp only at hm ⊢
   subst hm
   have hpl:=uX gI 0
   refine Ok.bif (fun h=>Ok.ret ?_) (fun h=>Ok.ret ?_)
   ·rw [aG]
    rintro⟨_,h2⟩
    have:=of_decide_eq_true h
    omega
   ·rw [aC]
    exact⟨hf,by have:=of_decide_eq_false h;omega⟩
  rcases hI with ⟨hf,rfl⟩ | ⟨hf,r,gs,ofP,ofB,wc,we,hC,rfl⟩
  ·rw [aG hf] at key
   exact .err 2 (by decide) hx key
  ·rw [aC hf] at key
   exact .ok ⟨hg,hcl,D,hf,hC⟩ hx key
end
end Go.Gk
namespace Go.Gk
open Go Classical
theorem y5: ∀{l m:List Int},jm l->jm m->(∀x,x∈l↔x∈m)->l=m
 | [],[],_,_,_=>rfl
 | [],b::m,_,_,h=>absurd ((h b).2 (by simp)) (by simp)
 | a::l,[],_,_,h=>absurd ((h a).1 (by simp)) (by simp)
 | a::l,b::m,hl,hm,h=>by
  have h1:a=b:=by
   have ha:=(h a).1 (by simp)
   have hb:=(h b).2 (by simp)
   rcases dC.1 ha with e | ha
   ·exact e
   ·rcases dC.1 hb with e | hb
    ·exact e.symm
    ·have:=hl.head b hb
     have:=hm.head a ha
     omega
  subst h1
  rw [y5 hl.tail hm.tail fun x=>?_]
  have hx:=h x
  rw [dC,dC] at hx
  constructor
  ·intro hxl
   rcases hx.1 (.inr hxl) with e | h'
   ·have:=hl.head x hxl;omega
   ·exact h'
  ·intro hxm
   rcases hx.2 (.inr hxm) with e | h'
   ·have:=hm.head x hxm;omega
   ·exact h'
theorem DF {l:List Nat} (h:l.Pairwise (· < ·)):jm (ints l):=by
 unfold jm ints
 rw [List.pairwise_map]
 exact h.imp fun h=>by omega
section
variable {N:Nat}
theorem Ak {l:List Int} {c:Int} (h:jm l) (hl:l.length<=1000000000) (hN:4398046511104<=N):iv N l c=some (pR l c):=by
 refine Ok.get ?_
 unfold iv
 refine Ok.bind (Ok.jz (Go:=fun s=>∃a:Nat,s= ((a:Nat):Int)/\a<=l.length/\(∀(j:Nat) x,a<=j->l[j]? =some x->c<x)/\(∀x,0<a->l[a - 1]? =some x->¬c<x)) (Rt:=fun _=>False)
  (fun s=>∃a:Nat,s= ((a:Nat):Int)/\a<=l.length/\∀(j:Nat) x,a<=j->l[j]? =some x->c<x) (fun s=>s.toNat) ?_ ⟨l.length,rfl,bT _,fun j x hj hx=>by have:=(bA.1 hx).1;omega⟩ (by simp only [cH];omega)) ?_
 ·rintro s ⟨a,rfl,ha,hI⟩
  by_cases h0:0<a
  ·have hx:l[a - 1]? =some (l[a - 1]'(by omega)):=aN _
   rw [bR (by omega),aP,i5 h0 (by omega),dU hx,aB,aB]
   refine Ok.bif (fun hb=>?_) (fun hb=>?_)
   ·have hb:=of_decide_eq_true hb
    refine Ok.nx ⟨⟨a - 1,rfl,by omega,fun j x hj hx'=>?_⟩,by simp only [cH];omega⟩
    by_cases e:j=a - 1
    ·subst e;rw [hx] at hx';injection hx' with hx';rw [<-hx'];exact hb
    ·exact hI j x (by omega) hx'
   ·have hb:=of_decide_eq_false hb
    exact Ok.br ⟨a,rfl,ha,hI,fun x _ hx'=>by rw [hx] at hx';injection hx' with hx';rw [<-hx'];exact hb⟩
  ·rw [cC (by omega),aR,aB,aR]
   exact Ok.br ⟨a,rfl,ha,hI,fun x h=>absurd h h0⟩
 intro o ho
 refine Ok.cs ho ?_ (fun r hr=>hr.elim)
 rintro s ⟨a,rfl,ha,hI,hE⟩
 have hlow: ∀(j:Nat) x,j<a->l[j]? =some x->x<=c:=fun j x hj hx=>by
  have hy:l[a - 1]? =some (l[a - 1]'(by omega)):=aN _
  have h1:=hE _ (by omega) hy
  by_cases e:j=a - 1
  ·subst e;rw [hy] at hx;injection hx with hx;omega
  ·have:=h.lt (i:=j) (j:=a - 1) (by omega) hx hy;omega
 have hout:c∉l->pR l c=l.take a++c::l.drop a:=fun hc=>by
  unfold pR
  rw [aG hc]
  obtain⟨e1,e2⟩:=pQ (p:=fun x=>decide (x<c)) (l:=l) (k:=a) (fun j x hj hx=>bR (by
   have h1:=hlow j x hj hx
   have h2:x≠c:=fun e=>hc (e▸eU hx)
   omega)) (fun x hx=>cC (by have:=hI a x (bT _) hx;omega))
  rw [e1,e2]
 have hrest:c∉l->Ok ((sC l 0 ((a:Nat):Int)).bind fun x61=>(app 8 ([]: (List Int)) x61).bind fun x63=>(app 8 x63 ([c]: (List Int))).bind fun x66=>(sC l ((a:Nat):Int) ((l.length:Nat):Int)).bind fun x68=>(app 8 x66 x68).bind fun x70=>some x70) (fun r=>r=pR l c):=fun hc=>by
  have htk: (l.take a).length=a:=by rw [cL];omega
  refine Ok.eq (qf l a ha) (Ok.app (by simp only [List.length_nil];omega) (Ok.app (by rw [List.nil_append];simp only [dP,List.length_nil];omega) (Ok.eq (oR l a ha) (Ok.app ?_ (Ok.ret ?_)))))
  ·rw [List.nil_append,cZ,iA];simp only [dP,List.length_nil];omega
  ·rw [hout hc];simp
 by_cases h0:0<a
 ·have hx:l[a - 1]? =some (l[a - 1]'(by omega)):=aN _
  rw [bR (by omega),aP,i5 h0 (by omega),dU hx,aB,aB]
  refine Ok.bif (fun hb=>Ok.ret ?_) (fun hb=>hrest ?_)
  ·rw [beq_iff_eq] at hb
   unfold pR;rw [aC (by rw [<-hb];exact eU hx)]
  ·rw [beq_eq_false_iff_ne] at hb
   intro hc
   obtain⟨j,hj⟩:=dS hc
   by_cases h1:a<=j
   ·have:=hI j c h1 hj;omega
   ·by_cases e:j=a - 1
    ·subst e;rw [hx] at hj;injection hj with hj;exact hb hj
    ·have:=h.lt (i:=j) (j:=a - 1) (by omega) hj hx
     have:=hlow (a - 1) _ (by omega) hx
     omega
 ·rw [cC (by omega),aR,aB,aR]
  refine hrest fun hc=>?_
  obtain⟨j,hj⟩:=dS hc
  have:=hI j c (by omega) hj;omega
theorem tj {l:List Int} {c:Int} (hl:l.length<=1099511627776) (hN:4398046511104<=N):cS N l c=some (decide (c∈l)):=by
 refine Ok.get ?_
 unfold cS
 refine Ok.bind (Ok.pq (n:=l.length) (fun s=>s) (fun k _=>∀(j:Nat) x,j<k->l[j]? =some x->x≠c) (Go:=fun _=>c∉l) (Rt:=fun r=>r=true/\c∈l) ?_ ?_ (dM _) rfl (fun j x hj=>by omega) (by omega)) ?_
 ·rintro k s hk e hI
  subst e
  rw [kE hk,aP]
  have hx:l[k]? =some l[k]:=aN hk
  refine Ok.ix hx (Ok.bif (fun hb=>Ok.rt ⟨rfl,?_⟩) (fun hb=>Ok.nx ⟨bP (by omega),fun j x hj hx'=>?_⟩))
  ·rw [beq_iff_eq] at hb
   exact hb▸cM hk
  ·by_cases e:j=k
   ·subst e;rw [hx] at hx';injection hx' with hx';rw [<-hx'];exact beq_eq_false_iff_ne.1 hb
   ·exact hI j x (by omega) hx'
 ·rintro s e hI
  subst e
  rw [mX,aR]
  refine Ok.br fun hc=>?_
  obtain⟨j,hj⟩:=dS hc
  exact hI j c (bA.1 hj).1 hj rfl
 intro o ho
 exact Ok.cs ho (fun s hs=>Ok.ret (cC hs).symm) (fun r hr=>Ok.ret (by rw [hr.1,bR hr.2]))
theorem Ho {p q:aI} (hp:p.X0<p.X1/\p.Y0<p.Y1) (hq:q.X0<q.X1/\q.Y0<q.Y1):pO p q=decide ((0<min p.X1 q.X1 - max p.X0 q.X0/\min p.Y1 q.Y1 - max p.Y0 q.Y0=0)\/(min p.X1 q.X1 - max p.X0 q.X0=0/\0<min p.Y1 q.Y1 - max p.Y0 q.Y0)):=by
 unfold pO
 rw [fc]
 simp only [dK,bW,bQ,beq_iff_eq]
 constructor
 ·rintro(h | h)
  ·left;omega
  ·right;omega
 ·rintro(h | h)
  ·left;omega
  ·right;omega
theorem Ic {l:List aI} {q:aI} (hl:l.length<=1000000000) (ho: ∀r∈l,Ar r) (hq:Ar q) (hN:4398046511104<=N):iX N l q=some (l.any (fun r=>pO r q)):=by
 refine Ok.get ?_
 unfold iX
 refine Ok.bind (Ok.pq (n:=l.length) (fun s=>s) (fun k _=>∀(j:Nat) x,j<k->l[j]? =some x->pO x q=false) (Go:=fun _=>l.any (fun r=>pO r q)=false) (Rt:=fun r=>r=true/\l.any (fun r=>pO r q)=true) ?_ ?_ (dM _) rfl (fun j x hj=>by omega) (by omega)) ?_
 ·rintro k s hk e hI
  subst e
  rw [kE hk,aP]
  have hx:l[k]? =some l[k]:=aN hk
  have hr:=ho _ (cM hk)
  have hb:=Ho (p:=l[k]) (q:=q) ⟨hr.x,hr.y⟩ ⟨hq.x,hq.y⟩
  have a1:=hr.s1;have a2:=hr.s2;have a3:=hr.s3;have a4:=hr.s4
  have b1:=hq.s1;have b2:=hq.s2;have b3:=hq.s3;have b4:=hq.s4
  unfold small at a1 a2 a3 a4 b1 b2 b3 b4
  refine Ok.ix hx (Ok.ix hx (Ok.ix hx (Ok.ix hx ?_)))
  rw [s9,s9,tc,tc,eT (x:=min l[k].X1 q.X1 - max l[k].X0 q.X0) (by omega) (by omega),eT (x:=min l[k].Y1 q.Y1 - max l[k].Y0 q.Y0) (by omega) (by omega)]
  have e: ((decide (min l[k].X1 q.X1 - max l[k].X0 q.X0>0)&&(min l[k].Y1 q.Y1 - max l[k].Y0 q.Y0==0))||((min l[k].X1 q.X1 - max l[k].X0 q.X0==0)&&decide (min l[k].Y1 q.Y1 - max l[k].Y0 q.Y0>0)))=pO l[k] q:=by
   rw [hb,fc]
   simp only [dK,bW,bQ,beq_iff_eq,gt_iff_lt]
  rw [e]
  refine Ok.bif (fun h=>Ok.rt ⟨rfl,kG.2 ⟨_,cM hk,h⟩⟩) (fun h=>Ok.nx ⟨bP (by omega),fun j x hj hx'=>?_⟩)
  by_cases e:j=k
  ·subst e;rw [hx] at hx';injection hx' with hx';rw [<-hx'];exact h
  ·exact hI j x (by omega) hx'
 ·rintro s e hI
  subst e
  rw [mX,aR]
  refine Ok.br ?_
  rw [List.any_eq_false]
  intro x hx
  obtain⟨j,hj⟩:=dS hx
  rw [hI j x (bA.1 hj).1 hj];exact nh
 intro o ho
 exact Ok.cs ho (fun s hs=>Ok.ret hs.symm) (fun r hr=>Ok.ret (by rw [hr.1,hr.2]))
theorem yd (r:List aI) (p:jc):yr r p=rX r p.X p.Y:=by
 unfold yr rX
 congr 1
 funext x
 rw [fc]
 simp only [bW,bQ,ge_iff_le,and_assoc]
theorem yD {r:List aI} {p:jc} (hl:r.length<=134217728) (hr: ∀x∈r,x.X0<x.X1) (hN:4398046511104<=N):eM N r p=some (yr r p):=by
 refine Ok.get ?_
 unfold eM
 refine Ok.bind (B6 hl hN) fun s hs=>?_
 have hsl:s.length<=r.length:=by have:=qA r p.Y;rw [<-hs,cV] at this;exact this
 refine Ok.eq (x8 (by omega) hN) (Ok.ret ?_)
 rw [hs,(sq hr p.Y).2,yd]
def Hp (bs:List cD) (pcs:List aK) (l:fK):Option j9:=match pcs.findIdx? (ky l) with
 | some k=>some ⟨false,((k:Nat):Int)⟩
 | none=>(bs.findIdx? (k8 l)).map fun k=>⟨true,((k:Nat):Int)⟩
theorem Ie {bs:List cD} {pcs:List aK} {l:fK} (hd: ∀b∈bs,∀p∈pcs,k8 l b=true->ky l p=true->False):Hp bs pcs l=yQ bs pcs l:=by
 unfold Hp yQ
 cases h1:pcs.findIdx? (ky l) with
 | none=>cases bs.findIdx? (k8 l) <;> rfl
 | some k=>
  cases h2:bs.findIdx? (k8 l) with
  | none=>rfl
  | some j=>
   obtain⟨hk,hp,_⟩:=List.findIdx?_eq_some_iff_getElem.1 h1
   obtain⟨hj,hb,_⟩:=List.findIdx?_eq_some_iff_getElem.1 h2
   exact(hd _ (cM hj) _ (cM hk) hb hp).elim
theorem Al {α:Type} {l:List α} {p:α->Bool} {k:Nat} {x:α} (hx:l[k]? =some x) (hp:p x=true) (hn: ∀(j:Nat) y,j<k->l[j]? =some y->p y=false):l.findIdx? p=some k:=by
 obtain⟨hk,rfl⟩:=bA.1 hx
 rw [List.findIdx?_eq_some_iff_getElem]
 exact⟨hk,hp,fun j hj=>by rw [hn j _ hj (aN _)];exact nh⟩
theorem Am {α:Type} {l:List α} {p:α->Bool} (hn: ∀(j:Nat) y,j<l.length->l[j]? =some y->p y=false):l.findIdx? p=none:=by
 rw [List.findIdx?_eq_none_iff]
 intro x hx
 obtain⟨j,hj⟩:=dS hx
 exact hn j x (bA.1 hj).1 hj
theorem F2 {bs:List cD} {pcs:List aK} (hb:kg bs) (hp:pcs.length<=1000000) (hr: ∀p∈pcs,p.gM.length<=1000000/\∀x∈p.gM,x.X0<x.X1) (l:fK) (hN:4398046511104<=N):
  gA N bs (pcs.map aK.cU) (pcs.map aK.gM) l=some ((Hp bs pcs l).getD ⟨false,0⟩,(Hp bs pcs l).isSome):=by
 refine Ok.get ?_
 have hbl:=hb.len
 unfold gA Hp
 rw [cV]
 refine Ok.bind (Ok.pq (n:=pcs.length) (fun s=>s) (fun k _=>∀(j:Nat) x,j<k->pcs[j]? =some x->ky l x=false) (Go:=fun _=>pcs.findIdx? (ky l)=none) (Rt:=fun r=>∃k:Nat,pcs.findIdx? (ky l)=some k/\r= (⟨false,((k:Nat):Int)⟩,true)) ?_ ?_ (dM _) rfl (fun j x hj=>by omega) (by omega)) ?_
 ·rintro k s hk e hI
  subst e
  rw [kE hk,aP]
  have hx:pcs[k]? =some pcs[k]:=aN hk
  have hlx: (pcs.map aK.cU)[k]? =some pcs[k].cU:=by rw [gr,hx];rfl
  have hrx: (pcs.map aK.gM)[k]? =some pcs[k].gM:=by rw [gr,hx];rfl
  have hrl:=hr _ (cM hk)
  have hcond: ((idx (pcs.map aK.cU) ((k:Nat):Int)).bind fun x88=>bif (x88==l.cU) then ((idx (pcs.map aK.gM) ((k:Nat):Int)).bind fun x91=>(eM N x91 l.At).bind fun x95=>some x95) else (some false))=some (ky l pcs[k]):=by
   rw [dU hlx,aB,dU hrx,aB,yD (by omega) hrl.2 hN,aB]
   unfold ky
   cases pcs[k].cU==l.cU <;> rfl
  refine Ok.eq hcond (Ok.bif (fun h=>Ok.rt ⟨k,Al hx h hI,rfl⟩) (fun h=>Ok.nx ⟨bP (by omega),fun j x hj hx'=>?_⟩))
  by_cases e:j=k
  ·subst e;rw [hx] at hx';injection hx' with hx';rw [<-hx'];exact h
  ·exact hI j x (by omega) hx'
 ·rintro s e hI
  subst e
  rw [mX,aR]
  exact Ok.br (Am hI)
 intro o ho
 refine Ok.cs ho ?_ (fun r hr=>by obtain⟨k,h1,h2⟩:=hr;rw [h1,h2];exact Ok.ret rfl)
 intro _ hno
 rw [hno]
 dsimp only
 refine Ok.bind (Ok.pq (n:=bs.length) (fun s=>s) (fun k _=>∀(j:Nat) x,j<k->bs[j]? =some x->k8 l x=false) (Go:=fun _=>bs.findIdx? (k8 l)=none) (Rt:=fun r=>∃k:Nat,bs.findIdx? (k8 l)=some k/\r= (⟨true,((k:Nat):Int)⟩,true)) ?_ ?_ (dM _) rfl (fun j x hj=>by omega) (by omega)) ?_
 ·rintro k s hk e hI
  subst e
  rw [kE hk,aP]
  have hx:bs[k]? =some bs[k]:=aN hk
  have hg:=hb.ok _ (cM hk)
  have hcond: ((idx bs ((k:Nat):Int)).bind fun x301=>bif x301.fJ then ((idx bs ((k:Nat):Int)).bind fun x305=>(eR N x305 l.cU).bind fun x308=>bif x308 then ((idx bs ((k:Nat):Int)).bind fun x310=>(cG N x310).bind fun x313=>(eM N ([x313]: (List aI)) l.At).bind fun x317=>some x317) else (some false)) else (some false))=some (k8 l bs[k]):=by
   rw [dU hx,aB,aB,ti,aB,aB,lM hg.1,aB,yD (by simp) (fun x hx=>by simp at hx;subst hx;exact(sq_pos hg.1).1) hN,aB]
   unfold k8
   cases bs[k].fJ with
   | false=>rfl
   | true=>cases jG bs[k] l.cU <;> rfl
  refine Ok.eq hcond (Ok.bif (fun h=>Ok.rt ⟨k,Al hx h hI,rfl⟩) (fun h=>Ok.nx ⟨bP (by omega),fun j x hj hx'=>?_⟩))
  by_cases e:j=k
  ·subst e;rw [hx] at hx';injection hx' with hx';rw [<-hx'];exact h
  ·exact hI j x (by omega) hx'
 ·rintro s e hI
  subst e
  rw [mX,aR]
  exact Ok.br (Am hI)
 intro o ho
 exact Ok.cs ho (fun _ h=>Ok.ret (by rw [h];rfl)) (fun r hr=>by obtain⟨k,h1,h2⟩:=hr;rw [h1,h2];exact Ok.ret rfl)
end
section
variable {N:Nat} {a:ld} {mY:List (List aA)} {gI:List (List (List aA))} {r:Nat->Nat} {gs:List cO} {ofP ofB wc:List Int} {we:List j9}
theorem An (b:rz a mY gI r gs ofP ofB wc we) {p:aK} (hp:p∈eJ 0 gI):p.gM.length<=2000/\(∀q∈p.gM,fj q=true/\q.X0<q.X1/\q.Y0<q.Y1)/\∃i:Nat,p.cU= ((i:Nat):Int)/\∀x y,rX p.gM x y=true->rX (jL a.aO ((i:Nat):Int)) x y=false:=by
 obtain⟨i,ps,q,h1,h2,rfl⟩:=xZ hp
 have hil:i<a.aJ.length:=by have:=(bA.1 h1).1;rw [b.dr.yO] at this;exact this
 obtain⟨s,ps',u,g1,g2,L⟩:=yz b hil
 rw [h1] at g2;injection g2 with g2;subst g2
 obtain⟨k1,k2,k3⟩:=L.part h2
 refine⟨k2,k3,i,by simp,fun x y h=>?_⟩
 have h3:rX (ps.flatMap aS) x y=true:=yy.2 ⟨q,h2,h⟩
 rw [L.cover,L.dr.cover,bW,Bool.not_eq_true'] at h3
 exact h3.2
theorem Ig (b:rz a mY gI r gs ofP ofB wc we) (l:fK): ∀x∈a.aO,∀p∈eJ 0 gI,k8 l x=true->ky l p=true->False:=fun x hx p hp h1 h2=>by
 obtain⟨_,_,i,e,hc⟩:=An b hp
 unfold k8 at h1
 unfold ky at h2
 rw [bW,bW,yd] at h1
 rw [bW,yd,beq_iff_eq] at h2
 have h3:=hc _ _ h2.2
 rw [<-e,h2.1] at h3
 obtain⟨q,hq,hxy⟩:=iK.1 h1.2.2
 simp at hq
 subst hq
 have h4:rX (jL a.aO l.cU) l.At.X l.At.Y=true:=iK.2 ⟨tP x,dH.2 ⟨x,jr.2 ⟨hx,h1.2.1⟩,rfl⟩,hxy⟩
 rw [h3] at h4;cases h4
end
end Go.Gk
namespace Go.Gk
open Go Classical
structure PS (n:Nat) (r:Nat->Nat) (h:Nat) (q:List Nat) (seen:List Bool) (pieces todo:List Int):Prop where
 sl:seen.length=n
 sn: ∀p,p<n->seen[p]? =some (decide (r p<h\/p∈q))
 qn:q.Nodup
 qi: ∀p∈q,p<n/\r p=h
 q0:h∈q
 td:todo=ints q
 pi:jm pieces
 pm: ∀x,x∈pieces↔∃p∈q,x= ((p:Nat):Int)
structure QS (n m:Nat) (tch:List (List Int)) (r:Nat->Nat) (h:Nat) (q qb:List Nat) (xk:List Int) (used:List Bool):Prop where
 ul:used.length=m
 un: ∀k,k<m->used[k]? =some (decide (k∈qb))
 bi:jm xk
 bm: ∀x,x∈xk↔∃k∈qb,x= ((k:Nat):Int)
 bk: ∀k∈qb,k<m/\r (n+k)=h/\∀l,tch[k]? =some l->∀p:Nat,((p:Nat):Int)∈l->p∈q
theorem PS.yP {n:Nat} {r:Nat->Nat} {h:Nat} {q:List Nat} {seen:List Bool} {pieces todo:List Int} (H:PS n r h q seen pieces todo):q.length<=n/\pieces.length<=n:=by
 have h1:=fD H.qn (m:=List.range n) (fun k hk=>by rw [qO];exact(H.qi k hk).1)
 rw [List.length_range] at h1
 have h2:=fD H.pi.nodup (m:=ints q) (fun x hx=>o4.2 ((H.pm x).1 hx))
 rw [k7] at h2
 exact⟨h1,by omega⟩
theorem QS.yP {n m:Nat} {tch:List (List Int)} {r:Nat->Nat} {h:Nat} {q qb:List Nat} {xk:List Int} {used:List Bool} (H:QS n m tch r h q qb xk used):xk.length<=m:=by
 have h2:=fD H.bi.nodup (m:=ints (List.range m)) (fun x hx=>by
  obtain⟨k,hk,e⟩:=(H.bm x).1 hx
  exact o4.2 ⟨k,qO.2 (H.bk k hk).1,e⟩)
 rwa [k7,List.length_range] at h2
theorem Jt (n t:Nat) (r:Nat->Nat) (h:Nat):jm (ints (gP n (cls t r h))):=DF (List.Pairwise.sublist (List.filter_sublist.trans List.filter_sublist) (List.pairwise_lt_range (n:=t)))
theorem Hq (bs:List cD) (n t:Nat) (r:Nat->Nat) (h:Nat):jm (ints (gB bs n (cls t r h))):=by
 refine DF ?_
 unfold gB
 rw [List.pairwise_map]
 have hp: (List.filter (fun i=> !decide (i<n)&&sg bs (i - n)) (cls t r h)).Pairwise (· < ·):=List.Pairwise.sublist (List.filter_sublist.trans List.filter_sublist) (List.pairwise_lt_range (n:=t))
 refine hp.imp_of_mem fun{a b} ha hb hab=>?_
 have h1:=(jr.1 ha).2
 rw [bW,Bool.not_eq_true',decide_eq_false_iff_not] at h1
 omega
theorem Cd {n t:Nat} {r:Nat->Nat} {h p:Nat}:p∈gP n (cls t r h)↔p<n/\p<t/\r p=h:=by
 unfold gP
 rw [jr,oJ,bQ]
 constructor
 ·rintro⟨⟨h1,h2⟩,h3⟩;exact⟨h3,h1,h2⟩
 ·rintro⟨h3,h1,h2⟩;exact⟨⟨h1,h2⟩,h3⟩
theorem ye {bs:List cD} {n t:Nat} {r:Nat->Nat} {h k:Nat}:k∈gB bs n (cls t r h)↔n+k<t/\r (n+k)=h/\sg bs k=true:=by
 unfold gB
 rw [dH]
 constructor
 ·rintro⟨i,hi,rfl⟩
  rw [jr,oJ,bW,Bool.not_eq_true',decide_eq_false_iff_not] at hi
  have e:n+ (i - n)=i:=by omega
  rw [e]
  exact⟨hi.1.1,hi.1.2,hi.2.2⟩
 ·rintro⟨h1,h2,h3⟩
  refine⟨n+k,?_,by omega⟩
  rw [jr,oJ,bW,Bool.not_eq_true',decide_eq_false_iff_not,Nat.add_sub_cancel_left]
  exact⟨⟨h1,h2⟩,by omega,h3⟩
section
variable {N:Nat}
theorem DG {bs:List cD} {n m:Nat} {tch:List (List Int)} {r:Nat->Nat} (hC:H6 n m tch r) (hm:tch.length=m) (ht: ∀l∈tch,l.length<=1073741824/\∀x∈l,∃i:Nat,i<n/\x= ((i:Nat):Int)) (hn:n<=1000000) (hm2:m<=1000000)
  (hpl: ∀(k:Nat) l,tch[k]? =some l->l≠[]->sg bs k=true) {h:Nat} (hh:h<n) (hr:r h=h) {seen:List Bool} (hsl:seen.length=n) (hsn: ∀p,p<n->seen[p]? =some (decide (r p<h))) (hN:4398046511104<=N):
  Ok (gj N tch ((h:Nat):Int) seen) (fun x=>x.1.1=ints (gP n (cls (n+m) r h))/\x.1.2.1=ints (gB bs n (cls (n+m) r h))/\x.1.2.2= []/\x.2.length=n/\∀p,p<n->x.2[p]? =some (decide (r p<h+1))):=by
 unfold gj
 refine Ok.ix (hsn h hh) (Ok.eq (qT false (by omega)) ?_)
 refine Ok.bind (Ok.jz (Go:=fun st=>st.2.1=ints (gP n (cls (n+m) r h))/\st.2.2.1=ints (gB bs n (cls (n+m) r h))/\st.1.length=n/\∀p,p<n->st.1[p]? =some (decide (r p<h+1))) (Rt:=fun _=>False)
  (fun st=>∃(q qb:List Nat) (t:Nat),st.2.2.2.2.2= ((t:Nat):Int)/\t<=q.length/\PS n r h q st.1 st.2.1 st.2.2.2.2.1/\QS n m tch r h q qb st.2.2.1 st.2.2.2.1/\∀(j p k:Nat) l,j<t->q[j]? =some p->tch[k]? =some l->((p:Nat):Int)∈l->k∈qb)
  (fun st=>n+1 - st.2.2.2.2.2.toNat) ?_ ⟨[h],[],0,rfl,by simp,?_,?_,fun j p k l hj=>by omega⟩ (by simp;omega)) ?_
 ·rintro⟨sn,pi,bo,us,td,t'⟩ ⟨q,qb,t,e,htq,hP,hQ,hcl⟩
  dsimp only at e hP hQ ⊢
  subst e
  have htl:td.length=q.length:=by rw [hP.td,k7]
  have hqf:=hP.yP
  by_cases hlt:t<q.length
  ·rw [kE (by omega:t<td.length),aP]
   have hqt:q[t]? =some q[t]:=aN hlt
   have hqi:=hP.qi _ (cM hlt)
   refine Ok.bind (Ok.pq (n:=tch.length) (fun st=>st.2.2.2.2.2) (fun i st=>∃q' qb',q <+:q'/\(∀k∈qb,k∈qb')/\PS n r h q' st.1 st.2.1 st.2.2.2.2.1/\QS n m tch r h q' qb' st.2.2.1 st.2.2.2.1/\∀k l,k<i->tch[k]? =some l->((q[t]:Nat):Int)∈l->k∈qb')
    (Go:=fun st=>∃q' qb',q <+:q'/\(∀k∈qb,k∈qb')/\PS n r h q' st.1 st.2.1 st.2.2.2.2.1/\QS n m tch r h q' qb' st.2.2.1 st.2.2.2.1/\∀k l,tch[k]? =some l->((q[t]:Nat):Int)∈l->k∈qb') (Rt:=fun _=>False) ?_ ?_ (dM _) rfl
    ⟨q,qb,List.prefix_refl _,fun k hk=>hk,hP,hQ,fun k l hk=>by omega⟩ (by omega)) ?_
   ·rintro k ⟨sn1,pi1,bo1,us1,td1,i'⟩ hk e ⟨q1,qb1,hpre,hsub,hP1,hQ1,hc1⟩
    dsimp only at e hP1 hQ1 ⊢
    subst e
    rw [kE hk,aP]
    have hkm:k<m:=by omega
    have htk:tch[k]? =some tch[k]:=aN hk
    have htk2:=ht _ (cM hk)
    have hq1t:td1[t]? =some ((q[t]:Nat):Int):=by
     rw [hP1.td];unfold ints;rw [gr,yb hpre hqt];rfl
    have hcond: ((idx us1 ((k:Nat):Int)).bind fun x948=>bif x948 then (some true) else ((idx tch ((k:Nat):Int)).bind fun x950=>(idx td1 ((t:Nat):Int)).bind fun x953=>(cS N x950 x953).bind fun x954=>some (!x954)))=some (decide (k∈qb1)|| !decide (((q[t]:Nat):Int)∈tch[k])):=by
     rw [dU (hQ1.un k hkm),aB,dU htk,aB,dU hq1t,aB,tj (l:=tch[k]) (c:=((q[t]:Nat):Int)) (by have:=htk2.1;omega) hN,aB]
     cases decide (k∈qb1) <;> rfl
    refine Ok.eq hcond (Ok.bif (fun hb=>Ok.nx ⟨bP (by omega),q1,qb1,hpre,hsub,hP1,hQ1,fun k' l hk' hl hm'=>?_⟩) (fun hb=>?_))
    ·by_cases e:k'=k
     ·subst e
      rw [htk] at hl;injection hl with hl
      rw [hl,bR hm',lT,Bool.or_false,bQ] at hb
      exact hb
     ·exact hc1 k' l (by omega) hl hm'
    ·rw [Bool.or_eq_false_iff,decide_eq_false_iff_not,Bool.not_eq_false',bQ] at hb
     obtain⟨hkn,hqm⟩:=hb
     have hrk:r (n+k)=h:=by rw [<-hC.co q[t] (n+k) ⟨k,_,htk,hqm,rfl⟩];exact hqi.2
     have hbf:=hQ1.yP
     refine Ok.ix (hQ1.un k hkm) (Ok.eq (Ak hQ1.bi (by omega) hN) ?_)
     refine Ok.bind (Ok.pq (n:=tch[k].length) (fun st=>st.2.2.2) (fun i st=>∃q2,q1 <+:q2/\PS n r h q2 st.1 st.2.1 st.2.2.1/\∀(j p:Nat),j<i->tch[k][j]? =some ((p:Nat):Int)->p∈q2)
      (Go:=fun st=>∃q2,q1 <+:q2/\PS n r h q2 st.1 st.2.1 st.2.2.1/\∀(p:Nat),((p:Nat):Int)∈tch[k]->p∈q2) (Rt:=fun _=>False) ?_ ?_ (dM _) rfl ⟨q1,List.prefix_refl _,hP1,fun j p hj=>by omega⟩ (by omega)) ?_
     ·rintro j ⟨sn2,pi2,td2,jj⟩ hj e ⟨q2,hpre2,hP2,hc2⟩
      dsimp only at e hP2 ⊢
      subst e
      have hlj:tch[k][j]? =some tch[k][j]:=aN hj
      obtain⟨p,hpn,hpe⟩:=htk2.2 _ (cM hj)
      rw [hpe] at hlj
      have hpf:=hP2.yP
      have hrp:r p=h:=by rw [hC.co p (n+k) ⟨k,_,htk,eU hlj,rfl⟩];exact hrk
      refine Ok.ix htk ?_
      rw [kE hj,aP]
      refine Ok.ix htk (Ok.ix hlj (Ok.ix (hP2.sn p hpn) ?_))
      refine Ok.bind (P:=fun st:List Bool×List Int×List Int=>∃q2,q1 <+:q2/\PS n r h q2 st.1 st.2.1 st.2.2/\∀(j' p:Nat),j'<j+1->tch[k][j']? =some ((p:Nat):Int)->p∈q2) (Ok.bif (fun hb=>?_) (fun hb=>Ok.ret ⟨q2,hpre2,hP2,fun j' p' hj' hp'=>?_⟩)) (fun st hst=>Ok.nx ⟨bP (by omega),hst⟩)
      ·have hpq:p∉q2:=by
        rw [Bool.not_eq_true',decide_eq_false_iff_not] at hb
        exact fun h=>hb (.inr h)
       refine Ok.ix (hP2.sn p hpn) (Ok.eq (Ak hP2.pi (by omega) hN) (Ok.app (by rw [hP2.td,k7];simp only [dP,List.length_nil];omega) (Ok.ret ⟨q2++[p],hpre2.trans (List.prefix_append _ _),⟨?_,?_,?_,?_,?_,?_,?_,?_⟩,?_⟩)))
       ·rw [iQ];exact hP2.sl
       ·intro p' hp'
        rw [cH,fe]
        by_cases e:p=p'
        ·subst e
         rw [aC rfl,aC (by rw [hP2.sl];exact hpn)]
         congr 1
         exact(bR (.inr (by simp))).symm
        ·rw [aG e,hP2.sn p' hp']
         congr 1
         rw [decide_eq_decide,dA]
         simp only [qP]
         constructor
         ·exact fun h=>h.elim .inl (fun h=> .inr (.inl h))
         ·exact fun h=>h.elim .inl (fun h=>h.elim .inr (fun h=>absurd h.symm e))
       ·rw [List.nodup_append]
        exact⟨hP2.qn,by simp,fun a ha b hb=>by simp at hb;subst hb;exact fun e=>hpq (e▸ha)⟩
       ·intro p' hp'
        rcases dA.1 hp' with hp' | hp'
        ·exact hP2.qi p' hp'
        ·simp at hp';subst hp';exact⟨hpn,hrp⟩
       ·exact List.mem_append_left _ hP2.q0
       ·dsimp only;rw [hP2.td,o0];rfl
       ·exact sj hP2.pi
       ·intro x
        rw [z6,hP2.pm]
        constructor
        ·rintro(⟨p',h1,h2⟩ | h1)
         ·exact⟨p',List.mem_append_left _ h1,h2⟩
         ·exact⟨p,by simp,h1⟩
        ·rintro⟨p',h1,h2⟩
         rcases dA.1 h1 with h1 | h1
         ·exact .inl ⟨p',h1,h2⟩
         ·simp at h1;subst h1;exact .inr h2
       ·intro j' p' hj' hp'
        by_cases e:j'=j
        ·subst e;rw [hlj] at hp';injection hp' with hp'
         have:p'=p:=by omega
         subst this;simp
        ·exact List.mem_append_left _ (hc2 j' p' (by omega) hp')
      ·by_cases e:j'=j
       ·subst e;rw [hlj] at hp';injection hp' with hp'
        have:p'=p:=by omega
        subst this
        rw [Bool.not_eq_false',bQ] at hb
        rcases hb with hb | hb
        ·omega
        ·exact hb
       ·exact hc2 j' p' (by omega) hp'
     ·rintro⟨sn2,pi2,td2,jj⟩ e ⟨q2,hpre2,hP2,hc2⟩
      dsimp only at e hP2 ⊢
      subst e
      refine Ok.ix htk ?_
      rw [mX,aR]
      refine Ok.br ⟨q2,hpre2,hP2,fun p hp=>?_⟩
      obtain⟨j,hj⟩:=dS hp
      exact hc2 j p (bA.1 hj).1 hj
     intro o ho
     refine Ok.cs ho ?_ (fun r hr=>hr.elim)
     rintro⟨sn2,pi2,td2,jj⟩ ⟨q2,hpre2,hP2,hc2⟩
     dsimp only at hP2 ⊢
     refine Ok.nx ⟨bP (by omega),q2,qb1++[k],hpre.trans hpre2,fun k' hk'=>List.mem_append_left _ (hsub k' hk'),hP2,⟨?_,?_,?_,?_,?_⟩,fun k' l hk' hl hm'=>?_⟩
     ·rw [iQ];exact hQ1.ul
     ·intro k' hk'
      rw [cH,fe]
      by_cases e:k=k'
      ·subst e
       rw [aC rfl,aC (by rw [hQ1.ul];exact hkm)]
       congr 1
       exact(bR (by simp)).symm
      ·rw [aG e,hQ1.un k' hk']
       congr 1
       rw [decide_eq_decide,dA]
       simp only [qP]
       exact⟨.inl,fun h=>h.elim id (fun h=>absurd h.symm e)⟩
     ·exact sj hQ1.bi
     ·intro x
      rw [z6,hQ1.bm]
      constructor
      ·rintro(⟨p',h1,h2⟩ | h1)
       ·exact⟨p',List.mem_append_left _ h1,h2⟩
       ·exact⟨k,by simp,h1⟩
      ·rintro⟨p',h1,h2⟩
       rcases dA.1 h1 with h1 | h1
       ·exact .inl ⟨p',h1,h2⟩
       ·simp at h1;subst h1;exact .inr h2
     ·intro k' hk'
      rcases dA.1 hk' with hk' | hk'
      ·obtain⟨h1,h2,h3⟩:=hQ1.bk k' hk'
       exact⟨h1,h2,fun l hl p hp=>hpre2.subset (h3 l hl p hp)⟩
      ·simp at hk';subst hk'
       refine⟨hkm,hrk,fun l hl p hp=>?_⟩
       rw [htk] at hl;injection hl with hl
       exact hc2 p (by rw [hl];exact hp)
     ·by_cases e:k'=k
      ·subst e;simp
      ·exact List.mem_append_left _ (hc1 k' l (by omega) hl hm')
   ·rintro⟨sn1,pi1,bo1,us1,td1,i'⟩ e ⟨q1,qb1,hpre,hsub,hP1,hQ1,hc1⟩
    dsimp only at e hP1 hQ1 ⊢
    subst e
    rw [mX,aR]
    exact Ok.br ⟨q1,qb1,hpre,hsub,hP1,hQ1,fun k l hl=>hc1 k l (bA.1 hl).1 hl⟩
   intro o ho
   refine Ok.cs ho ?_ (fun r hr=>hr.elim)
   rintro⟨sn1,pi1,bo1,us1,td1,i'⟩ ⟨q1,qb1,hpre,hsub,hP1,hQ1,hc1⟩
   dsimp only at hP1 hQ1 ⊢
   refine Ok.nx ⟨⟨q1,qb1,t+1,bP (by omega),by have:=hpre.length_le;omega,hP1,hQ1,fun j p k l hj hjp hl hm'=>?_⟩,?_⟩
   ·by_cases e:j=t
    ·subst e
     rw [yb hpre hqt] at hjp;injection hjp with hjp;subst hjp
     exact hc1 k l hl hm'
    ·have hjq:q[j]? =some (q[j]'(by omega)):=aN _
     rw [yb hpre hjq] at hjp;injection hjp with hjp;subst hjp
     exact hsub k (hcl j _ k l (by omega) hjq hl hm')
   ·rw [bP (by omega)];simp only [cH];omega
  ·rw [xn (by omega:td.length<=t),aR]
   have htq':t=q.length:=by omega
   have hclosed: ∀i j,Lk n tch i j->(((i<n/\i∈q)\/∃k,k∈qb/\i=n+k)↔((j<n/\j∈q)\/∃k,k∈qb/\j=n+k)):=by
    rintro i j ⟨k,l,hl,hil,rfl⟩
    obtain⟨i',hi',ei⟩:=(ht l (eU hl)).2 _ hil
    have:i'=i:=by omega
    subst this
    constructor
    ·rintro(⟨_,h1⟩ | ⟨k',_,h1⟩)
     ·obtain⟨p,hp⟩:=dS h1
      exact .inr ⟨k,hcl p i' k l (by rw [htq'];exact(bA.1 hp).1) hp hl hil,rfl⟩
     ·omega
    ·rintro(⟨h1,_⟩ | ⟨k',h1,h2⟩)
     ·omega
     ·have:k'=k:=by omega
      subst this
      exact .inl ⟨hi',(hQ.bk k' h1).2.2 l hl i' hil⟩
   have hall: ∀x,x<n+m->r x=h->(x<n/\x∈q)\/∃k,k∈qb/\x=n+k:=fun x hx hrx=>hC.fi _ hclosed h x (by omega) hx (by rw [hr,hrx]) (.inl ⟨hh,hP.q0⟩)
   refine Ok.br ⟨?_,?_,hP.sl,fun p hp=>?_⟩
   ·refine y5 hP.pi (Jt _ _ _ _) fun x=>?_
    rw [hP.pm,o4]
    constructor
    ·rintro⟨p,h1,h2⟩
     exact⟨p,Cd.2 ⟨(hP.qi p h1).1,by have:=(hP.qi p h1).1;omega,(hP.qi p h1).2⟩,h2⟩
    ·rintro⟨p,h1,h2⟩
     obtain⟨g1,g2,g3⟩:=Cd.1 h1
     rcases hall p g2 g3 with ⟨_,g4⟩ | ⟨k,_,g4⟩
     ·exact⟨p,g4,h2⟩
     ·omega
   ·refine y5 hQ.bi (Hq _ _ _ _ _) fun x=>?_
    rw [hQ.bm,o4]
    constructor
    ·rintro⟨k,h1,h2⟩
     obtain⟨g1,g2,g3⟩:=hQ.bk k h1
     refine⟨k,ye.2 ⟨by omega,g2,?_⟩,h2⟩
     have hk:tch[k]? =some (tch[k]'(by omega)):=aN _
     refine hpl k _ hk fun hemp=>?_
     have hal: ∀i j,Lk n tch i j->((i=n+k)↔(j=n+k)):=by
      rintro i j ⟨k',l,hl,hil,rfl⟩
      obtain⟨i',hi',ei⟩:=(ht l (eU hl)).2 _ hil
      constructor
      ·intro;omega
      ·intro e
       have:k'=k:=by omega
       subst this
       rw [hk] at hl;injection hl with hl
       rw [<-hl,hemp] at hil;cases hil
     have:=hC.fi (fun x=>x=n+k) hal (n+k) h (by omega) (by omega) (by rw [g2,hr]) rfl
     omega
    ·rintro⟨k,h1,h2⟩
     obtain⟨g1,g2,_⟩:=ye.1 h1
     rcases hall (n+k) g1 g2 with ⟨g4,_⟩ | ⟨k',g3,g4⟩
     ·omega
     ·have:k'=k:=by omega
      subst this
      exact⟨k',g3,h2⟩
   ·rw [hP.sn p hp]
    congr 1
    rw [decide_eq_decide]
    constructor
    ·rintro(h1 | h1)
     ·omega
     ·have:=(hP.qi p h1).2;omega
    ·intro h1
     by_cases e:r p=h
     ·rcases hall p (by omega) e with ⟨_,g4⟩ | ⟨k,_,g4⟩
      ·exact .inr g4
      ·omega
     ·exact .inl (by omega)
 ·refine⟨by rw [iQ];exact hsl,fun p hp=>?_,by simp,fun p hp=>by simp at hp;subst hp;exact⟨hh,hr⟩,by simp,rfl,List.pairwise_singleton _ _,fun x=>by simp⟩
  rw [cH,fe]
  by_cases e:h=p
  ·subst e
   rw [aC rfl,aC (by rw [hsl];exact hh)]
   congr 1
   exact(bR (.inr (by simp))).symm
  ·rw [aG e,hsn p hp]
   congr 1
   rw [decide_eq_decide]
   simp only [qP]
   omega
 ·exact⟨by rw [uH];exact hm,fun k hk=>by simp [hm,hk],jH,fun x=>by simp,fun k hk=>by cases hk⟩
 intro o ho
 refine Ok.cs ho ?_ (fun r hr=>hr.elim)
 rintro⟨sn,pi,bo,us,td,t'⟩ ⟨h1,h2,h3,h4⟩
 exact Ok.ret ⟨h1,h2,rfl,h3,h4⟩
end
end Go.Gk
namespace Go.Gk
open Go Classical
theorem Bq (bs:List cD) (n t:Nat) (r:Nat->Nat) (hs:List Nat) (h:Nat):k9 bs n t r (hs++[h])=if Dn bs n (cls t r h)=true then k9 bs n t r hs++[IG bs n (cls t r h)] else k9 bs n t r hs:=by
 unfold k9
 rw [Bj]
 split
 ·rw [dN];rfl
 ·rfl
def Ih (bs:List cD) (n m:Nat) (r:Nat->Nat) (h:j9):Nat:=gi bs n (n+m) r (r (lB n h))
structure Ju (G G':List cO):Prop where
 len:G'.length=G.length
 each: ∀(g:Nat) x,G[g]? =some x->∃y,G'[g]? =some y/\y.jP=x.jP/\y.aO=x.aO
theorem AO (G:List cO) (lg:fK->Option Nat) (ls:List fK):Ju G (fT G lg ls):=
 ⟨xg _ _ _,fun g x hx=>⟨{x with fW:=(ls.filter (fun l=>decide (lg l=some g))).map mM},by rw [jf,hx];rfl,rfl,rfl⟩⟩
section
variable {N:Nat}
theorem Ao {bs:List cD} {n m:Nat} {r:Nat->Nat} (hbm:bs.length=m) (hn:n<=1000000) (hm:m<=1000000) (hle: ∀i,i<n+m->r i<=i) (hrr: ∀i,i<n+m->r (r i)=r i) {G:List cO} (hG:Ju (k9 bs n (n+m) r (bK (n+m) r)) G) {h:j9} (hh:II bs n m h) (hN:4398046511104<=N):
  dR N G h=some ((Ih bs n m r h:Nat):Int)/\Ih bs n m r h<G.length:=by
 obtain⟨k,hk,hkb,hkp⟩:=hh.num
 have hx:lB n h<n+m:=by
  unfold lB
  by_cases hb:h.cD=true
  ·rw [aC hb];have:=(hkb hb).1;omega
  ·rw [aG hb];have:=hkp (by simpa using hb);omega
 have hhead:r (lB n h)∈bK (n+m) r:=ja.2 ⟨by have:=hle _ hx;omega,hrr _ hx⟩
 have hne:Dn bs n (cls (n+m) r (r (lB n h)))=true:=by
  unfold lB at hx ⊢
  by_cases hb:h.cD=true
  ·rw [aC hb] at hx ⊢
   rw [hk,cH] at hx ⊢
   exact Hd (hkb hb).2 hx
  ·rw [aG hb] at hx ⊢
   rw [hk,cH] at hx ⊢
   exact Hc (hkp (by simpa using hb)) hx
 obtain⟨g1,g2⟩:=IH (bs:=bs) (n:=n) hhead hne
 have hlen:G.length= (live bs n (n+m) r (bK (n+m) r)).length:=by rw [hG.len,si]
 have hlive: (live bs n (n+m) r (bK (n+m) r)).Nodup:=List.Nodup.sublist List.filter_sublist (mw _ _)
 have hll: (live bs n (n+m) r (bK (n+m) r)).length<=n+m:=by
  have:=pP bs n (n+m) r (bK (n+m) r)
  have:=kZ (n+m) r
  omega
 have hval: ∀(g:Nat) y,G[g]? =some y->Ok (bif h.cD then ((idx G ((g:Nat):Int)).bind fun x241=>(cS N x241.aO h.Number).bind fun x250=>bif x250 then (some true) else (bif (!h.cD) then ((idx G ((g:Nat):Int)).bind fun x253=>(cS N x253.jP h.Number).bind fun x262=>some x262) else (some false))) else (bif (!h.cD) then ((idx G ((g:Nat):Int)).bind fun x264=>(cS N x264.jP h.Number).bind fun x273=>some x273) else (some false)))
   (fun b=>b=true↔(live bs n (n+m) r (bK (n+m) r))[g]? =some (r (lB n h))):=fun g y hy=>by
  have hgl:g< (live bs n (n+m) r (bK (n+m) r)).length:=by have:=(bA.1 hy).1;omega
  have hlx: (live bs n (n+m) r (bK (n+m) r))[g]? =some (live bs n (n+m) r (bK (n+m) r))[g]:=aN hgl
  have hgx: (k9 bs n (n+m) r (bK (n+m) r))[g]? =some (IG bs n (cls (n+m) r (live bs n (n+m) r (bK (n+m) r))[g])):=by unfold k9;rw [gr,hlx];rfl
  obtain⟨y',hy',e1,e2⟩:=hG.each g _ hgx
  rw [hy] at hy';injection hy' with hy';subst hy'
  generalize hhd: (live bs n (n+m) r (bK (n+m) r))[g]=hd at *
  have hpl:y.jP.length<=n+m/\y.aO.length<=n+m:=by
   have:=En n (cls (n+m) r hd)
   have:=Eo bs n (cls (n+m) r hd)
   have:=yZ (n+m) r hd
   rw [e1,e2];unfold IG;simp only [k7];omega
  rw [hlx]
  cases hb:h.cD with
  | true=>
   rw [aP,dU hy,aB,tj (by omega) hN,aB]
   have hix:lB n h=n+k:=by unfold lB;rw [aC hb,hk,cH]
   have hiff: (h.Number∈y.aO)↔hd=r (lB n h):=by
    rw [e2,hix]
    unfold IG
    dsimp only
    rw [o4,hk]
    constructor
    ·rintro⟨i,hi,e⟩
     have:i=k:=by omega
     subst this
     exact(ye.1 hi).2.1.symm
    ·intro e
     exact⟨k,ye.2 ⟨by have:=(hkb hb).1;omega,e.symm,(hkb hb).2⟩,rfl⟩
   by_cases hin:h.Number∈y.aO
   ·rw [bR hin,aP]
    exact Ok.ret ⟨fun _=>by rw [hiff.1 hin],fun _=>rfl⟩
   ·rw [cC hin,aR,lT,aR]
    refine Ok.ret ⟨fun h=>(by cases h),fun h=>?_⟩
    injection h with h
    exact absurd (hiff.2 h) hin
  | false=>
   rw [aR,nU,aP,dU hy,aB,tj (by omega) hN,aB]
   have hix:lB n h=k:=by unfold lB;rw [aG (by rw [hb];exact nh),hk,cH]
   have hiff: (h.Number∈y.jP)↔hd=r (lB n h):=by
    rw [e1,hix]
    unfold IG
    dsimp only
    rw [o4,hk]
    constructor
    ·rintro⟨i,hi,e⟩
     have:i=k:=by omega
     subst this
     exact(Cd.1 hi).2.2.symm
    ·intro e
     exact⟨k,Cd.2 ⟨hkp hb,by have:=hkp hb;omega,e.symm⟩,rfl⟩
   refine Ok.ret ?_
   rw [bQ,hiff]
   exact⟨fun h=>by rw [h],fun h=>by injection h⟩
 refine⟨Ok.get ?_,by unfold Ih;omega⟩
 unfold dR Ih
 refine Ok.bind (Ok.pq (n:=G.length) (fun s=>s) (fun k _=>∀g,g<k->(live bs n (n+m) r (bK (n+m) r))[g]? ≠some (r (lB n h))) (Go:=fun _=>False) (Rt:=fun s=>s= ((gi bs n (n+m) r (r (lB n h)):Nat):Int)) ?_ ?_ (dM _) rfl (fun g hg=>by omega) (by omega)) ?_
 ·rintro g s hg e hI
  subst e
  rw [kE hg,aP]
  refine Ok.bind (hval g _ (aN hg)) fun b hb=>?_
  cases b with
  | true=>
   refine Ok.rt ?_
   have:=xY hlive (hb.1 rfl) g2
   rw [this]
  | false=>
   refine Ok.nx ⟨bP (by omega),fun g' hg'=>?_⟩
   by_cases e:g'=g
   ·subst e;intro h;have:=hb.2 h;cases this
   ·exact hI g' (by omega)
 ·rintro s e hI
  exact absurd g2 (hI _ (by omega))
 intro o ho
 exact Ok.cs ho (fun _ h=>h.elim) (fun r hr=>Ok.ret hr)
theorem DH {bs:List cD} {pcs:List aK} {r:Nat->Nat} (hb:kg bs) (hp:pcs.length<=1000000) (hpr: ∀p∈pcs,p.gM.length<=1000000/\∀x∈p.gM,x.X0<x.X1) (hd: ∀l:fK,∀b∈bs,∀p∈pcs,k8 l b=true->ky l p=true->False)
  (hle: ∀i,i<pcs.length+bs.length->r i<=i) (hrr: ∀i,i<pcs.length+bs.length->r (r i)=r i) {G:List cO} (hG:Ju (k9 bs pcs.length (pcs.length+bs.length) r (bK (pcs.length+bs.length) r)) G) (l:fK) (hN:4398046511104<=N):
  eI N bs (pcs.map aK.cU) (pcs.map aK.gM) G l=some (H7 bs pcs r l)/\∀g,y4 bs pcs r l=some g->g<G.length:=by
 have hbl:=hb.len
 unfold eI H7 y4
 rw [F2 hb hp hpr l hN,aB,Ie (hd l)]
 cases hh:yQ bs pcs l with
 | none=>exact⟨rfl,fun g h=>by cases h⟩
 | some h=>
  obtain⟨e1,e2⟩:=Ao (N:=N) rfl hp (by omega) hle hrr hG (Hb hh) hN
  refine⟨?_,fun g hg=>?_⟩
  ·dsimp only [Option.getD_some,Option.isSome_some]
   rw [lT,aR,e1,aB];rfl
  ·rw [Option.map_some] at hg;injection hg with hg
   rw [<-hg];exact e2
theorem Hr {bs:List cD} {pcs:List aK}: ∀(k:Nat) l,(iV bs pcs)[k]? =some l->l≠[]->sg bs k=true:=fun k l hl hne=>by
 unfold iV at hl
 rw [gr,qN] at hl
 obtain⟨b,hb,rfl⟩:=hl
 unfold sg
 rw [hb]
 cases hp:b.fJ with
 | true=>simpa using hp
 | false=>
  exfalso
  refine hne ?_
  have:nP (gS b) pcs pcs.length= []:=by
   unfold nP
   rw [List.filter_eq_nil_iff]
   intro j _
   rw [jI,Option.any_eq_false]
   intro p _
   unfold gS;rw [hp];rfl
  rw [this];rfl
theorem F3 {bs:List cD} {ls:List fK} {pcs:List aK} {r:Nat->Nat} (hb:kg bs) (hp:pcs.length<=2000) (hl:ls.length<=1000000) (hpr: ∀p∈pcs,p.gM.length<=1000000/\∀x∈p.gM,x.X0<x.X1) (hd: ∀l:fK,∀b∈bs,∀p∈pcs,k8 l b=true->ky l p=true->False)
  (hC:H6 pcs.length bs.length (iV bs pcs) r) (hN:4398046511104<=N):
  eP N bs ls (pcs.map aK.cU) (pcs.map aK.gM) (iV bs pcs)=some (fT (k9 bs pcs.length (pcs.length+bs.length) r (bK (pcs.length+bs.length) r)) (y4 bs pcs r) ls):=by
 refine Ok.get ?_
 have hbl:=hb.len
 have htl: (iV bs pcs).length=bs.length:=by unfold iV;rw [cV]
 have hto:=zX (bs:=bs) (pcs:=pcs) (by omega)
 have hgl: ∀hs:List Nat,(k9 bs pcs.length (pcs.length+bs.length) r hs).length<=hs.length:=fun hs=>by rw [si];exact pP _ _ _ _ _
 unfold eP
 rw [cV]
 refine Ok.eq (qT false (by omega)) ?_
 refine Ok.bind (Ok.pq (n:=pcs.length) (fun st=>st.2.2) (fun i st=>st.1=k9 bs pcs.length (pcs.length+bs.length) r (bK i r)/\st.2.1.length=pcs.length/\∀p,p<pcs.length->st.2.1[p]? =some (decide (r p<i)))
  (Go:=fun st=>st.1=k9 bs pcs.length (pcs.length+bs.length) r (bK pcs.length r)) (Rt:=fun _=>False) ?_ ?_ (dM _) rfl ⟨by simp [bK,k9,live],by simp,fun p hp=>by simp [hp]⟩ (by omega)) ?_
 ·rintro i ⟨G,sn,ii⟩ hi e ⟨hG,hsl,hsn⟩
  dsimp only at e hG hsl hsn ⊢
  subst e;subst hG
  rw [kE hi,aP]
  refine Ok.ix (hsn i hi) ?_
  refine Ok.bind (P:=fun st:List cO×List Bool=>st.1=k9 bs pcs.length (pcs.length+bs.length) r (bK (i+1) r)/\st.2.length=pcs.length/\∀p,p<pcs.length->st.2[p]? =some (decide (r p<i+1))) (Ok.bif (fun hb=>?_) (fun hb=>Ok.ret ⟨?_,hsl,fun p hp=>?_⟩)) (fun st hst=>Ok.nx ⟨bP (by omega),hst⟩)
  ·rw [Bool.not_eq_true',decide_eq_false_iff_not] at hb
   have hri:r i=i:=by have:=hC.le i (by omega);omega
   refine Ok.bind (DG (bs:=bs) hC htl hto (by omega) (by omega) Hr hi hri hsl hsn hN) fun x hx=>?_
   obtain⟨x1,x2,x3,x4,x5⟩:=hx
   have h1:=hgl (bK i r)
   have h2:=kZ i r
   refine Ok.app (by simp only [dP,List.length_nil];omega) (Ok.ret ⟨?_,x4,x5⟩)
   dsimp only
   have hne:Dn bs pcs.length (cls (pcs.length+bs.length) r i)=true:=by
    have:=Hc (bs:=bs) (r:=r) hi (show i<pcs.length+bs.length by omega)
    rwa [hri] at this
   rw [gm,aC hri,Bq,aC hne,x1,x2,x3];rfl
  ·rw [Bool.not_eq_false',bQ] at hb
   dsimp only
   rw [gm,aG (by omega)]
  ·rw [Bool.not_eq_false',bQ] at hb
   rw [hsn p hp]
   congr 1
   rw [decide_eq_decide]
   have hne:r p≠i:=fun e=>by have:=hC.rr p (by omega);rw [e] at this;omega
   omega
 ·rintro⟨G,sn,ii⟩ e ⟨hG,_,_⟩
  dsimp only at e hG ⊢
  subst e
  rw [mX,aR]
  exact Ok.br hG
 intro o ho
 refine Ok.cs ho ?_ (fun r hr=>hr.elim)
 rintro⟨G,sn,ii⟩ hG
 dsimp only at hG ⊢
 subst hG
 rw [htl]
 have halone: ∀k,k<bs.length->(iV bs pcs)[k]? =some []->∀x,x<pcs.length+bs.length->(r x=r (pcs.length+k)↔x=pcs.length+k):=fun k hk hemp x hx=>by
  constructor
  ·intro e
   refine hC.fi (fun y=>y=pcs.length+k) ?_ (pcs.length+k) x (by omega) hx e.symm rfl
   rintro i j ⟨k',l,hl,hil,rfl⟩
   obtain⟨i',hi',ei⟩:=(hto l (eU hl)).2 _ hil
   constructor
   ·intro;omega
   ·intro e
    have:k'=k:=by omega
    subst this
    rw [hemp] at hl;injection hl with hl
    rw [<-hl] at hil;cases hil
  ·intro e;rw [e]
 refine Ok.bind (Ok.pq (n:=bs.length) (fun st=>st.2) (fun i st=>st.1=k9 bs pcs.length (pcs.length+bs.length) r (bK (pcs.length+i) r))
  (Go:=fun st=>st.1=k9 bs pcs.length (pcs.length+bs.length) r (bK (pcs.length+bs.length) r)) (Rt:=fun _=>False) ?_ ?_ (dM _) rfl rfl (by omega)) ?_
 ·rintro i ⟨G,ii⟩ hi e hG
  dsimp only at e hG ⊢
  subst e;subst hG
  rw [kE hi,aP]
  have hx:bs[i]? =some bs[i]:=aN hi
  have htx: (iV bs pcs)[i]? =some ((iV bs pcs)[i]'(by omega)):=aN _
  have hpi:sg bs i=bs[i].fJ:=by unfold sg;rw [hx];rfl
  have hlen:=hgl (bK (pcs.length+i) r)
  have hhl:=kZ (pcs.length+i) r
  have hcond: ((idx bs ((i:Nat):Int)).bind fun x210=>bif x210.fJ then ((idx (iV bs pcs) ((i:Nat):Int)).bind fun x214=>some ((x214.length:Int)==0)) else (some false))=some (sg bs i&&decide ((iV bs pcs)[i]'(by omega)= [])):=by
   rw [dU hx,aB,dU htx,aB,hpi]
   cases bs[i].fJ with
   | false=>rfl
   | true=>
    rw [aP,Bool.true_and]
    congr 1
    rw [fc,bQ,beq_iff_eq]
    constructor
    ·intro h;exact List.eq_nil_of_length_eq_zero (by omega)
    ·intro h;rw [h];rfl
  refine Ok.eq hcond ?_
  have hstep:k9 bs pcs.length (pcs.length+bs.length) r (bK (pcs.length+ (i+1)) r)=if (sg bs i&&decide ((iV bs pcs)[i]'(by omega)= []))=true then k9 bs pcs.length (pcs.length+bs.length) r (bK (pcs.length+i) r)++[⟨[],[((i:Nat):Int)],[]⟩] else k9 bs pcs.length (pcs.length+bs.length) r (bK (pcs.length+i) r):=by
   rw [<-Nat.add_assoc,gm]
   by_cases hemp: (iV bs pcs)[i]'(by omega)= []
   ·rw [hemp] at htx
    have hal:=halone i hi htx
    have hri:r (pcs.length+i)=pcs.length+i:=by
     have h1:=hC.le (pcs.length+i) (by omega)
     exact(hal _ (by omega)).1 (hC.rr _ (by omega))
    rw [aC hri,Bq]
    have hcl: ∀x,x∈cls (pcs.length+bs.length) r (pcs.length+i)↔x=pcs.length+i:=fun x=>by
     rw [oJ]
     constructor
     ·rintro⟨h1,h2⟩;exact(hal x h1).1 (by rw [h2,hri])
     ·intro h;subst h;exact⟨by omega,hri⟩
    have hgp:gP pcs.length (cls (pcs.length+bs.length) r (pcs.length+i))= []:=by
     unfold gP
     rw [List.filter_eq_nil_iff]
     intro x hx
     rw [(hcl x).1 hx];simp
    by_cases hpl:sg bs i=true
    ·have hne:Dn bs pcs.length (cls (pcs.length+bs.length) r (pcs.length+i))=true:=by
      have:=Hd (bs:=bs) (n:=pcs.length) (r:=r) hpl (show pcs.length+i<pcs.length+bs.length by omega)
      rwa [hri] at this
     rw [aC hne,aC (by rw [hpl,bR hemp];rfl)]
     congr 2
     unfold IG
     rw [hgp]
     have hgb:ints (gB bs pcs.length (cls (pcs.length+bs.length) r (pcs.length+i)))= [((i:Nat):Int)]:=by
      refine y5 (Hq _ _ _ _ _) (List.pairwise_singleton _ _) fun x=>?_
      rw [o4]
      simp only [qP]
      constructor
      ·rintro⟨k,h1,h2⟩
       obtain⟨g1,g2,_⟩:=ye.1 h1
       have:=(hal _ g1).1 (by rw [g2,hri])
       omega
      ·intro h
       exact⟨i,ye.2 ⟨by omega,hri,hpl⟩,h⟩
     rw [hgb];rfl
    ·have hne: ¬Dn bs pcs.length (cls (pcs.length+bs.length) r (pcs.length+i))=true:=by
      unfold Dn
      have hgb:gB bs pcs.length (cls (pcs.length+bs.length) r (pcs.length+i))= []:=by
       unfold gB
       rw [List.map_eq_nil_iff,List.filter_eq_nil_iff]
       intro x hx
       rw [(hcl x).1 hx,Nat.add_sub_cancel_left]
       simp [hpl]
      rw [hgp,hgb];simp
     rw [aG hne,aG (by rw [jI] at hpl ⊢;rw [hpl];rfl)]
   ·have hri: ¬r (pcs.length+i)=pcs.length+i:=fun e=>by
     obtain⟨x,hxm⟩:=List.exists_mem_of_ne_nil _ hemp
     obtain⟨p,hp1,hp2⟩:=(hto _ (cM (show i< (iV bs pcs).length by omega))).2 x hxm
     have h1:=hC.co p (pcs.length+i) ⟨i,_,htx,by rw [<-hp2];exact hxm,rfl⟩
     have h2:=hC.le p (by omega)
     omega
    rw [aG hri,aG (by rw [cC hemp,Bool.and_false];exact nh)]
  refine Ok.bind (P:=fun st:List cO=>st=k9 bs pcs.length (pcs.length+bs.length) r (bK (pcs.length+ (i+1)) r)) (Ok.bif (fun hb=>?_) (fun hb=>Ok.ret ?_)) (fun st hst=>Ok.nx ⟨bP (by omega),hst⟩)
  ·refine Ok.app (by simp only [dP,List.length_nil];omega) (Ok.ret ?_)
   rw [hstep,aC hb]
  ·rw [hstep,aG (by rw [jI];exact hb)]
 ·rintro⟨G,ii⟩ e hG
  dsimp only at e hG ⊢
  subst e
  rw [mX,aR]
  exact Ok.br hG
 intro o ho
 refine Ok.cs ho ?_ (fun r hr=>hr.elim)
 rintro⟨G,ii⟩ hG
 dsimp only at hG ⊢
 subst hG
 have hGl:=hgl (bK (pcs.length+bs.length) r)
 have hhl:=kZ (pcs.length+bs.length) r
 generalize hGG:k9 bs pcs.length (pcs.length+bs.length) r (bK (pcs.length+bs.length) r)=G at *
 refine Ok.bind (Ok.pq (n:=ls.length) (fun st=>st.2) (fun i st=>st.1=fT G (y4 bs pcs r) (ls.take i)) (Go:=fun st=>st.1=fT G (y4 bs pcs r) ls) (Rt:=fun _=>False) ?_ ?_ (dM _) rfl ?_ (by omega)) ?_
 ·rintro i ⟨W,ii⟩ hi e hW
  dsimp only at e hW ⊢
  subst e;subst hW
  rw [kE hi,aP]
  have hx:ls[i]? =some ls[i]:=aN hi
  have hts:ls.take (i+1)=ls.take i++[ls[i]]:=eF hi
  obtain⟨e1,e2⟩:=DH (N:=N) (r:=r) hb (by omega) hpr hd hC.le hC.rr (G:=fT G (y4 bs pcs r) (ls.take i)) (by rw [hGG];exact AO _ _ _) ls[i] hN
  refine Ok.ix hx (Ok.eq e1 ?_)
  refine Ok.bind (P:=fun st:List cO=>st=fT G (y4 bs pcs r) (ls.take (i+1))) ?_ (fun st hst=>Ok.nx ⟨bP (by omega),hst⟩)
  unfold H7
  cases hg:y4 bs pcs r ls[i] with
  | none=>
   dsimp only
   rw [show decide ((-1:Int)>=0)=false by decide,aR]
   refine Ok.ret ?_
   rw [hts,vx hg]
  | some g=>
   have hgW:=e2 g hg
   have hWg: (fT G (y4 bs pcs r) (ls.take i))[g]? =some (fT G (y4 bs pcs r) (ls.take i))[g]:=aN hgW
   dsimp only
   rw [bR (by omega),aP]
   have hpl: (fT G (y4 bs pcs r) (ls.take i))[g].fW.length<=ls.length:=by
    have:=hWg
    rw [jf,qN] at this
    obtain⟨y,_,hy⟩:=this
    rw [<-hy]
    dsimp only
    rw [cV]
    have:=ni (fun l=>decide (y4 bs pcs r l=some g)) (ls.take i)
    rw [cL] at this;omega
   refine Ok.ix hWg (Ok.app (by simp only [dP,List.length_nil];omega) (Ok.ix hWg (Ok.ret ?_)))
   rw [cH,hts]
   exact xh hg hWg
 ·rintro⟨W,ii⟩ e hW
  dsimp only at e hW ⊢
  subst e
  rw [mX,aR]
  exact Ok.br (by rw [eO] at hW;exact hW)
 ·apply List.ext_getElem?
  intro g
  rw [jf]
  cases hGg:G[g]? with
  | none=>rfl
  | some x=>
   have hx0:x.fW= []:=by
    rw [<-hGG] at hGg
    unfold k9 at hGg
    rw [gr,qN] at hGg
    obtain⟨hd',_,rfl⟩:=hGg
    rfl
   simp only [Option.map_some,List.take_zero,List.filter_nil,List.map_nil,Option.some.injEq]
   rw [<-hx0]
 intro o ho
 exact Ok.cs ho (fun st hst=>Ok.ret hst) (fun r hr=>hr.elim)
end
section
variable {N:Nat} {a:ld} {mY:List (List aA)} {gI:List (List (List aA))} {r:Nat->Nat} {gs:List cO} {ofP ofB wc:List Int} {we:List j9}
theorem rz.He (b:rz a mY gI r gs ofP ofB wc we):uW a:=F0 b.z5.He
theorem yE (b:rz a mY gI r gs ofP ofB wc we) (hN:4398046511104<=N):
  gK N a=some (a.aJ,a.cE,a.aO,a.bV,(eJ 0 gI).map aK.cU,(eJ 0 gI).map aK.gM,gs,iV a.aO (eJ 0 gI)):=by
 refine Ok.get ?_
 have hc16:=b.z5.yP.2
 have hfew:=b.yP.2
 have hbl:=b.z5.gb.len
 have hll:=b.He.yP
 unfold gK
 have hpl: ∀k,(eJ 0 (gI.take k)).length<=2000:=fun k=>by
  have h1:=uX (gI.take k) 0
  have h2:=uX gI 0
  have h3: ((gI.take k).map List.length).sum<=(gI.map List.length).sum:=by
   conv=>rhs;rw [<-List.take_append_drop k gI,dN,List.sum_append]
   omega
  omega
 refine Ok.bind (Ok.pq (n:=a.aJ.length) (fun st=>st.2.2) (fun i st=>st.1= (eJ 0 (gI.take i)).map aK.cU/\st.2.1= (eJ 0 (gI.take i)).map aK.gM) (Go:=fun st=>st.1= (eJ 0 gI).map aK.cU/\st.2.1= (eJ 0 gI).map aK.gM) (Rt:=fun _=>False) ?_ ?_ (dM _) rfl ⟨rfl,rfl⟩ (by omega)) ?_
 ·rintro i ⟨La,Re,ii⟩ hi e ⟨h1,h2⟩
  dsimp only at e h1 h2 ⊢
  subst e;subst h1;subst h2
  rw [kE hi,aP]
  obtain⟨s,ps,u,hd,hp,L⟩:=yz b hi
  have hcx:a.aJ[i]? =some a.aJ[i]:=aN hi
  have hcs:=b.z5.cs _ (cM hi)
  have hip:=(bA.1 hp).1
  have hts:eJ 0 (gI.take (i+1))=eJ 0 (gI.take i)++ps.map (fun p=>⟨((i:Nat):Int),p,aS p⟩):=by
   rw [eF hip,(bA.1 hp).2,sZ,cL]
   simp only [iB,show min i gI.length=i by omega]
  have hl1:=hpl i
  have hl2:=hpl (i+1)
  rw [hts,cZ,cV] at hl2
  refine Ok.eq (uG b.z5.gb hcx hcs.1 hcs.2 L.dr hN) (Ok.eq (L.pieces hN) ?_)
  rw [cV]
  refine Ok.bind (Ok.pq (n:=ps.length) (fun st=>st.2.2) (fun j st=>st.1= (eJ 0 (gI.take i)).map aK.cU++(ps.take j).map (fun _=>((i:Nat):Int))/\st.2.1= (eJ 0 (gI.take i)).map aK.gM++(ps.take j).map aS)
   (Go:=fun st=>st.1= (eJ 0 (gI.take (i+1))).map aK.cU/\st.2.1= (eJ 0 (gI.take (i+1))).map aK.gM) (Rt:=fun _=>False) ?_ ?_ (dM _) rfl ⟨by simp,by simp⟩ (by omega)) ?_
  ·rintro j ⟨La,Re,jj⟩ hj e ⟨h1,h2⟩
   dsimp only at e h1 h2 ⊢
   subst e;subst h1;subst h2
   rw [kE hj,aP]
   have hx: (ps.map aS)[j]? =some (aS ps[j]):=by rw [gr,aN hj];rfl
   refine Ok.app ?_ (Ok.ix hx (Ok.app ?_ (Ok.nx ⟨bP (by omega),?_,?_⟩)))
   ·rw [cZ,cV,cV,cL];simp only [dP,List.length_nil];omega
   ·rw [cZ,cV,cV,cL];simp only [dP,List.length_nil];omega
   ·dsimp only;rw [eF hj,dN,kh];rfl
   ·dsimp only;rw [eF hj,dN,kh];rfl
  ·rintro⟨La,Re,jj⟩ e ⟨h1,h2⟩
   dsimp only at e h1 h2 ⊢
   subst e;subst h1;subst h2
   rw [mX,aR]
   refine Ok.br ⟨?_,?_⟩
   ·dsimp only;rw [hts,dN,List.map_map,eO];rfl
   ·dsimp only;rw [hts,dN,List.map_map,eO];rfl
  intro o ho
  exact Ok.cs ho (fun st hst=>Ok.nx ⟨bP (by omega),hst⟩) (fun r hr=>hr.elim)
 ·rintro⟨La,Re,ii⟩ e ⟨h1,h2⟩
  dsimp only at e h1 h2 ⊢
  subst e
  rw [mX,aR]
  rw [lj (by rw [b.dr.yO];exact bT _)] at h1 h2
  exact Ok.br ⟨h1,h2⟩
 intro o ho
 refine Ok.cs ho ?_ (fun r hr=>hr.elim)
 rintro⟨La,Re,ii⟩ ⟨h1,h2⟩
 dsimp only at h1 h2 ⊢
 subst h1;subst h2
 rw [cV]
 have hpf:=fun p hp=>An b (p:=p) hp
 generalize hpcs:eJ 0 gI=pcs at *
 refine Ok.bind (Ok.pq (n:=a.aO.length) (fun st=>st.2) (fun i st=>st.1=iV (a.aO.take i) pcs) (Go:=fun st=>st.1=iV a.aO pcs) (Rt:=fun _=>False) ?_ ?_ (dM _) rfl rfl (by omega)) ?_
 ·rintro i ⟨T,ii⟩ hi e hT
  dsimp only at e hT ⊢
  subst e;subst hT
  rw [kE hi,aP]
  have hx:a.aO[i]? =some a.aO[i]:=aN hi
  have hg:=b.z5.gb.ok _ (cM hi)
  have hsq:=IF hg.1 hg.2
  have hplain: ¬a.aO[i].fJ=true->nP (gS a.aO[i]) pcs pcs.length= []:=fun hp=>by
   unfold nP
   rw [List.filter_eq_nil_iff]
   intro j _
   rw [jI,Option.any_eq_false]
   intro p _
   unfold gS;rw [jI] at hp;rw [hp];rfl
  refine Ok.bind (Ok.jz (Go:=fun st=>st.1=ints (nP (gS a.aO[i]) pcs pcs.length)) (Rt:=fun _=>False) (fun st=>∃j:Nat,st.2= ((j:Nat):Int)/\j<=pcs.length/\st.1=ints (nP (gS a.aO[i]) pcs j)) (fun st=>pcs.length - st.2.toNat) ?_ ⟨0,rfl,dM _,rfl⟩ (by simp;omega)) ?_
  ·rintro⟨ow,jj⟩ ⟨j,e,hj,ho⟩
   dsimp only at e ho ⊢
   subst e;subst ho
   by_cases hlt:j<pcs.length
   ·rw [kE hlt,aP,dU hx,aB,aB]
    refine Ok.bif (fun hpl=>?_) (fun hpl=>Ok.br ?_)
    ·have hpx:pcs[j]? =some pcs[j]:=aN hlt
     have hlx: (pcs.map aK.cU)[j]? =some pcs[j].cU:=by rw [gr,hpx];rfl
     have hrx: (pcs.map aK.gM)[j]? =some pcs[j].gM:=by rw [gr,hpx];rfl
     obtain⟨f1,f2,_⟩:=hpf _ (cM hlt)
     have hil:=xX (gS a.aO[i]) pcs j
     have hcond: ((some a.aO[i]).bind fun x932=>(idx (pcs.map aK.cU) ((j:Nat):Int)).bind fun x935=>(eR N x932 x935).bind fun x936=>bif x936 then ((idx (pcs.map aK.gM) ((j:Nat):Int)).bind fun x938=>(some a.aO[i]).bind fun x941=>(cG N x941).bind fun x944=>(iX N x938 x944).bind fun x946=>some x946) else (some false))=some (gS a.aO[i] pcs[j]):=by
      rw [aB,dU hlx,aB,ti,aB,dU hrx,aB,aB,lM hg.1,aB,Ic (by omega) (fun q hq=>B4 (f2 q hq).1 (f2 q hq).2.1 (f2 q hq).2.2) hsq hN,aB]
      unfold gS
      rw [hpl,Bool.true_and]
      cases jG a.aO[i] pcs[j].cU <;> rfl
     refine Ok.eq hcond ?_
     refine Ok.bind (P:=fun st:List Int=>st=ints (nP (gS a.aO[i]) pcs (j+1))) (Ok.bif (fun hb=>?_) (fun hb=>Ok.ret ?_)) (fun st hst=>Ok.nx ⟨⟨j+1,bP (by omega),hlt,hst⟩,?_⟩)
     ·refine Ok.app (by rw [k7];simp only [dP,List.length_nil];omega) (Ok.ret ?_)
      rw [vZ hpx,aC hb,o0];rfl
     ·rw [vZ hpx,aG (by rw [jI];exact hb)]
     ·dsimp only;rw [bP (by omega)];simp only [cH];omega
    ·have hn:=hplain (by rw [hpl];exact nh)
     have hj0:nP (gS a.aO[i]) pcs j= []:=by
      unfold nP
      rw [List.filter_eq_nil_iff]
      intro j' hj'
      rw [jI,Option.any_eq_false]
      intro p _
      unfold gS;rw [hpl];rfl
     dsimp only
     rw [hn,hj0]
   ·have:j=pcs.length:=by omega
    subst this
    rw [mX,aR,aB,aR]
    exact Ok.br rfl
  intro o ho
  refine Ok.cs ho ?_ (fun r hr=>hr.elim)
  rintro⟨ow,jj⟩ ho2
  dsimp only at ho2 ⊢
  subst ho2
  refine Ok.app ?_ (Ok.nx ⟨bP (by omega),?_⟩)
  ·unfold iV;rw [cV,cL];simp only [dP,List.length_nil];omega
  ·dsimp only
   unfold iV
   rw [eF hi,dN];rfl
 ·rintro⟨T,ii⟩ e hT
  dsimp only at e hT ⊢
  subst e
  rw [mX,aR]
  exact Ok.br (by rw [eO] at hT;exact hT)
 intro o ho
 refine Ok.cs ho ?_ (fun r hr=>hr.elim)
 rintro⟨T,ii⟩ hT
 dsimp only at hT ⊢
 subst hT
 have hcon:=b.MX
 rw [hpcs] at hcon
 have hnb:=fun l=>Ig b l
 rw [hpcs] at hnb
 refine Ok.eq (F3 (r:=r) b.z5.gb (by omega) (by omega) (fun p hp=>⟨by have:=(hpf p hp).1;omega,fun x hx=>((hpf p hp).2.1 x hx).2.1⟩) hnb hcon.conn hN) (Ok.ret ?_)
 rw [<-hcon.gs]
end
end Go.Gk
namespace Go.Gk
open Go Classical
theorem xt (i:Int) {n:Nat} (hn:n<=1048576) {W:Option Bool} (hW:W=some (decide (i>=0)&&decide (i<=IntKind.wrap .i64 (((n:Nat):Int) - 1)))):
  (W=some false/\¬(0<=i/\i<n))\/(W=some true/\∃k:Nat,i= ((k:Nat):Int)/\k<n):=by
 rw [eT (by omega) (by omega)] at hW
 by_cases h:0<=i/\i<n
 ·exact .inr ⟨by rw [hW,bR (show i>=0 from h.1),bR (show i<=((n:Nat):Int) - 1 by omega)];rfl,i.toNat,by omega,by omega⟩
 ·refine .inl ⟨?_,h⟩
  rw [hW]
  by_cases h0:i>=0
  ·rw [cC (show ¬i<=((n:Nat):Int) - 1 by omega),Bool.and_false]
  ·rw [cC h0,Bool.false_and]
section
variable {N:Nat} {a:ld} {mY:List (List aA)} {gI:List (List (List aA))} {r:Nat->Nat} {gs:List cO} {ofP ofB wc:List Int} {we:List j9}
theorem Ap (b:rz a mY gI r gs ofP ofB wc we) (h1:iO N a=some (some (a.aJ,a.cE,a.aO,a.bV,mY,eJ 0 gI,iV a.aO (eJ 0 gI),gs,ofP,ofB,wc,we),0)) (h2:dB N a=some 0) (i:Int) (hN:4398046511104<=N):
  ∃x,gZ N a i=some x/\eL N a i=some x/\x.1.length<=2000:=by
 have hf:=b.yP.2
 unfold gZ eL
 rw [h1,h2,aB,aB,yE b hN,aB]
 simp only [Gn,bne_self_eq_false,aR,cV]
 rcases xt (n:=(eJ 0 gI).length) i (by omega) (W:=fg N i 0 (IntKind.wrap .i64 (((eJ 0 gI).length:Int) - 1))) rfl with ⟨e1,hi⟩ | ⟨e1,k,rfl,hk⟩
 ·have e2:cK N i 0 (IntKind.wrap .i64 (((eJ 0 gI).length:Int) - 1))=some false:=e1
  rw [e1,e2,aB,aB,nU,aP]
  exact⟨_,rfl,rfl,by simp⟩
 ·have e2:cK N ((k:Nat):Int) 0 (IntKind.wrap .i64 (((eJ 0 gI).length:Int) - 1))=some true:=e1
  have hx: (eJ 0 gI)[k]? =some (eJ 0 gI)[k]:=aN hk
  have hy: ((eJ 0 gI).map aK.gM)[k]? =some (eJ 0 gI)[k].gM:=by rw [gr,hx];rfl
  rw [e1,e2,aB,aB,lT,aR,dU hx,dU hy,aB,aB]
  exact⟨_,rfl,rfl,(An b (cM hk)).1⟩
theorem EB (b:rz a mY gI r gs ofP ofB wc we) (h1:iO N a=some (some (a.aJ,a.cE,a.aO,a.bV,mY,eJ 0 gI,iV a.aO (eJ 0 gI),gs,ofP,ofB,wc,we),0)) (h2:dB N a=some 0) (i:Int) (hN:4398046511104<=N):
  ∃x,jV N a i=some x/\fO N a i=some x/\x.1.length<=1073741824:=by
 have hf:=b.yP.2
 have hbl:=b.z5.gb.len
 unfold jV fO
 rw [h1,h2,aB,aB]
 simp only [Gn,bne_self_eq_false,aR]
 rcases xt (n:=a.aO.length) i (by omega) (W:=fg N i 0 (IntKind.wrap .i64 ((a.aO.length:Int) - 1))) rfl with ⟨e1,hi⟩ | ⟨e1,k,rfl,hk⟩
 ·have e2:cK N i 0 (IntKind.wrap .i64 ((a.aO.length:Int) - 1))=some false:=e1
  rw [e1,e2,aB,aB,nU,aP]
  exact⟨_,rfl,rfl,by simp⟩
 ·have e2:cK N ((k:Nat):Int) 0 (IntKind.wrap .i64 ((a.aO.length:Int) - 1))=some true:=e1
  have hl:k< (iV a.aO (eJ 0 gI)).length:=by unfold iV;rw [cV];exact hk
  have hx: (iV a.aO (eJ 0 gI))[k]? =some (iV a.aO (eJ 0 gI))[k]:=aN hl
  rw [e1,e2,aB,aB,lT,aR,yE b hN,aB,dU hx]
  exact⟨_,rfl,rfl,(zX (by omega) _ (cM hl)).1⟩
end
section
variable {N:Nat}
theorem tK {a:ld} {piece bore:Int} (ha:bk a<=1048576) (_h1:bk piece<=1048576) (_h2:bk bore<=1048576) (hN:4398046511104<=N):fS N a piece bore=some true:=by
 have hs:=Ds ha
 have key: ∃x y,gZ N a piece=some x/\eL N a piece=some x/\x.1.length<=2000/\jV N a bore=some y/\fO N a bore=some y/\y.1.length<=1073741824:=by
  rcases checked (N:=N) hs hN with ⟨e,he,h1,h2⟩ | ⟨b,h1,h2⟩
  ·have hb: (e != 0)=true:=by simpa using he
   refine⟨([],e),([],e),?_,?_,by simp,?_,?_,by simp⟩
   ·unfold gZ;rw [h1,aB];simp only [Gn,hb,aP]
   ·unfold eL;rw [h2,aB,hb,aP]
   ·unfold jV;rw [h1,aB];simp only [Gn,hb,aP]
   ·unfold fO;rw [h2,aB,hb,aP]
  ·obtain⟨x,x1,x2,x3⟩:=Ap b h1 h2 piece hN
   obtain⟨y,y1,y2,y3⟩:=EB b h1 h2 bore hN
   exact⟨x,y,x1,x2,x3,y1,y2,y3⟩
 obtain⟨x,y,x1,x2,x3,y1,y2,y3⟩:=key
 unfold fS
 rw [x1,aB,x2,aB,y1,aB,y2,aB,Af (by omega) hN,aB,BEq.rfl,Bool.and_self,aP,A9 (by omega),aB,bR rfl,BEq.rfl,Bool.and_self,aP,Ia (by omega)]
 rfl
end
end Go.Gk
