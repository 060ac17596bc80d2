/-
  Helping texts: plain functions and plain laws. No statement of the seed is proved here.
-/
import Derived.Test.YtllecmpemokbfaaGreatDoorE1
import Derived.Test.YtllecmpemokbfaaGreatDoorA2
set_option linter.unusedVariables false
set_option linter.unusedSimpArgs false
set_option linter.unusedSectionVars false
namespace Go.Gk
open Go Classical
section
variable {N:Nat}
theorem AE {l:List Nat} (h:l.Nodup) {i j a:Nat} (hi:l[i]? =some a) (hj:l[j]? =some a):i=j:=
 (List.getElem_inj (h₀:=(bC.1 hi).1) (h₁:=(bC.1 hj).1) h).1 (by rw [(bC.1 hi).2,(bC.1 hj).2])
theorem uG {n i k:Nat} {r:Nat->Nat}:i∈cls n r k↔i<n/\r i=k:=by unfold cls;simp
theorem FE (n:Nat) (r:Nat->Nat) (k:Nat): (cls n r k).Nodup:=List.Nodup.sublist List.filter_sublist List.nodup_range
structure KW (bs:List bJ) (n m:Nat) (r:Nat->Nat) (hs:List Nat) (ofP ofB:List Int):Prop where
 lp:ofP.length=n
 lb:ofB.length=m
 pc: ∀i,i<n->r i∈hs->ofP[i]? =some ((gi bs n (n+m) r (r i):Nat):Int)
 bo: ∀j,j<m->r (n+j)∈hs->ofB[j]? =some (if Ad bs j=true then ((gi bs n (n+m) r (r (n+j)):Nat):Int) else -1)
theorem CW {bs:List bJ} {n m:Nat} {r:Nat->Nat} (hm:bs.length=m) (hn:n<=1073741824) (hm2:m<=1073741824) {op ob:List Int} (hop:op.length=n) (hob:ob.length=m)
  {body:Nat->List eB×List Int×List Int->Option (List eB×List Int×List Int)}
  (hbody:body= (fun(k123:Nat) (s124: (List eB)×(List Int)×(List Int))=>((idx (p9 (n+m) r) (k123:Int)).bind fun x455=>(mN x455.length (fun(k458:Nat) (s459: (List Int)×(List Int)×(List Int)×(List Int))=>((idx x455 (k458:Int)).bind fun x556=>(bif (decide (x556< (n:Int))) then ((idx s459.1 x556).bind fun x580=>(app 8 s459.2.2.1 ([x556]: (List Int))).bind fun x582=>some ((s459.1.set (Int.toNat x556) (s124.1.length:Int)),s459.2.1,x582,s459.2.2.2)) else ((idx bs (IntKind.wrap .i64 (x556 - (n:Int)))).bind fun x584=>(bif x584.kx then ((idx s459.2.1 (IntKind.wrap .i64 (x556 - (n:Int)))).bind fun x594=>(app 8 s459.2.2.2 ([(IntKind.wrap .i64 (x556 - (n:Int)))]: (List Int))).bind fun x596=>some ((s459.2.1.set (Int.toNat (IntKind.wrap .i64 (x556 - (n:Int)))) (s124.1.length:Int)),x596)) else ((idx s459.2.1 (IntKind.wrap .i64 (x556 - (n:Int)))).bind fun x598=>some ((s459.2.1.set (Int.toNat (IntKind.wrap .i64 (x556 - (n:Int)))) (-1)),s459.2.2.2))).bind fun s592=>some (s459.1,s592.1,s459.2.2.1,s592.2))).bind fun s577=>some (s577.1,s577.2.1,s577.2.2.1,s577.2.2.2):Option ((List Int)×(List Int)×(List Int)×(List Int)))) (s124.2.1,s124.2.2,([]: (List Int)),([]: (List Int)))).bind fun s459=>(bif (decide ((IntKind.wrap .i64 ((s459.2.2.1.length:Int)+ (s459.2.2.2.length:Int)))>0)) then ((app 72 s124.1 [(⟨s459.2.2.1,s459.2.2.2,([]: (List ik))⟩:eB)]).bind fun x610=>some x610) else (some s124.1)).bind fun s606=>some (s606,s459.1,s459.2.1):Option ((List eB)×(List Int)×(List Int))))):
  Ok (mN (p9 (n+m) r).length body ([],op,ob)) (fun st=>st.1=sN bs n (n+m) r (bO (n+m) r)/\KW bs n m r (bO (n+m) r) st.2.1 st.2.2):=by
 subst hbody
 have hsl: (p9 (n+m) r).length= (bO (n+m) r).length:=by unfold p9;simp
 have hhl:=oD (n+m) r
 refine Ok.mono (Ok.mN (fun(k:Nat) (st:List eB×List Int×List Int)=>st.1=sN bs n (n+m) r ((bO (n+m) r).take k)/\KW bs n m r ((bO (n+m) r).take k) st.2.1 st.2.2) (by omega) ⟨rfl,hop,hob,fun i hi h=>by simp at h,fun j hj h=>by simp at h⟩ (fun k st hk hI=>?_)) (fun st h=>by rw [hsl,fJ] at h;exact h)
 obtain⟨gs,ofP,ofB⟩:=st
 obtain⟨e1,I⟩:=hI
 dsimp only at e1 I ⊢
 subst e1
 rw [hsl] at hk
 have hkx: (bO (n+m) r)[k]? =some (bO (n+m) r)[k]:=aO hk
 have hts: (bO (n+m) r).take (k+1)= (bO (n+m) r).take k++[(bO (n+m) r)[k]]:=eD hk
 have hgk:gi bs n (n+m) r (bO (n+m) r)[k]= (sN bs n (n+m) r ((bO (n+m) r).take k)).length:=by
  unfold gi;rw [vg (nJ _ _) hkx,wW]
 generalize hh: (bO (n+m) r)[k]=h at *
 have hsx: (p9 (n+m) r)[k]? =some (ints (cls (n+m) r h)):=by unfold p9;rw [j9,hkx];rfl
 refine Ok.ix hsx ?_
 have hcl:=BA (n+m) r h
 rw [n0]
 have hgl: (sN bs n (n+m) r ((bO (n+m) r).take k)).length<=n+m:=by
  rw [wW]
  have:=wX bs n (n+m) r ((bO (n+m) r).take k)
  rw [cM] at this;omega
 have hold: ∀i∈cls (n+m) r h,∀i',r i'∈(bO (n+m) r).take k->i≠i':=fun i hi i' hi' e=>by
  subst e
  rw [(uG.1 hi).2] at hi'
  obtain⟨j,hj⟩:=eR hi'
  have hjk:j<k:=by have:=(bC.1 hj).1;rw [cM] at this;omega
  rw [List.getElem?_take_of_lt hjk] at hj
  have:=AE (nJ (n+m) r) hj hkx
  omega
 refine Ok.bind (P:=fun s'=>KW bs n m r ((bO (n+m) r).take (k+1)) s'.1 s'.2.1/\s'.2.2.1=ints (gP n (cls (n+m) r h))/\s'.2.2.2=ints (gB bs n (cls (n+m) r h))) (Ok.mono (Ok.mN
  (fun(t:Nat) (s':List Int×List Int×List Int×List Int)=>KW bs n m r ((bO (n+m) r).take k) s'.1 s'.2.1/\s'.2.2.1=ints (gP n ((cls (n+m) r h).take t))/\s'.2.2.2=ints (gB bs n ((cls (n+m) r h).take t))/\
   (∀i∈(cls (n+m) r h).take t,i<n->s'.1[i]? =some ((gi bs n (n+m) r h:Nat):Int))/\∀i∈(cls (n+m) r h).take t,¬i<n->s'.2.1[i - n]? =some (if Ad bs (i - n)=true then ((gi bs n (n+m) r h:Nat):Int) else -1)) (by omega)
   ⟨I,rfl,rfl,fun i hi=>by simp at hi,fun i hi=>by simp at hi⟩ (fun t s' ht hI'=>?_)) ?_) ?_
 ·obtain⟨oP,oB,pp,bb⟩:=s'
  obtain⟨J,e2,e3,J1,J2⟩:=hI'
  dsimp only at J e2 e3 J1 J2 ⊢
  subst e2;subst e3
  have htx: (ints (cls (n+m) r h))[t]? =some (((cls (n+m) r h)[t]:Nat):Int):=by unfold ints;rw [j9,aO ht];rfl
  refine Ok.ix htx ?_
  have htt: (cls (n+m) r h).take (t+1)= (cls (n+m) r h).take t++[(cls (n+m) r h)[t]]:=eD ht
  have hcm:=cR ht
  have hdist: ∀i∈(cls (n+m) r h).take t,i≠(cls (n+m) r h)[t]:=fun i hi e=>by
   obtain⟨j,hj⟩:=eR hi
   have hjt:j<t:=by have:=(bC.1 hj).1;rw [cM] at this;omega
   rw [List.getElem?_take_of_lt hjt] at hj
   have:=AE (FE (n+m) r h) hj (by rw [e];exact aO ht)
   omega
  generalize (cls (n+m) r h)[t]=c at *
  obtain⟨hc1,hc2⟩:=uG.1 hcm
  have hgp:=GV n ((cls (n+m) r h).take t)
  have hgb:=GW bs n ((cls (n+m) r h).take t)
  rw [cM] at hgp hgb
  by_cases hcn:c<n
  ·rw [bR (by omega: ((c:Nat):Int)< ((n:Nat):Int)),aQ]
   refine Ok.bind (P:=fun x=>x= (oP.set c ((gi bs n (n+m) r h:Nat):Int),oB,ints (gP n ((cls (n+m) r h).take t))++[((c:Nat):Int)],ints (gB bs n ((cls (n+m) r h).take t)))) ?_ ?_
   ·refine Ok.idx (by rw [J.lp];exact hcn) (Ok.app (by rw [n0];simp;omega) (Ok.ret ?_))
    rw [cK,hgk]
   ·rintro _ rfl
    refine Ok.ret ⟨⟨by simp [J.lp],J.lb,fun i hi hr=>?_,J.bo⟩,?_,?_,fun i hi hin=>?_,fun i hi hin=>?_⟩
    ·dsimp only
     rw [nj (by rw [J.lp];exact hcn),aH (fun e=>hold c hcm i hr e.symm)];exact J.pc i hi hr
    ·dsimp only;rw [htt,EM,aD hcn,uc];rfl
    ·dsimp only;rw [htt,EN,aD hcn]
    ·dsimp only
     rw [nj (by rw [J.lp];exact hcn)]
     split
     ·rfl
     ·rename_i hne
      rw [htt] at hi
      rcases dC.1 hi with hi | hi
      ·exact J1 i hi hin
      ·exact absurd (by simpa using hi) hne
    ·rw [htt] at hi
     rcases dC.1 hi with hi | hi
     ·exact J2 i hi hin
     ·have:i=c:=by simpa using hi
      subst this;exact absurd hcn hin
  ·rw [bY (by omega: ¬((c:Nat):Int)< ((n:Nat):Int)),aT]
   have hw:IntKind.wrap .i64 (((c:Nat):Int) - ((n:Nat):Int))= ((c - n:Nat):Int):=by rw [fw (by omega) (by omega)];omega
   have hcm2:c - n<bs.length:=by omega
   have hpl:Ad bs (c - n)=bs[c - n].kx:=by unfold Ad;rw [aO hcm2];rfl
   rw [hw]
   refine Ok.bind (P:=fun x=>x= (oP,oB.set (c - n) (if Ad bs (c - n)=true then ((gi bs n (n+m) r h:Nat):Int) else -1),ints (gP n ((cls (n+m) r h).take t)),ints (gB bs n ((cls (n+m) r h).take t++[c])))) ?_ ?_
   ·refine Ok.idx hcm2 ?_
    rw [EN,aH hcn,hpl]
    cases hp:bs[c - n].kx with
    | true=>
     rw [aQ,aD rfl,aD rfl]
     refine Ok.eq (x:=(oB.set (c - n) ((gi bs n (n+m) r h:Nat):Int),ints (gB bs n ((cls (n+m) r h).take t)++[c - n]))) ?_ (Ok.ret rfl)
     rw [kG _ _ (by rw [J.lb];omega),aB,jd (by rw [n0];simp;omega),aB,cK,hgk,uc];rfl
    | false=>
     rw [aT,aH (by simp),aH (by simp)]
     refine Ok.eq (x:=(oB.set (c - n) (-1),ints (gB bs n ((cls (n+m) r h).take t)))) ?_ (Ok.ret rfl)
     rw [kG _ _ (by rw [J.lb];omega),aB,cK]
   ·rintro _ rfl
    refine Ok.ret ⟨⟨J.lp,by simp [J.lb],J.pc,fun j hj hr=>?_⟩,?_,?_,fun i hi hin=>?_,fun i hi hin=>?_⟩
    ·dsimp only
     rw [nj (by rw [J.lb];omega),aH (fun e=>hold c hcm (n+j) hr (by omega))];exact J.bo j hj hr
    ·dsimp only;rw [htt,EM,aH hcn]
    ·dsimp only;rw [htt]
    ·rw [htt] at hi
     rcases dC.1 hi with hi | hi
     ·exact J1 i hi hin
     ·have:i=c:=by simpa using hi
      subst this;exact absurd hin hcn
    ·dsimp only
     rw [nj (by rw [J.lb];omega)]
     split
     ·rename_i e;rw [e]
     ·rename_i hne
      rw [htt] at hi
      rcases dC.1 hi with hi | hi
      ·exact J2 i hi hin
      ·exact absurd (by have:i=c:=(by simpa using hi);rw [this]) hne
 ·rintro⟨oP,oB,pp,bb⟩ ⟨J,e2,e3,J1,J2⟩
  dsimp only at J e2 e3 J1 J2 ⊢
  rw [fJ] at e2 e3 J1 J2
  refine⟨⟨J.lp,J.lb,fun i hi hr=>?_,fun j hj hr=>?_⟩,e2,e3⟩
  ·rw [hts] at hr
   rcases dC.1 hr with hr | hr
   ·exact J.pc i hi hr
   ·have hr:r i=h:=by simpa using hr
    rw [hr];exact J1 i (uG.2 ⟨by omega,hr⟩) hi
  ·rw [hts] at hr
   rcases dC.1 hr with hr | hr
   ·exact J.bo j hj hr
   ·have hr:r (n+j)=h:=by simpa using hr
    rw [hr]
    have:=J2 (n+j) (uG.2 ⟨by omega,hr⟩) (by omega)
    rwa [Nat.add_sub_cancel_left] at this
 ·rintro⟨oP,oB,pp,bb⟩ ⟨J,e2,e3⟩
  dsimp only at J e2 e3 ⊢
  subst e2;subst e3
  have hgp:=GV n (cls (n+m) r h)
  have hgb:=GW bs n (cls (n+m) r h)
  rw [n0,n0,wrap_add (by omega)]
  have hgs:sN bs n (n+m) r ((bO (n+m) r).take (k+1))=if GU bs n (cls (n+m) r h)=true then sN bs n (n+m) r ((bO (n+m) r).take k)++[MD bs n (cls (n+m) r h)] else sN bs n (n+m) r ((bO (n+m) r).take k):=by
   unfold sN
   rw [hts,FD]
   split
   ·rw [eE];rfl
   ·rfl
  refine Ok.bind (P:=fun x=>x=sN bs n (n+m) r ((bO (n+m) r).take (k+1))) (Ok.bif (fun hb=>?_) (fun hb=>Ok.ret ?_)) (fun x e=>Ok.ret ⟨e,J⟩)
  ·have hne:GU bs n (cls (n+m) r h)=true:=bR (by have:=of_decide_eq_true hb;omega)
   refine Ok.app (by simp;omega) (Ok.ret ?_)
   rw [hgs,aD hne];rfl
  ·have hne: ¬GU bs n (cls (n+m) r h)=true:=fun h'=>by
    have h1:=of_decide_eq_true h'
    have h2:=of_decide_eq_false hb
    omega
   rw [hgs,aH hne]
end
end Go.Gk
namespace Go.Gk
open Go Classical
section
variable {N:Nat}
def vh (n:Nat) (h:lT):Nat:=if h.bJ=true then n+h.Number.toNat else h.Number.toNat
structure KX (bs:List bJ) (n m:Nat) (h:lT):Prop where
 num: ∃k:Nat,h.Number= ((k:Nat):Int)/\(h.bJ=true->k<m/\Ad bs k=true)/\(h.bJ=false->k<n)
theorem Ja {bs:List bJ} {pcs:List aN} {l:cU} {h:lT} (hh:BE bs pcs l=some h):KX bs pcs.length bs.length h:=by
 unfold BE at hh
 cases hf:bs.findIdx? (vP l) with
 | some k=>
  rw [hf] at hh
  injection hh with hh;subst hh
  obtain⟨hk,hp,_⟩:=List.findIdx?_eq_some_iff_getElem.1 hf
  refine⟨k,rfl,fun _=>⟨hk,?_⟩,fun h=>by cases h⟩
  unfold vP at hp
  unfold Ad
  rw [aO hk]
  rw [bV] at hp
  exact hp.1
 | none=>
  rw [hf] at hh
  dsimp only at hh
  rw [Option.map_eq_some_iff] at hh
  obtain⟨k,hk,rfl⟩:=hh
  obtain⟨hk,_⟩:=List.findIdx?_eq_some_iff_getElem.1 hk
  exact⟨k,rfl,fun h=>(by cases h),fun _=>hk⟩
def FR (bs:List bJ) (pcs:List aN) (r:Nat->Nat) (l:cU):Option Nat:=(BE bs pcs l).map fun h=>gi bs pcs.length (pcs.length+bs.length) r (r (vh pcs.length h))
def Jg (bs:List bJ) (pcs:List aN) (r:Nat->Nat) (l:cU):Int:=match FR bs pcs r l with | some g=>((g:Nat):Int) | none=> -1
def jT (gs:List eB) (lg:cU->Option Nat) (ls:List cU):List eB:=gs.mapIdx (fun g x=>{x with j4:=(ls.filter (fun l=>decide (lg l=some g))).map mV})
theorem ly {gs:List eB} {lg:cU->Option Nat} {ls:List cU} {g:Nat}: (jT gs lg ls)[g]? = (gs[g]?).map fun x=>{x with j4:=(ls.filter (fun l=>decide (lg l=some g))).map mV}:=by
 unfold jT;rw [List.getElem?_mapIdx]
theorem BF (gs:List eB) (lg:cU->Option Nat) (ls:List cU): (jT gs lg ls).length=gs.length:=by unfold jT;rw [List.length_mapIdx]
theorem Ae {gs:List eB} {lg:cU->Option Nat} {ls:List cU} {l:cU} (h:lg l=none):jT gs lg (ls++[l])=jT gs lg ls:=by
 apply List.ext_getElem?
 intro g
 rw [ly,ly]
 congr 2
 funext x
 rw [ka]
 simp [h]
theorem BG {gs:List eB} {lg:cU->Option Nat} {ls:List cU} {l:cU} {k:Nat} {x:eB} (h:lg l=some k) (hx: (jT gs lg ls)[k]? =some x):
  (jT gs lg ls).set k {x with j4:=x.j4++[mV l]}=jT gs lg (ls++[l]):=by
 apply List.ext_getElem?
 intro g
 have hk:=(bC.1 hx).1
 rw [eL]
 by_cases e:k=g
 ·subst e
  rw [aD rfl,aD hk,ly]
  rw [ly,Option.map_eq_some_iff] at hx
  obtain⟨y,hy,rfl⟩:=hx
  rw [hy,ka]
  simp [h]
 ·rw [aH e,ly,ly]
  congr 2
  funext x
  rw [ka]
  have: ¬(lg l=some g):=by rw [h];intro h';injection h' with h';exact e h'
  simp [this]
theorem KY {bs:List bJ} {n t:Nat} {r:Nat->Nat} {i:Nat} (hi:i<n) (ht:i<t):GU bs n (cls t r (r i))=true:=by
 unfold GU
 rw [bU]
 have:i∈gP n (cls t r (r i)):=k6.2 ⟨uG.2 ⟨ht,rfl⟩,by simpa using hi⟩
 have:=List.length_pos_of_mem this
 omega
theorem KZ {bs:List bJ} {n t:Nat} {r:Nat->Nat} {j:Nat} (hp:Ad bs j=true) (ht:n+j<t):GU bs n (cls t r (r (n+j)))=true:=by
 unfold GU
 rw [bU]
 have:j∈gB bs n (cls t r (r (n+j))):=dD.2 ⟨n+j,k6.2 ⟨uG.2 ⟨ht,rfl⟩,by simp [hp]⟩,by omega⟩
 have:=List.length_pos_of_mem this
 omega
structure DQ (bs:List bJ) (ls:List cU) (pcs:List aN) (r:Nat->Nat) (gs:List eB) (ofP ofB x5:List Int) (x6:List lT):Prop where
 conn:KT pcs.length bs.length (tc bs pcs) r
 gs:gs=jT (sN bs pcs.length (pcs.length+bs.length) r (bO (pcs.length+bs.length) r)) (FR bs pcs r) ls
 of:KW bs pcs.length bs.length r (bO (pcs.length+bs.length) r) ofP ofB
 x5:x5=ls.map (Jg bs pcs r)
 x6:x6=ls.map (fun l=>(BE bs pcs l).getD ⟨false,0⟩)
theorem GX {bs:List bJ} {pcs:List aN} (hp:pcs.length<=1073741824): ∀l∈tc bs pcs,l.length<=1073741824/\∀x∈l,∃i:Nat,i<pcs.length/\x= ((i:Nat):Int):=by
 intro l hl
 unfold tc at hl
 obtain⟨b,_,rfl⟩:=dD.1 hl
 have:=AD (n7 b) pcs pcs.length
 refine⟨by rw [n0];omega,fun x hx=>?_⟩
 obtain⟨i,hi,rfl⟩:=zB.1 hx
 exact⟨i,(FB.1 hi).1,rfl⟩
theorem BH {bs:List bJ} {ls:List cU} {pcs:List aN} (hb:mL bs) (hp:pcs.length<=1000000000) (hr: ∀p∈pcs,p.pj.length<=1073741824) (hl:ls.length<=1073741824) (hN:4398046511104<=N):
  Ok (f0 N bs ls pcs (tc bs pcs) [] [] [] []) (fun x=>∃r,DQ bs ls pcs r x.1 x.2.1 x.2.2.1 x.2.2.2.1 x.2.2.2.2):=by
 have hbl:=hb.len
 unfold f0
 rw [wrap_add (by omega)]
 obtain⟨up0,u1,u2⟩:=CL (N:=N) (n:=pcs.length+bs.length) (by omega)
 refine Ok.eq u1 ?_
 refine Ok.bind (FC (n:=pcs.length) (m:=bs.length) (by unfold tc;simp) (GX (by omega)) (by omega) (by omega) u2 hN) ?_
 rintro up1 ⟨r,v1,v2⟩
 refine Ok.eq (uv 0 (by omega)) (Ok.eq (uv 0 (by omega)) ?_)
 obtain⟨up2,w1,_⟩:=HR (N:=N) v1 (by omega) (by omega)
 refine Ok.eq w1 ?_
 refine Ok.bind (CW (bs:=bs) (n:=pcs.length) (m:=bs.length) (r:=r) rfl (by omega) (by omega) (op:=List.replicate pcs.length 0) (ob:=List.replicate bs.length 0) (by simp) (by simp) rfl) ?_
 rintro⟨gs,ofP,ofB⟩ ⟨e1,I⟩
 dsimp only at e1 I ⊢
 subst e1
 have hgl: (sN bs pcs.length (pcs.length+bs.length) r (bO (pcs.length+bs.length) r)).length<=pcs.length+bs.length:=by
  rw [wW]
  have:=wX bs pcs.length (pcs.length+bs.length) r (bO (pcs.length+bs.length) r)
  have:=oD (pcs.length+bs.length) r
  omega
 refine Ok.bind (Ok.mN (fun(k:Nat) (st:List eB×List Int×List Int×List Int×List lT)=>st= (jT (sN bs pcs.length (pcs.length+bs.length) r (bO (pcs.length+bs.length) r)) (FR bs pcs r) (ls.take k),ofP,ofB,(ls.take k).map (Jg bs pcs r),(ls.take k).map (fun l=>(BE bs pcs l).getD ⟨false,0⟩))) (by omega) ?_ (fun k st hk e=>?_)) ?_
 ·congr 1
  unfold jT
  apply List.ext_getElem?
  intro g
  rw [List.getElem?_mapIdx]
  unfold sN
  rw [j9]
  cases (live bs pcs.length (pcs.length+bs.length) r (bO (pcs.length+bs.length) r))[g]? <;> rfl
 ·subst e
  dsimp only
  have hts:ls.take (k+1)=ls.take k++[ls[k]]:=eD hk
  refine Ok.idx hk (Ok.eq (GS hb (by omega) hr _) ?_)
  dsimp only
  refine Ok.bind (P:=fun x=>x= (jT (sN bs pcs.length (pcs.length+bs.length) r (bO (pcs.length+bs.length) r)) (FR bs pcs r) (ls.take k++[ls[k]]),Jg bs pcs r ls[k])) ?_ ?_
  ·cases hh:BE bs pcs ls[k] with
   | none=>
    refine Ok.ret ?_
    have h1:FR bs pcs r ls[k]=none:=by unfold FR;rw [hh];rfl
    rw [Ae h1]
    unfold Jg;rw [h1]
   | some h=>
    have h1:FR bs pcs r ls[k]=some (gi bs pcs.length (pcs.length+bs.length) r (r (vh pcs.length h))):=by unfold FR;rw [hh];rfl
    have h2:Jg bs pcs r ls[k]= ((gi bs pcs.length (pcs.length+bs.length) r (r (vh pcs.length h)):Nat):Int):=by unfold Jg;rw [h1]
    obtain⟨q,q1,q2,q3⟩:=(Ja hh).num
    have hix:vh pcs.length h<pcs.length+bs.length/\GU bs pcs.length (cls (pcs.length+bs.length) r (r (vh pcs.length h)))=true/\gX N ofP ofB h=some ((gi bs pcs.length (pcs.length+bs.length) r (r (vh pcs.length h)):Nat):Int):=by
     unfold gX vh
     rw [q1,cK]
     cases hbo:h.bJ with
     | true=>
      obtain⟨q4,q5⟩:=q2 hbo
      rw [aQ,aD rfl]
      refine⟨by omega,KZ q5 (by omega),?_⟩
      have:=I.bo q q4 (jh.2 ⟨by have:=v2.le (pcs.length+q) (by omega);omega,v2.rr _ (by omega)⟩)
      rw [aD q5] at this
      rw [gv this,aB]
     | false=>
      have q4:=q3 hbo
      rw [aT,aH (by simp)]
      refine⟨by omega,KY q4 (by omega),?_⟩
      have:=I.pc q q4 (jh.2 ⟨by have:=v2.le q (by omega);omega,v2.rr _ (by omega)⟩)
      rw [gv this,aB]
    obtain⟨i1,i2,i3⟩:=hix
    have hgi:=KU (r:=r) (t:=pcs.length+bs.length) (bs:=bs) (n:=pcs.length) (h:=r (vh pcs.length h)) (jh.2 ⟨by have:=v2.le _ i1;omega,v2.rr _ i1⟩) i2
    have hgx:gi bs pcs.length (pcs.length+bs.length) r (r (vh pcs.length h))< (jT (sN bs pcs.length (pcs.length+bs.length) r (bO (pcs.length+bs.length) r)) (FR bs pcs r) (ls.take k)).length:=by
     rw [BF,wW];exact hgi.1
    rw [h2]
    dsimp only [Option.getD,Option.isSome]
    rw [aQ]
    refine Ok.eq i3 ?_
    generalize gi bs pcs.length (pcs.length+bs.length) r (r (vh pcs.length h))=g at *
    refine Ok.idx hgx (Ok.eq (AB _) ?_)
    have hpl: ((jT (sN bs pcs.length (pcs.length+bs.length) r (bO (pcs.length+bs.length) r)) (FR bs pcs r) (ls.take k))[g]).j4.length<=ls.length:=by
     have:=ly (gs:=sN bs pcs.length (pcs.length+bs.length) r (bO (pcs.length+bs.length) r)) (lg:=FR bs pcs r) (ls:=ls.take k) (g:=g)
     rw [aO hgx] at this
     have:=this.symm
     rw [Option.map_eq_some_iff] at this
     obtain⟨y,_,hy⟩:=this
     rw [<-hy,dS]
     have:=nP (fun l=>decide (FR bs pcs r l=some g)) (ls.take k)
     rw [cM] at this;omega
    refine Ok.app (by simp;omega) (Ok.idx hgx (Ok.ret ?_))
    rw [cK]
    congr 1
    exact BG h1 (aO hgx)
  ·rintro _ rfl
   dsimp only
   refine Ok.app (by simp;omega) (Ok.app (by simp;omega) (Ok.ret ?_))
   rw [hts,eE,eE];rfl
 ·rintro st rfl
  dsimp only
  rw [fJ]
  exact Ok.ret ⟨r,v2,rfl,I,rfl,rfl⟩
end
end Go.Gk
namespace Go.Gk
open Go Classical
section
variable {N:Nat}
theorem AF {p:aN}: ∀{kq:List (List (List aA))} {k:Nat},p∈kp k kq->∃(i:Nat) (ps:List (List aA)) (q:List aA),kq[i]? =some ps/\q∈ps/\p= ⟨((k+i:Nat):Int),q,aM q⟩
 | [],k,h=>by cases h
 | ps::kq,k,h=>by
  rcases dC.1 h with h | h
  ·obtain⟨q,hq,rfl⟩:=dD.1 h
   exact⟨0,ps,q,rfl,hq,rfl⟩
  ·obtain⟨i,ps',q,h1,h2,h3⟩:=AF h
   refine⟨i+1,ps',q,by simpa using h1,h2,?_⟩
   rw [h3,show k+1+i=k+ (i+1) by omega]
structure oG (a:fu):Prop where
 Dh:0<a.aI.length/\a.aI.length<=16
 ME: ∀r∈a.aI,je r=0
 out:je a.bZ=0
 many:a.bZ.length+ (a.aI.map List.length).sum<=2000
 wY:iT a=0
 Is:mw a=0
theorem oG.gb {a:fu} (h:oG a):mL a.aR:=⟨(lM h.wY).1,fun b hb=>⟨((lM h.wY).2 b hb).1,((lM h.wY).2 b hb).2.1⟩⟩
theorem oG.cs {a:fu} (h:oG a): ∀r∈a.aI,r.length<=2000/\∀x∈r,za x:=fun r hr=>zx (t7.1 (h.ME r hr)).1
structure wZ (a:fu) (n9:List (List aA)) (kq:List (List (List aA))) (p:aN) (i:Nat) (r:List aG) (s:List aA) (ps:List (List aA)) (u:Nat->Nat) (j k:Nat):Prop where
 MW:a.aI[i]? =some r
 n9:n9[i]? =some s
 kq:kq[i]? =some ps
 dr:sM r (ko a.aR ((i:Nat):Int)) s
 pt:qI s u ps
 at_:ps[j]? =some p.Set
 head: (bO (aM s).length u)[j]? =some k
 set:rN (nb (aM s) (aM s).length u k) p.Set
 lim:vT (qw r++qw (ko a.aR ((i:Nat):Int))) (iJ r++iJ (ko a.aR ((i:Nat):Int))) (p.Set.map bS)
 K0:p.eU= ((i:Nat):Int)
 K1:p.pj=aM p.Set
theorem GY {a:fu} {n9:List (List aA)} {kq:List (List (List aA))} (hg:oG a) (hD:vO a.aI a.aR a.aI.length n9 kq) {p:aN} (hp:p∈kp 0 kq): ∃i r s ps u j k,wZ a n9 kq p i r s ps u j k:=by
 obtain⟨i,ps,q,h1,h2,rfl⟩:=AF hp
 have hil:i<a.aI.length:=by have:=(bC.1 h1).1;rw [hD.BD] at this;exact this
 have hc:a.aI[i]? =some a.aI[i]:=aO hil
 have hd:n9[i]? =some (n9[i]'(by rw [hD.len];exact hil)):=aO _
 have hdr:=hD.dr i _ _ hil hc hd
 obtain⟨u,hu⟩:=hD.pt i _ ps hil hd h1
 obtain⟨sx,sy⟩:=hdr.small (hg.cs _ (cR hil)).2 (fun x hx=>(t8 hg.gb _ x hx).1)
 obtain⟨j,k,g1,g2,g3,g4⟩:=zA hu hdr.can hdr.lim sx sy h2
 exact⟨i,_,_,ps,u,j,k,hc,hd,h1,hdr,hu,g1,g2,g3,g4,by rw [iw],rfl⟩
theorem wZ.CS {a:fu} {n9:List (List aA)} {kq:List (List (List aA))} (hg:oG a) {p:aN} {i:Nat} {r:List aG} {s:List aA} {ps:List (List aA)} {u:Nat->Nat} {j k:Nat} (h:wZ a n9 kq p i r s ps u j k):
  p.Set.length<=5000/\(∀b∈p.Set,b.Xs.length<=5000)/\p.pj.length<=5000*5000:=by
 have h1:=(hg.cs r (gh h.MW)).1
 have h2:=xJ hg.gb ((i:Nat):Int)
 rw [h.K1]
 exact rQ (A:=5000) h.set.can h.lim (by rw [cT,ju,ju];omega) (by rw [cT,gK,gK];omega)
def w5 (a0 a1 b0 b1:Int):Bool:=decide (b0<a1)&&decide (a0<b1)
def CX (a b:aG):Bool:=w5 a.X0 a.X1 b.X0 b.X1&&w5 a.Y0 a.Y1 b.Y0 b.Y1
theorem zC {a0 a1 b0 b1:Int} (h1: -1000000<=a0/\a0<=1000000) (h2: -1000000<=a1/\a1<=1000000) (h3: -1000000<=b0/\b0<=1000000) (h4: -1000000<=b1/\b1<=1000000): ∃n,lI N a0 a1 b0 b1=some n/\0<=n/\(n=0↔w5 a0 a1 b0 b1=true):=by
 unfold lI w5
 have e1:IntKind.wrap .i64 (b0 - a1)=b0 - a1:=fw (by omega) (by omega)
 have e2:IntKind.wrap .i64 (a0 - b1)=a0 - b1:=fw (by omega) (by omega)
 have e3:IntKind.wrap .i64 (b0 - a1+1)=b0 - a1+1:=fw (by omega) (by omega)
 have e4:IntKind.wrap .i64 (a0 - b1+1)=a0 - b1+1:=fw (by omega) (by omega)
 rw [e1,e2,e3,e4]
 refine⟨_,rfl,?_,?_⟩
 ·repeat' split
  all_goals omega
 ·rw [bV,bU,bU]
  repeat' split
  all_goals omega
theorem Jb {a b:aG} (h1:fD a=true) (h2:fD b=true): ∃n,re N a b=some n/\(n=0↔CX a b=true):=by
 have b1:=mu h1
 have b2:=mu h2
 obtain⟨n,n1,n2,n3⟩:=zC (N:=N) (a0:=a.X0) (a1:=a.X1) (b0:=b.X0) (b1:=b.X1) (by omega) (by omega) (by omega) (by omega)
 obtain⟨m,m1,m2,m3⟩:=zC (N:=N) (a0:=a.Y0) (a1:=a.Y1) (b0:=b.Y0) (b1:=b.Y1) (by omega) (by omega) (by omega) (by omega)
 unfold re CX
 rw [n1,aB,m1,aB]
 refine⟨_,rfl,?_⟩
 rw [bV,<-n3,<-m3]
 split <;> omega
def qf (x y:bJ):Bool:=(decide (x.cH<=y.To)&&decide (y.cH<=x.To))&&CX (t5 x) (t5 y)
def qg (a:fu):Prop:=∃(i k:Nat) (x y:bJ),k<i/\a.aR[i]? =some x/\a.aR[k]? =some y/\qf x y=true
noncomputable def u6 (r:List aG):Option Int:=if je r≠0 then some (je r) else none
noncomputable def CY (a:fu):Int:=if 2000<a.bZ.length+ (a.aI.map List.length).sum then 2 else if iT a≠0 then iT a else if mw a≠0 then mw a else if qg a then 12 else 0
noncomputable def GZ (a:fu):Int:=match a.aI.findSome? u6 with | some e=>e | none=>if je a.bZ≠0 then je a.bZ else CY a
noncomputable def kr (a:fu):Int:=if a.aI.length=0 then 9 else if 16<a.aI.length then 2 else GZ a
def Jh (n9:List (List aA)) (kq:List (List (List aA))):Prop:=(∀s∈n9,(aM s).length<=2000)/\(kp 0 kq).length<=2000
abbrev zD:=(List (List aG))×(List aG)×(List bJ)×(List cU)×(List (List aA))×(List aN)×(List (List Int))×(List eB)×(List Int)×(List Int)×(List Int)×(List lT)
def It (a:fu) (x:Option zD×Int):Prop:=
 (kr a≠0/\x= (none,kr a))\/(kr a=0/\oG a/\¬qg a/\∃n9 kq,vO a.aI a.aR a.aI.length n9 kq/\
  ((¬Jh n9 kq/\x= (none,2))\/(Jh n9 kq/\∃r gs ofP ofB x5 x6,DQ a.aR a.bI (kp 0 kq) r gs ofP ofB x5 x6/\
   x= (some (a.aI,a.bZ,a.aR,a.bI,n9,kp 0 kq,tc a.aR (kp 0 kq),gs,ofP,ofB,x5,x6),0))))
structure kW (a:fu):Prop where
 cs:a.aI.length<=1048576
 each: ∀r∈a.aI,r.length<=1048576
 out:a.bZ.length<=1048576
 bs:a.aR.length<=1048576
 ls:a.bI.length<=1048576
 nm:zy a
theorem CZ {a:fu} (h:bk a<=1048576):kW a:=by
 rw [GA] at h
 have h1:=vC a.aI
 have h2:=vC a.bZ
 have h3:=vC a.aR
 have h4:=vC a.bI
 refine⟨by omega,fun r hr=>?_,by omega,by omega,by omega,fun x hx=>?_⟩
 ·have:=DC hr
  have:=vC r;omega
 ·have:=DC hx
  rw [EA,Gx,Gx] at this;omega
theorem AG {a:fu} (hs:kW a) (hN:4398046511104<=N):Ok (kf N a) (It a):=by
 unfold kf
 have pe: ∀e:Int,e≠0->kr a=e->Ok (some ((none:Option zD),e)) (It a):=fun e he h=>Ok.ret (.inl ⟨by rw [h];exact he,by rw [h]⟩)
 have c1:=hs.cs
 refine Ok.bif (fun h=>?_) (fun h=>?_)
 ·have:a.aI.length=0:=by have:=beq_iff_eq.1 h;omega
  exact pe 9 (by omega) (by unfold kr;rw [aD this])
 have h0: ¬a.aI.length=0:=by rw [beq_eq_false_iff_ne] at h;omega
 refine Ok.bif (fun h=>?_) (fun h=>?_)
 ·have h1:16<a.aI.length:=by have:=of_decide_eq_true h;omega
  exact pe 2 (by omega) (by unfold kr;rw [aH h0,aD h1])
 have h1: ¬16<a.aI.length:=by have:=of_decide_eq_false h;omega
 have pe1:kr a=GZ a:=by unfold kr;rw [aH h0,aH h1]
 have hso:=hs.out
 have sumle: ∀k,k<=a.aI.length->((a.aI.take k).map List.length).sum<=k*1048576:=by
  intro k
  induction k with
  | zero=>intro _;simp
  | succ k ih=>
   intro hk
   have:=ih (by omega)
   have h2:=hs.each _ (cR (show k<a.aI.length by omega))
   rw [eD (by omega),eE,List.sum_append]
   simp only [dO,List.map_nil,List.sum_cons,List.sum_nil]
   rw [Nat.add_mul];omega
 refine Ok.bind (Ok.sW (Go:=fun s:Int=>s= ((a.bZ.length+ (a.aI.map List.length).sum:Nat):Int)/\∀r∈a.aI,je r=0) (Rt:=fun x:Option zD×Int=>∃e,e≠0/\x= (none,e)/\a.aI.findSome? u6=some e)
  (fun(k:Nat) (s:Int)=>s= ((a.bZ.length+ ((a.aI.take k).map List.length).sum:Nat):Int)/\∀r∈a.aI.take k,je r=0) (by omega) ⟨by simp,fun r hr=>by simp at hr⟩ (fun k s hk hI=>?_) (fun s hI=>by rw [fJ] at hI;exact hI)) ?_
 ·obtain⟨e,hI⟩:=hI
  subst e
  have hkx:a.aI[k]? =some a.aI[k]:=aO hk
  have hts:a.aI.take (k+1)=a.aI.take k++[a.aI[k]]:=eD hk
  have he:=hs.each _ (cR hk)
  refine Ok.ix hkx (Ok.eq (qe (by omega) hN) ?_)
  refine Ok.bif (fun h=>Ok.rt ?_) (fun h=>Ok.nx ?_)
  ·have h:je a.aI[k]≠0:=by simpa using h
   refine⟨_,h,rfl,?_⟩
   rw [List.findSome?_eq_some_iff]
   refine⟨a.aI.take k,a.aI[k],a.aI.drop (k+1),?_,by unfold u6;rw [aD h],fun r hr=>by unfold u6;rw [aH (by simpa using hI r hr)]⟩
   rw [<-r8 hk,List.take_append_drop]
  ·have h:je a.aI[k]=0:=by simpa using h
   have:=sumle k (by omega)
   have hk16:k*1048576<=16*1048576:=Nat.mul_le_mul_right _ (by omega)
   refine⟨?_,fun r hr=>?_⟩
   ·rw [wrap_add (by omega),hts,eE,List.sum_append]
    simp only [dO,List.map_nil,List.sum_cons,List.sum_nil]
    congr 1
    omega
   ·rw [hts] at hr
    rcases dC.1 hr with hr | hr
    ·exact hI r hr
    ·simp at hr;subst hr;exact h
 intro o ho
 refine Ok.cs ho ?_ ?_
 rotate_left
 ·rintro x ⟨e,he,rfl,hf⟩
  exact pe e he (by rw [pe1];unfold GZ;rw [hf])
 rintro s ⟨rfl,hreg⟩
 have K8:a.aI.findSome? u6=none:=List.findSome?_eq_none_iff.2 fun r hr=>by unfold u6;rw [aH (by simpa using hreg r hr)]
 have pe2:kr a=if je a.bZ≠0 then je a.bZ else CY a:=by rw [pe1];unfold GZ;rw [K8]
 refine Ok.eq (qe (by omega) hN) ?_
 refine Ok.bif (fun h=>?_) (fun h=>?_)
 ·have h:je a.bZ≠0:=by simpa using h
  exact pe _ h (by rw [pe2,aD h])
 have hout:je a.bZ=0:=by simpa using h
 have pe3:kr a=CY a:=by rw [pe2,aH (by simpa using hout)]
 refine Ok.bif (fun h=>?_) (fun h=>?_)
 ·have h:2000<a.bZ.length+ (a.aI.map List.length).sum:=by have:=of_decide_eq_true h;omega
  exact pe 2 (by omega) (by rw [pe3];unfold CY;rw [aD h])
 have hmany: ¬2000<a.bZ.length+ (a.aI.map List.length).sum:=by have:=of_decide_eq_false h;omega
 have hbs:=hs.bs
 have hls:=hs.ls
 refine Ok.eq (Aa (by omega) (by omega) (by omega)) ?_
 refine Ok.bif (fun h=>?_) (fun h=>?_)
 ·have h:iT a≠0:=by simpa using h
  exact pe _ h (by rw [pe3];unfold CY;rw [aH hmany,aD h])
 have hbo:iT a=0:=by simpa using h
 refine Ok.eq (Ab (by omega) (by omega) hs.nm (by omega)) ?_
 refine Ok.bif (fun h=>?_) (fun h=>?_)
 ·have h:mw a≠0:=by simpa using h
  exact pe _ h (by rw [pe3];unfold CY;rw [aH hmany,aH (by simpa using hbo),aD h])
 have hla:mw a=0:=by simpa using h
 have hg:oG a:=⟨by omega,hreg,hout,by omega,hbo,hla⟩
 have pe4:kr a=if qg a then 12 else 0:=by rw [pe3];unfold CY;rw [aH hmany,aH (by simpa using hbo),aH (by simpa using hla)]
 refine Ok.bind (Ok.sW (Go:=fun _:Unit=>¬qg a) (Rt:=fun x:Option zD×Int=>x= (none,12)/\qg a)
  (fun(k:Nat) (_:Unit)=>∀(i j:Nat) (x y:bJ),i<k->j<i->a.aR[i]? =some x->a.aR[j]? =some y->¬qf x y=true) (by omega) (fun i j x y h=>by omega) (fun k s hk hI=>?_) (fun s hI=>?_)) ?_
 ·have hkx:a.aR[k]? =some a.aR[k]:=aO hk
  refine Ok.ix hkx (Ok.eq (rl _ k (by omega)) ?_)
  have hgk:=hg.gb.ok _ (cR hk)
  refine Ok.bind (Ok.sW (Go:=fun _:Unit=>∀(j:Nat) (y:bJ),j<k->a.aR[j]? =some y->¬qf a.aR[k] y=true) (Rt:=fun x:Option zD×Int=>x= (none,12)/\qg a)
   (fun(t:Nat) (_:Unit)=>∀(j:Nat) (y:bJ),j<t->a.aR[j]? =some y->¬qf a.aR[k] y=true) (by rw [cM];omega) (fun j y h=>by omega) (fun t s ht hI2=>?_) (fun s hI2 j y hj hy=>hI2 j y (by rw [cM];omega) hy)) ?_
  ·have htk:t<k:=by rw [cM] at ht;omega
   have htx: (a.aR.take k)[t]? =some a.aR[t]:=by rw [List.getElem?_take_of_lt htk];exact aO (by omega)
   have hgt:=hg.gb.ok _ (cR (show t<a.aR.length by omega))
   refine Ok.ix htx ?_
   refine Ok.eq (x:=qf a.aR[k] a.aR[t]) ?_ ?_
   ·unfold qf
    cases hc: (decide (a.aR[k].cH<=a.aR[t].To)&&decide (a.aR[t].cH<=a.aR[k].To)) with
    | false=>rfl
    | true=>
     obtain⟨n,n1,n2⟩:=Jb (N:=N) hgk.2 hgt.2
     rw [aQ,mq hgk.1,aB,mq hgt.1,aB,n1,aB,Bool.true_and]
     congr 1
     rw [fK,beq_iff_eq];exact n2
   ·refine Ok.bif (fun h=>Ok.rt ⟨rfl,k,t,_,_,htk,hkx,aO (by omega),h⟩) (fun h=>Ok.nx fun j y hj hy=>?_)
    by_cases e:j<t
    ·exact hI2 j y e hy
    ·have:j=t:=by omega
     subst this
     rw [aO (by omega)] at hy;injection hy with hy
     rw [<-hy,h];simp
  ·intro o ho
   refine Ok.cs ho (fun s hI2=>Ok.nx fun i j x y hi hj hx hy=>?_) (fun x hx=>Ok.rt hx)
   by_cases e:i<k
   ·exact hI i j x y e hj hx hy
   ·have:i=k:=by omega
    subst this
    rw [hkx] at hx;injection hx with hx
    rw [<-hx];exact hI2 j y hj hy
 ·rintro⟨i,j,x,y,hj,hx,hy,hc⟩
  exact hI i j x y (bC.1 hx).1 hj hx hy hc
 intro o ho
 refine Ok.cs ho ?_ ?_
 rotate_left
 ·rintro x ⟨rfl,hc⟩
  exact pe 12 (by omega) (by rw [pe4,aD hc])
 intro _ hncl
 have pe5:kr a=0:=by rw [pe4,aH hncl]
 refine Ok.bind (DN (N:=N) (by omega) hg.cs hg.gb hN) ?_
 rintro⟨okk,n9,pcs⟩ ⟨kq,D,e1,e2⟩
 dsimp only at D e1 e2 ⊢
 subst e1
 refine Ok.bif (fun h=>Ok.ret (.inr ⟨pe5,hg,hncl,n9,kq,D, .inl ⟨fun hf=>?_,rfl⟩⟩)) (fun h=>?_)
 ·have:=e2.2 hf
  rw [this] at h;cases h
 ·have hf:Jh n9 kq:=e2.1 (by cases okk <;> simp_all)
  have hpr: ∀p∈kp 0 kq,p.pj.length<=1073741824:=fun p hp=>by
   obtain⟨i,r,s,ps,u,j,k,hP⟩:=GY hg D hp
   have:=(hP.CS hg).2.2;omega
  have hf2:=hf.2
  refine Ok.eq (GR hg.gb (by omega) hpr) ?_
  refine Ok.bind (BH (N:=N) hg.gb (by omega) hpr (by omega) hN) ?_
  rintro⟨gs,ofP,ofB,x5,x6⟩ ⟨r,hC⟩
  exact Ok.ret (.inr ⟨pe5,hg,hncl,n9,kq,D, .inr ⟨hf,r,gs,ofP,ofB,x5,x6,hC,rfl⟩⟩)
end
end Go.Gk
namespace Go.Gk
open Go Classical
section
variable {N:Nat}
theorem EO {w:Nat} {g:Nat->Nat} {a:Nat}: ∀{ks:List Nat},ks.Nodup->a∈ks->(ks.map (fun k=>(if a=k then w else 0)+g k)).sum=w+ (ks.map g).sum
 | [],_,h=>by cases h
 | k::ks,hn,h=>by
  have hn':=List.nodup_cons.1 hn
  simp only [dO,List.sum_cons]
  by_cases e:a=k
  ·subst e
   rw [aD rfl]
   have:ks.map (fun k=>(if a=k then w else 0)+g k)=ks.map g:=List.map_congr_left fun x hx=>by
    rw [aH (fun e=>hn'.1 (by rw [e];exact hx)),iw]
   rw [this];omega
  ·rw [aH e,EO hn'.2 (by rcases dH.1 h with h | h;exact absurd h e;exact h)];omega
theorem C0 {α:Type} {ks:List Nat} (hn:ks.Nodup) (f w:α->Nat): ∀{l:List α},(∀x∈l,f x∈ks)->(ks.map (fun k=>((l.filter (fun x=>decide (f x=k))).map w).sum)).sum= (l.map w).sum
 | [],_=>by
  have: ∀ks:List Nat,(ks.map (fun _=>0)).sum=0:=fun ks=>by
   induction ks with
   | nil=>rfl
   | cons k ks ih=>simp only [dO,List.sum_cons,ih]
  simpa using this ks
 | x::l,h=>by
  have ih:=C0 hn f w (l:=l) fun y hy=>h y (gN _ hy)
  have: (ks.map (fun k=>(((x::l).filter (fun x=>decide (f x=k))).map w).sum))=ks.map (fun k=>(if f x=k then w x else 0)+ ((l.filter (fun x=>decide (f x=k))).map w).sum):=List.map_congr_left fun k _=>by
   rw [List.filter_cons]
   by_cases e:f x=k
   ·rw [aD (by simpa using e),aD e,dO,List.sum_cons]
   ·rw [aH (by simpa using e),aH e,iw]
  rw [this,EO hn (h x (by simp)),ih,dO,List.sum_cons]
def EP (s:List aA):jy:=match s with | b::_=>⟨b.Xs.headD 0,b.Y0⟩ | []=>⟨0,0⟩
theorem wZ.ne {a:fu} {n9:List (List aA)} {kq:List (List (List aA))} {p:aN} {i:Nat} {r:List aG} {s:List aA} {ps:List (List aA)} {u:Nat->Nat} {j k:Nat} (h:wZ a n9 kq p i r s ps u j k):p.Set≠[]:=by
 intro e
 have hh:=jh.1 (gh h.head)
 have hx: (aM s)[k]? =some (aM s)[k]:=aO hh.1
 have hm: (aM s)[k]∈nb (aM s) (aM s).length u k:=lD.2 ⟨k,hh.1,hh.2,hx⟩
 obtain⟨b,hb,q,hq,hr⟩:=pO (gh hx)
 have hbm:bS b∈s.map bS:=dD.2 ⟨b,hb,rfl⟩
 have hq1:=DG (h.dr.can.each _ hbm).2.2.1 q hq
 have hb1:=(h.dr.can.each _ hbm).1
 have hc:=h.set.cover q.1 b.Y0
 rw [e] at hc
 have:tX (nb (aM s) (aM s).length u k) q.1 b.Y0=true:=iZ.2 ⟨_,hm,by rw [hr];exact⟨⟨Int.le_refl _,hq1⟩,Int.le_refl _,hb1⟩⟩
 rw [this] at hc
 cases hc
structure BJ (a:fu) (n9:List (List aA)) (kq:List (List (List aA))) (r:Nat->Nat) (gs:List eB) (ofP ofB x5:List Int) (x6:List lT):Prop where
 K2:oG a
 MY: ¬qg a
 dr:vO a.aI a.aR a.aI.length n9 kq
 Dh:Jh n9 kq
 MZ:DQ a.aR a.bI (kp 0 kq) r gs ofP ofB x5 x6
inductive Jc (N:Nat) (a:fu):Prop
 | err (e:Int) (he:e≠0) (h:kf N a=some (none,e))
 | ok {n9:List (List aA)} {kq:List (List (List aA))} {r:Nat->Nat} {gs:List eB} {ofP ofB x5:List Int} {x6:List lT} (b:BJ a n9 kq r gs ofP ofB x5 x6)
  (h:kf N a=some (some (a.aI,a.bZ,a.aR,a.bI,n9,kp 0 kq,tc a.aR (kp 0 kq),gs,ofP,ofB,x5,x6),0))
theorem opened {a:fu} (hs:kW a) (hN:4398046511104<=N):Jc N a:=by
 obtain⟨x,hx,hI⟩:=AG (N:=N) hs hN
 rcases hI with ⟨he,rfl⟩ | ⟨_,hg,hcl,n9,kq,D,⟨_,rfl⟩ | ⟨hf,r,gs,ofP,ofB,x5,x6,hC,rfl⟩⟩
 ·exact .err _ he hx
 ·exact .err 2 (by omega) hx
 ·exact .ok ⟨hg,hcl,D,hf,hC⟩ hx
end
end Go.Gk
namespace Go.Gk
open Go Classical
section
variable {S R:Type}
theorem Ok.sI {body:S->Option (Fl S R)} {N n:Nat} {s:S} (ι:S->Int) (Inv:Nat->S->Prop) {Go:S->Prop} {Rt:R->Prop}
  (h1: ∀k s,k<n->ι s= ((k:Nat):Int)->Inv k s->Ok (body s) (Hh (fun s'=>ι s'= ((k+1:Nat):Int)/\Inv (k+1) s') Go Rt))
  (h2: ∀s,ι s= ((n:Nat):Int)->Inv n s->Ok (body s) (Hh (fun _=>False) Go Rt))
  {k0:Nat} (hk:k0<=n) (hi:ι s= ((k0:Nat):Int)) (h0:Inv k0 s) (hn:n<N):Ok (Gk.kD body N s) (KN Go Rt):=by
 refine Ok.kD (fun s=>∃k:Nat,k<=n/\ι s= ((k:Nat):Int)/\Inv k s) (fun s=>n - (ι s).toNat) ?_ ⟨k0,hk,hi,h0⟩ (by omega)
 rintro s ⟨k,hk,e,hI⟩
 by_cases hlt:k<n
 ·refine(h1 k s hlt e hI).mono ?_
  rintro(s' | s' | r) hp
  ·have hp1:ι s'= ((k+1:Nat):Int):=hp.1
   exact⟨⟨k+1,hlt,hp.1,hp.2⟩,by rw [e,hp1];simp only [cK];omega⟩
  ·exact hp
  ·exact hp
 ·have:k=n:=by omega
  subst this
  refine(h2 s e hI).mono ?_
  rintro(s' | s' | r) hp
  ·exact hp.elim
  ·exact hp
  ·exact hp
theorem n8 {k n:Nat} (h:k<n):decide (((k:Nat):Int)< ((n:Nat):Int))=true:=bR (by omega)
theorem q8 (n:Nat):decide (((n:Nat):Int)< ((n:Nat):Int))=false:=bY (by omega)
theorem x8 {k n:Nat} (h:n<=k):decide (((k:Nat):Int)< ((n:Nat):Int))=false:=bY (by omega)
end
theorem sO {α:Type} {p:α->Bool}: ∀{l:List α} {k:Nat},(∀(j:Nat) x,j<k->l[j]? =some x->p x=true)->(∀x,l[k]? =some x->p x=false)->l.takeWhile p=l.take k/\l.dropWhile p=l.drop k
 | [],k,_,_=>by simp
 | y::l,0,_,h2=>by
  have:=h2 y rfl
  rw [List.takeWhile_cons,List.dropWhile_cons,this];simp
 | y::l,k+1,h1,h2=>by
  have h:=h1 0 y (by omega) rfl
  obtain⟨e1,e2⟩:=sO (l:=l) (k:=k) (fun j x hj hx=>h1 (j+1) x (by omega) hx) (fun x hx=>h2 x hx)
  rw [List.takeWhile_cons,List.dropWhile_cons,h,aD rfl,aD rfl,e1,e2];simp
section
variable {N:Nat}
def sP (l:List Int) (c:Int):List Int:=if c∈l then l else l.takeWhile (fun x=>decide (x<c))++c::l.dropWhile (fun x=>decide (x<c))
theorem w6 (l:List Int) (c:Int): (sP l c).length<=l.length+1:=by
 unfold sP
 split
 ·omega
 ·have: (l.takeWhile (fun x=>decide (x<c))).length+ (l.dropWhile (fun x=>decide (x<c))).length=l.length:=by rw [<-cT,List.takeWhile_append_dropWhile]
  rw [cT,fI];omega
theorem G0 {l:List Int} {c x:Int}:x∈sP l c↔x∈l\/x=c:=by
 unfold sP
 split
 ·rename_i h
  exact⟨.inl,fun h'=>h'.elim id fun e=>e▸h⟩
 ·have:x∈l↔x∈l.takeWhile (fun x=>decide (x<c))\/x∈l.dropWhile (fun x=>decide (x<c)):=by rw [<-dC,List.takeWhile_append_dropWhile]
  rw [dC,dH,this]
  constructor
  ·rintro(h | h | h)
   ·exact .inl (.inl h)
   ·exact .inr h
   ·exact .inl (.inr h)
  ·rintro((h | h) | h)
   ·exact .inl h
   ·exact .inr (.inr h)
   ·exact .inr (.inl h)
theorem ER {l:List Int} (h:jw l) (c:Int): ∀x∈l.dropWhile (fun x=>decide (x<c)),c<=x:=by
 induction l with
 | nil=>intro x hx;cases hx
 | cons a l ih=>
  rw [List.dropWhile_cons]
  by_cases ha:a<c
  ·rw [aD (by simpa using ha)];exact ih h.tail
  ·rw [aH (by simpa using ha)]
   intro x hx
   rcases dH.1 hx with rfl | hx
   ·omega
   ·have:=h.head x hx;omega
theorem HT (l:List Int) (c:Int): ∀x∈l.takeWhile (fun x=>decide (x<c)),x<c:=by
 induction l with
 | nil=>intro x hx;cases hx
 | cons a l ih=>
  rw [List.takeWhile_cons]
  by_cases ha:a<c
  ·rw [aD (by simpa using ha)]
   intro x hx
   rcases dH.1 hx with rfl | hx
   ·exact ha
   ·exact ih x hx
  ·rw [aH (by simpa using ha)]
   intro x hx;cases hx
theorem w7 {l:List Int} {c:Int} (h:jw l):jw (sP l c):=by
 unfold sP
 split
 ·exact h
 ·rename_i hc
  have hs:=h
  rw [<-List.takeWhile_append_dropWhile (p:=fun x=>decide (x<c)) (l:=l)] at hs
  unfold jw at hs ⊢
  rw [my] at hs ⊢
  refine⟨hs.1,nN.2 ⟨fun x hx=>?_,hs.2.1⟩,fun x hx y hy=>?_⟩
  ·have h1:=ER h c x hx
   have h2:x≠c:=fun e=>hc (by rw [<-e,<-List.takeWhile_append_dropWhile (p:=fun x=>decide (x<c)) (l:=l)];exact List.mem_append_right _ hx)
   omega
  ·have h1:=HT l c x hx
   rcases dH.1 hy with rfl | hy
   ·exact h1
   ·have:=ER h c y hy;omega
def j3 (l:List Int):List Int:=l.foldl sP []
theorem sQ: ∀(cs l:List Int),jw l->jw (cs.foldl sP l)/\(∀x,x∈cs.foldl sP l↔x∈l\/x∈cs)/\(cs.foldl sP l).length<=l.length+cs.length
 | [],l,h=>⟨h,fun x=>by simp,by simp⟩
 | c::cs,l,h=>by
  obtain⟨h1,h2,h3⟩:=sQ cs (sP l c) (w7 h)
  refine⟨h1,fun x=>?_,?_⟩
  ·rw [List.foldl_cons,h2,G0,dH,or_assoc]
  ·rw [List.foldl_cons,fI]
   have:=w6 l c;omega
theorem mM (l:List Int):jw (j3 l):=(sQ l [] jU).1
theorem xK {l:List Int} {x:Int}:x∈j3 l↔x∈l:=by
 have:=(sQ l [] jU).2.1 x
 unfold j3;rw [this];simp
theorem rR (l:List Int): (j3 l).length<=l.length:=by
 have:=(sQ l [] jU).2.2
 unfold j3;simpa using this
theorem ud (l:List Int) (c d:Int):j3 (l++[c,d])=sP (sP (j3 l) c) d:=by unfold j3;rw [List.foldl_append];rfl
theorem DR {a b:Nat} (h:a+b<=4611686018427387904):IntKind.wrap .i64 (Int.tdiv (IntKind.wrap .i64 (((a:Nat):Int)+ ((b:Nat):Int))) 2)= (((a+b) / 2:Nat):Int):=by
 rw [wrap_add h,Int.tdiv_eq_ediv_of_nonneg (by omega),fw (by omega) (by omega)];omega
theorem uH {l:List Int} {c:Int} (h:jw l) (hl:l.length<=1099511627776) (hN:4398046511104<=N):eW N l c=some (sP l c):=by
 refine Ok.get ?_
 unfold eW
 refine Ok.bind (Ok.kD (Go:=fun st:Int×Int=>∃a:Nat,st.1= ((a:Nat):Int)/\a<=l.length/\(∀(j:Nat) x,j<a->l[j]? =some x->x<c)/\(∀(j:Nat) x,a<=j->l[j]? =some x->c<=x)) (Rt:=fun _=>True)
  (fun st=>∃a b:Nat,st= (((a:Nat):Int),((b:Nat):Int))/\a<=b/\b<=l.length/\(∀(j:Nat) x,j<a->l[j]? =some x->x<c)/\(∀(j:Nat) x,b<=j->l[j]? =some x->c<=x))
  (fun st=>(st.2 - st.1).toNat) ?_ ⟨0,l.length,rfl,by omega,bK _,fun j x hj=>by omega,fun j x hj hx=>by have:=(bC.1 hx).1;omega⟩ (by simp only;omega)) ?_
 ·rintro st ⟨a,b,rfl,hab,hb,h1,h2⟩
  dsimp only
  by_cases hlt:a<b
  ·have hm: (a+b) / 2<l.length:=by omega
   have hx:l[(a+b) / 2]? =some l[(a+b) / 2]:=aO hm
   rw [n8 hlt,aQ,DR (by omega)]
   refine Ok.ix hx ?_
   by_cases hc:l[(a+b) / 2]<c
   ·rw [bR hc,aQ,aB]
    refine Ok.nx ⟨⟨(a+b) / 2+1,b,?_,by omega,hb,fun j x hj hx'=>?_,h2⟩,?_⟩
    ·rw [cD (by omega)]
    ·by_cases e:j= (a+b) / 2
     ·subst e;rw [hx] at hx';injection hx' with hx';omega
     ·have:=h.lt (i:=j) (j:=(a+b) / 2) (by omega) hx' hx
      omega
    ·rw [cD (by omega)];simp only;omega
   ·rw [bY hc,aT,aB]
    refine Ok.nx ⟨⟨a,(a+b) / 2,rfl,by omega,by omega,h1,fun j x hj hx'=>?_⟩,by simp only;omega⟩
    by_cases e:j= (a+b) / 2
    ·subst e;rw [hx] at hx';injection hx' with hx';omega
    ·have:=h.lt (i:=(a+b) / 2) (j:=j) (by omega) hx hx'
     omega
  ·rw [x8 (by omega),aT]
   exact Ok.br ⟨a,rfl,by omega,h1,fun j x hj hx=>h2 j x (by omega) hx⟩
 intro o ho
 refine Ok.cs ho ?_ (fun r hr=>r.elim)
 rintro⟨st1,st2⟩ ⟨a,ha,hle,h1,h2⟩
 dsimp only at ha ⊢
 subst ha
 have hin:l[a]? =some c->sP l c=l:=fun hx=>by unfold sP;rw [aD (gh hx)]
 have hout:l[a]? ≠some c->sP l c=l.take a++c::l.drop a:=fun hx=>by
  have hc:c∉l:=fun hc=>by
   obtain⟨j,hj⟩:=eR hc
   by_cases h3:j<a
   ·have:=h1 j c h3 hj;omega
   ·by_cases e:j=a
    ·subst e;exact hx hj
    ·have h5:a<l.length:=by have:=(bC.1 hj).1;omega
     have h6:l[a]? =some l[a]:=aO h5
     have h7:=h.lt (i:=a) (j:=j) (by omega) h6 hj
     have h8:=h2 a _ (bK _) h6
     omega
  unfold sP
  rw [aH hc]
  obtain⟨e1,e2⟩:=sO (p:=fun x=>decide (x<c)) (l:=l) (k:=a) (fun j x hj hx'=>bR (h1 j x hj hx')) (fun x hx'=>bY (by have:=h2 a x (bK _) hx';omega))
  rw [e1,e2]
 have hrest:l[a]? ≠some c->Ok ((tt l 0 ((a:Nat):Int)).bind fun x49=>(app 8 ([]:List Int) x49).bind fun x51=>(app 8 x51 ([c]:List Int)).bind fun x54=>(tt l ((a:Nat):Int) ((l.length:Nat):Int)).bind fun x56=>(app 8 x54 x56).bind fun x58=>some x58) (fun r=>r=sP l c):=fun hx=>by
  have htk: (l.take a).length=a:=by rw [cM];omega
  refine Ok.eq (rl l a hle) (Ok.app (by simp only [List.length_nil];omega) (Ok.app (by rw [List.nil_append];simp only [fI,List.length_nil];omega) (Ok.eq (pT l a hle) (Ok.app ?_ (Ok.ret ?_)))))
  ·rw [List.nil_append,cT,iv];simp only [fI,List.length_nil];omega
  ·rw [hout hx];simp
 by_cases hlt:a<l.length
 ·have hx:l[a]? =some l[a]:=aO hlt
  rw [n8 hlt,aQ,gv hx,aB,aB]
  refine Ok.bif (fun hb=>Ok.ret ?_) (fun hb=>hrest ?_)
  ·rw [beq_iff_eq] at hb
   rw [hin (by rw [hx,hb])]
  ·rw [beq_eq_false_iff_ne] at hb
   rw [hx];intro e;injection e with e;exact hb e
 ·rw [x8 (by omega),aT,aB,aT]
  exact hrest (by rw [List.getElem?_eq_none (by omega)];intro e;cases e)
theorem C1 (l m:List aG):iJ (l++m)=iJ l++iJ m:=List.flatMap_append
theorem zF {l:List aG} (hl:l.length<=268435456) (hN:4398046511104<=N):gE N l=some (j3 (iJ l)):=by
 refine Ok.get ?_
 unfold gE
 refine Ok.bind (Ok.sI (n:=l.length) (fun s=>s.2) (fun k s=>s.1=j3 (iJ (l.take k))) (Go:=fun s=>s.1=j3 (iJ l)) (Rt:=fun _=>False) ?_ ?_ (fS _) rfl rfl (by omega)) ?_
 ·rintro k ⟨out,i⟩ hk e hI
  dsimp only at e hI ⊢
  subst e;subst hI
  rw [n8 hk,aQ]
  have hx:l[k]? =some l[k]:=aO hk
  have h1:=rR (iJ (l.take k))
  rw [gK,cM] at h1
  have h2:=w6 (j3 (iJ (l.take k))) l[k].Y0
  refine Ok.ix hx (Ok.ix hx (Ok.eq (uH (mM _) (by omega) hN) (Ok.eq (uH (w7 (mM _)) (by omega) hN) (Ok.nx ⟨cD (by omega),?_⟩))))
  rw [eD hk,C1]
  exact(ud _ _ _).symm
 ·rintro⟨out,i⟩ e hI
  dsimp only at e hI ⊢
  subst e
  rw [q8,aT]
  exact Ok.br (by rw [fJ] at hI;exact hI)
 intro o ho
 exact Ok.cs ho (fun s hs=>Ok.ret hs) (fun r hr=>hr.elim)
def sp (s:aF):Int×Int:=(s.from_,s.to)
theorem G1: ∀{l m:List aF},l.map sp=m.map sp->l=m
 | [],[],_=>rfl
 | [],_::_,h=>by cases h
 | _::_,[],h=>by cases h
 | ⟨a,b⟩::l,⟨c,d⟩::m,h=>by
  rw [dO,dO] at h
  injection h with h1 h2
  unfold sp at h1
  injection h1 with h3 h4
  simp only at h3 h4
  rw [h3,h4,G1 h2]
theorem w8 (a b:Int): (if b<a then b else a)=min a b:=by split <;> omega
theorem w9 (a b:Int): (if a<b then b else a)=max a b:=by split <;> omega
theorem AH {l:List aF} {s:aF} (hl:l.length<=268435456) (hN:4398046511104<=N):Ok (gZ N l s) (fun r=>r.map sp=lv (l.map sp) (sp s)):=by
 unfold gZ
 have hget: ∀(j:Nat) (x:Int×Int),(l.map sp)[j]? =some x->∃y,l[j]? =some y/\x=sp y:=fun j x h=>by
  rw [j9] at h
  cases hy:l[j]? with
  | none=>rw [hy] at h;cases h
  | some y=>rw [hy] at h;injection h with h;exact⟨y,rfl,h.symm⟩
 refine Ok.bind (Ok.kD (Go:=fun st:List aF×Int=>∃k:Nat,st= (l.take k,((k:Nat):Int))/\k<=l.length/\(∀(j:Nat) x,j<k->l[j]? =some x->x.to<s.from_)/\(∀x,l[k]? =some x->¬x.to<s.from_)) (Rt:=fun _=>False)
  (fun st=>∃k:Nat,st= (l.take k,((k:Nat):Int))/\k<=l.length/\∀(j:Nat) x,j<k->l[j]? =some x->x.to<s.from_) (fun st=>l.length - st.2.toNat) ?_ ⟨0,by simp,by omega,fun j x hj=>by omega⟩ (by simp;omega)) ?_
 ·rintro st ⟨k,rfl,hk,hI⟩
  dsimp only
  by_cases hlt:k<l.length
  ·have hx:l[k]? =some l[k]:=aO hlt
   rw [n8 hlt,aQ,gv hx,aB,aB]
   refine Ok.bif (fun hb=>?_) (fun hb=>?_)
   ·have hb:=of_decide_eq_true hb
    refine Ok.eq rfl (Ok.app ?_ (Ok.nx ⟨⟨k+1,?_,hlt,?_⟩,?_⟩))
    ·rw [cM];simp only [fI,List.length_nil];omega
    ·rw [cD (by omega),eD hlt]
    ·intro j x hj hx'
     by_cases e:j=k
     ·subst e;rw [hx] at hx';injection hx' with hx';rw [<-hx'];exact hb
     ·exact hI j x (by omega) hx'
    ·rw [cD (by omega)];simp only [cK];omega
   ·have hb:=of_decide_eq_false hb
    exact Ok.br ⟨k,rfl,hk,hI,fun x hx'=>by rw [hx] at hx';injection hx' with hx';rw [<-hx'];exact hb⟩
  ·rw [x8 (by omega),aT,aB,aT]
   exact Ok.br ⟨k,rfl,hk,hI,fun x hx'=>by have:=(bC.1 hx').1;omega⟩
 intro o ho
 refine Ok.cs ho ?_ (fun r hr=>hr.elim)
 rintro st ⟨k,rfl,hk,hI,hE⟩
 dsimp only
 obtain⟨e1,e2⟩:=sO (p:=fun a:Int×Int=>decide (a.2< (sp s).1)) (l:=l.map sp) (k:=k) (fun j x hj hx=>by
  obtain⟨y,hy,rfl⟩:=hget j x hx
  exact bR (hI j y hj hy)) (fun x hx=>by
  obtain⟨y,hy,rfl⟩:=hget k x hx
  exact bY (hE y hy))
 refine Ok.bind (Ok.kD (Go:=fun st:aF×Int=>∃i:Nat,st.2= ((i:Nat):Int)/\i<=l.length/\j5 (sp s) ((l.drop k).map sp)= (sp st.1,(l.drop i).map sp)) (Rt:=fun _=>False)
  (fun st=>∃i:Nat,st.2= ((i:Nat):Int)/\i<=l.length/\j5 (sp s) ((l.drop k).map sp)=j5 (sp st.1) ((l.drop i).map sp)) (fun st=>l.length - st.2.toNat) ?_ ⟨k,rfl,hk,rfl⟩ (by simp only [cK];omega)) ?_
 ·rintro⟨s',i'⟩ ⟨i,e,hi,hm⟩
  dsimp only at e hm ⊢
  subst e
  by_cases hlt:i<l.length
  ·have hx:l[i]? =some l[i]:=aO hlt
   have hd: (l.drop i).map sp=sp l[i]::(l.drop (i+1)).map sp:=by rw [r8 hlt,dO]
   rw [n8 hlt,aQ,gv hx,aB,aB]
   refine Ok.bif (fun hb=>?_) (fun hb=>?_)
   ·have hb:=of_decide_eq_true hb
    refine Ok.eq rfl (Ok.eq rfl (Ok.nx ⟨⟨i+1,cD (by omega),hlt,?_⟩,?_⟩))
    ·rw [hm,hd]
     conv=>lhs;unfold j5
     rw [aD (show (sp l[i]).1<=(sp s').2 from hb),w8,w9]
     rfl
    ·dsimp only;rw [cD (by omega)];simp only [cK];omega
   ·have hb:=of_decide_eq_false hb
    refine Ok.br ⟨i,rfl,hi,?_⟩
    rw [hm,hd]
    conv=>lhs;unfold j5
    rw [aH (show ¬(sp l[i]).1<=(sp s').2 from hb)]
  ·rw [x8 (by omega),aT,aB,aT]
   refine Ok.br ⟨i,rfl,hi,?_⟩
   rw [hm,List.drop_eq_nil_of_le (by omega)];rfl
 intro o ho
 refine Ok.cs ho ?_ (fun r hr=>hr.elim)
 rintro⟨s',i'⟩ ⟨i,e,hi,hm⟩
 dsimp only at e hm ⊢
 subst e
 refine Ok.app ?_ (Ok.eq (pT l i hi) (Ok.app ?_ (Ok.ret ?_)))
 ·rw [cM];simp only [fI,List.length_nil];omega
 ·rw [cT,cM,iv];simp only [fI,List.length_nil];omega
 ·unfold lv
  rw [e1,e2,<-List.map_take,<-List.map_drop,hm]
  simp
theorem zG: ∀(l:List (Int×Int)) (s:Int×Int),(j5 s l).2.length<=l.length
 | [],s=>bK _
 | a::l,s=>by
  unfold j5
  split
  ·have:=zG l (min s.1 a.1,max s.2 a.2)
   rw [fI];omega
  ·exact bK _
theorem x9 (l:List (Int×Int)) (s:Int×Int): (lv l s).length<=l.length+1:=by
 unfold lv
 have h1:=zG (l.dropWhile fun a=>decide (a.2<s.1)) s
 have h2: (l.takeWhile (fun x=>decide (x.2<s.1))).length+ (l.dropWhile (fun x=>decide (x.2<s.1))).length=l.length:=by rw [<-cT,List.takeWhile_append_dropWhile]
 rw [cT,fI];omega
def ji (y:Int) (out:List (Int×Int)) (r:aG):List (Int×Int):=if r.Y0<=y/\y<r.Y1 then lv out (r.X0,r.X1) else out
def ku (l:List aG) (y:Int):List (Int×Int):=l.foldl (ji y) []
theorem FF (l:List aG) (r:aG) (y:Int):ku (l++[r]) y=ji y (ku l y) r:=by unfold ku;rw [List.foldl_append];rfl
theorem ya (y:Int): ∀(l:List aG) (out:List (Int×Int)),(l.foldl (ji y) out).length<=out.length+l.length
 | [],out=>by simp
 | r::l,out=>by
  rw [List.foldl_cons,fI]
  have h1:=ya y l (ji y out r)
  have h2: (ji y out r).length<=out.length+1:=by
   unfold ji
   split
   ·exact x9 _ _
   ·omega
  omega
theorem rS (l:List aG) (y:Int): (ku l y).length<=l.length:=by
 have:=ya y l []
 unfold ku;simpa using this
theorem xc (y:Int): ∀(l:List aG) (out:List (Int×Int)),(∀r∈l,r.X0<r.X1)->jw (cY out)->jw (cY (l.foldl (ji y) out))/\∀x,iW (l.foldl (ji y) out) x= (iW out x||tX l x y)
 | [],out,_,h=>⟨h,fun x=>by simp [tX]⟩
 | r::l,out,hr,h=>by
  have h0:=hr r (by simp)
  rw [List.foldl_cons]
  have hst:jw (cY (ji y out r))/\∀x,iW (ji y out r) x= (iW out x||((decide (r.X0<=x)&&decide (x<r.X1))&&(decide (r.Y0<=y)&&decide (y<r.Y1)))):=by
   unfold ji
   by_cases hy:r.Y0<=y/\y<r.Y1
   ·rw [aD hy]
    obtain⟨j1,j2⟩:=wL (l:=out) (s:=(r.X0,r.X1)) h h0
    refine⟨j1,fun x=>?_⟩
    rw [j2,bR hy.1,bR hy.2,Bool.or_comm];simp
   ·rw [aH hy]
    refine⟨h,fun x=>?_⟩
    have: (decide (r.Y0<=y)&&decide (y<r.Y1))=false:=by rw [Bool.and_eq_false_iff,decide_eq_false_iff_not,decide_eq_false_iff_not];omega
    rw [this];simp
  obtain⟨m1,m2⟩:=xc y l (ji y out r) (fun r' hr'=>hr r' (gN _ hr')) hst.1
  refine⟨m1,fun x=>?_⟩
  rw [m2,hst.2,Bool.or_assoc];rfl
theorem uI {l:List aG} (h: ∀r∈l,r.X0<r.X1) (y:Int):jw (cY (ku l y))/\∀x,iW (ku l y) x=tX l x y:=by
 obtain⟨h1,h2⟩:=xc y l [] h jU
 exact⟨h1,fun x=>by rw [show iW (ku l y) x=_ from h2 x,show iW [] x=false from rfl,Bool.false_or]⟩
theorem vj {y y':Int}: ∀(l:List aG) (out:List (Int×Int)),(∀r∈l,(r.Y0<=y/\y<r.Y1)↔(r.Y0<=y'/\y'<r.Y1))->l.foldl (ji y) out=l.foldl (ji y') out
 | [],out,_=>rfl
 | r::l,out,h=>by
  rw [List.foldl_cons,List.foldl_cons,vj l _ (fun r' hr'=>h r' (gN _ hr'))]
  congr 1
  unfold ji
  have:=h r (by simp)
  by_cases h1:r.Y0<=y/\y<r.Y1
  ·rw [aD h1,aD (this.1 h1)]
  ·rw [aH h1,aH (fun h2=>h1 (this.2 h2))]
theorem DS {l:List aG} {y y':Int} (h: ∀r∈l,(r.Y0<=y/\y<r.Y1)↔(r.Y0<=y'/\y'<r.Y1)):ku l y=ku l y':=vj l [] h
theorem G2 {l:List aG} {y:Int} (h: ∀r∈l,¬(r.Y0<=y/\y<r.Y1)):ku l y= []:=by
 have: ∀(l:List aG) (out:List (Int×Int)),(∀r∈l,¬(r.Y0<=y/\y<r.Y1))->l.foldl (ji y) out=out:=by
  intro l
  induction l with
  | nil=>intro out _;rfl
  | cons r l ih=>
   intro out h
   rw [List.foldl_cons,ih _ (fun r' hr'=>h r' (gN _ hr'))]
   unfold ji;rw [aH (h r (by simp))]
 exact this l [] h
theorem DT {l:List aG} {y:Int} (hl:l.length<=134217728) (hN:4398046511104<=N):Ok (iC N l y) (fun r=>r.map sp=ku l y):=by
 unfold iC
 refine Ok.bind (Ok.sI (n:=l.length) (fun s=>s.2) (fun k s=>s.1.map sp=ku (l.take k) y) (Go:=fun s=>s.1.map sp=ku l y) (Rt:=fun _=>False) ?_ ?_ (fS _) rfl rfl (by omega)) ?_
 ·rintro k ⟨out,i⟩ hk e hI
  dsimp only at e hI ⊢
  subst e
  rw [n8 hk,aQ]
  have hx:l[k]? =some l[k]:=aO hk
  have hlen:out.length<=l.length:=by
   have h1:=rS (l.take k) y
   rw [<-hI,dS,cM] at h1;omega
  rw [gv hx,aB]
  have hst:ku (l.take (k+1)) y=ji y (ku (l.take k) y) l[k]:=by rw [eD hk,FF]
  have hno: ¬(l[k].Y0<=y/\y<l[k].Y1)->Ok ((some out).bind fun s141=>some (Fl.nx (s141,IntKind.wrap .i64 (((k:Nat):Int)+1)):Fl (List aF×Int) Empty)) (Hh (fun s'=>s'.2= ((k+1:Nat):Int)/\s'.1.map sp=ku (l.take (k+1)) y) (fun s=>s.1.map sp=ku l y) (fun _=>False)):=fun hy=>by
   rw [aB]
   refine Ok.nx ⟨cD (by omega),?_⟩
   rw [hst];unfold ji;rw [aH hy];exact hI
  by_cases h1:l[k].Y0<=y
  ·rw [bR h1,aQ,aB,aB]
   by_cases h2:y<l[k].Y1
   ·rw [bR h2,aQ]
    refine Ok.bind (P:=fun r:List aF=>r.map sp=ku (l.take (k+1)) y) (Ok.eq rfl (Ok.eq rfl (Ok.bind (AH (by omega) hN) (fun r hr=>Ok.ret ?_)))) (fun r hr=>Ok.nx ⟨cD (by omega),hr⟩)
    rw [hr,hI,hst];unfold ji;rw [aD ⟨h1,h2⟩];rfl
   ·rw [bY h2,aT]
    exact hno (fun h=>h2 h.2)
  ·rw [bY h1,aT,aB,aT]
   exact hno (fun h=>h1 h.1)
 ·rintro⟨out,i⟩ e hI
  dsimp only at e hI ⊢
  subst e
  rw [q8,aT]
  exact Ok.br (by rw [fJ] at hI;exact hI)
 intro o ho
 exact Ok.cs ho (fun s hs=>Ok.ret hs) (fun r hr=>hr.elim)
theorem AJ {l:List aF} {x:Int} (hl:l.length<=1099511627776) (hN:4398046511104<=N):hG N l x=some (iW (l.map sp) x):=by
 refine Ok.get ?_
 unfold hG
 have hm: ∀b:Bool,(iW (l.map sp) x=b↔(l.any fun s=>decide (s.from_<=x)&&decide (x<s.to))=b):=fun b=>by unfold iW;rw [List.any_map];rfl
 refine Ok.bind (Ok.sI (n:=l.length) (fun s=>s) (fun k s=>∀(j:Nat) y,j<k->l[j]? =some y->¬(y.from_<=x/\x<y.to)) (Go:=fun s=>iW (l.map sp) x=false) (Rt:=fun r=>r=iW (l.map sp) x) ?_ ?_ (fS _) rfl (fun j y hj=>by omega) (by omega)) ?_
 ·rintro k i hk e hI
  subst e
  rw [n8 hk,aQ]
  have hx:l[k]? =some l[k]:=aO hk
  rw [gv hx,aB]
  have hno: ¬(l[k].from_<=x/\x<l[k].to)->Ok (some (Fl.nx (IntKind.wrap .i64 (((k:Nat):Int)+1)):Fl Int Bool)) (Hh (fun s'=>s'= ((k+1:Nat):Int)/\∀(j:Nat) y,j<k+1->l[j]? =some y->¬(y.from_<=x/\x<y.to)) (fun s=>iW (l.map sp) x=false) (fun r=>r=iW (l.map sp) x)):=fun hy=>Ok.nx ⟨cD (by omega),fun j y hj hjy=>by
   by_cases e:j=k
   ·subst e;rw [hx] at hjy;injection hjy with hjy;rw [<-hjy];exact hy
   ·exact hI j y (by omega) hjy⟩
  by_cases h1:l[k].from_<=x
  ·rw [bR h1,aQ,aB,aB]
   by_cases h2:x<l[k].to
   ·rw [bR h2,aQ]
    refine Ok.rt ?_
    symm;rw [hm,k9]
    exact⟨l[k],cR hk,by rw [bR h1,bR h2];rfl⟩
   ·rw [bY h2,aT];exact hno (fun h=>h2 h.2)
  ·rw [bY h1,aT,aB,aT];exact hno (fun h=>h1 h.1)
 ·rintro i e hI
  subst e
  rw [q8,aT]
  refine Ok.br ?_
  rw [hm,List.any_eq_false]
  intro y hy
  obtain⟨j,hj⟩:=eR hy
  have:=hI j y (bC.1 hj).1 hj
  rw [nc,Bool.and_eq_false_iff,decide_eq_false_iff_not,decide_eq_false_iff_not];omega
 intro o ho
 exact Ok.cs ho (fun s hs=>Ok.ret hs.symm) (fun r hr=>Ok.ret hr)
end
end Go.Gk
namespace Go.Gk
open Go Classical
section
variable {α:Type} [DecidableEq α] {N:Nat}
def Iu (N:Nat) (p0 p1:List α):Option Bool:=
 bif ((p0.length:Int) != (p1.length:Int)) then (some false) else ((kD (fun(s32:Int)=>(bif (decide (s32< (p0.length:Int))) then ((idx p0 s32).bind fun x45=>(idx p1 s32).bind fun x48=>bif (!(decide (x45=x48))) then (some (.rt false)) else (some (.nx (IntKind.wrap .i64 (s32+1))))) else (some (.br s32)):Option (Fl (Int) Bool))) N 0).bind fun o51=>o51.cs (fun(s32:Int)=>some true) (fun r=>some r))
theorem C2 {l m:List α} (hl:l.length<=1099511627776) (hN:4398046511104<=N):Iu N l m=some (decide (l=m)):=by
 refine Ok.get ?_
 unfold Iu
 by_cases he:l.length=m.length
 ·rw [show ((((l.length:Nat):Int)) != ((m.length:Nat):Int))=false by rw [he];simp,aT]
  refine Ok.bind (Ok.sI (n:=l.length) (fun s=>s) (fun k s=>∀j,j<k->l[j]? =m[j]?) (Go:=fun s=>l=m) (Rt:=fun r=>r=false/\l≠m) ?_ ?_ (fS _) rfl (fun j hj=>by omega) (by omega)) ?_
  ·rintro k i hk e hI
   subst e
   have hx:l[k]? =some l[k]:=aO hk
   have hy:m[k]? =some (m[k]'(by omega)):=aO _
   rw [n8 hk,aQ]
   refine Ok.ix hx (Ok.ix hy (Ok.bif (fun hb=>Ok.rt ⟨rfl,fun e=>?_⟩) (fun hb=>Ok.nx ⟨cD (by omega),fun j hj=>?_⟩)))
   ·have h1:some l[k]=some (m[k]'(by omega)):=hx.symm.trans ((by rw [e]:l[k]? =m[k]?).trans hy)
    injection h1 with h1
    rw [h1] at hb;simp at hb
   ·by_cases e:j=k
    ·subst e;rw [hx,hy];simpa using hb
    ·exact hI j (by omega)
  ·rintro i e hI
   subst e
   rw [q8,aT]
   refine Ok.br (List.ext_getElem? fun j=>?_)
   by_cases hj:j<l.length
   ·exact hI j hj
   ·rw [List.getElem?_eq_none (by omega),List.getElem?_eq_none (by omega)]
  intro o ho
  exact Ok.cs ho (fun s hs=>Ok.ret (bR hs).symm) (fun r hr=>Ok.ret (by rw [hr.1,bY hr.2]))
 ·rw [show ((((l.length:Nat):Int)) != ((m.length:Nat):Int))=true by rw [bne_iff_ne];omega,aQ]
  exact Ok.ret (bY fun h=>he (by rw [h])).symm
end
section
variable {N:Nat}
theorem BK {l m:List aG} (hl:l.length<=1099511627776) (hN:4398046511104<=N):dL N l m=some (decide (l=m)):=C2 hl hN
theorem BL {l m:List aF} (hl:l.length<=1099511627776) (hN:4398046511104<=N):jf N l m=some (decide (l=m)):=C2 hl hN
def q9 (b:aK):Bd:=⟨b.from_,b.to,cY (b.iK.map sp)⟩
theorem FG {l:List (Int×Int)}:cY l= []↔l= []:=by
 cases l with
 | nil=>exact⟨fun _=>rfl,fun _=>rfl⟩
 | cons s l=>exact⟨fun h=>(by cases h),fun h=>(by cases h)⟩
theorem FH {l m:List aF}:cY (l.map sp)=cY (m.map sp)↔l=m:=⟨fun h=>G1 (Av h),fun h=>by rw [h]⟩
theorem DU {l:List aK} {b:aK} (hlt:b.from_<b.to) (hl:l.length<=1073741824) (hs: ∀c∈l,c.iK.length<=1099511627776) (hN:4398046511104<=N):
  Ok (fO N l b) (fun r=>r.map q9=jg (l.map q9) (q9 b)):=by
 unfold fO jg
 by_cases h0:b.iK= []
 ·rw [show (((b.iK.length:Nat):Int)==0)=true by rw [h0];rfl,aQ,aD (.inl (by unfold q9;rw [h0];rfl))]
  exact Ok.ret rfl
 ·rw [show (((b.iK.length:Nat):Int)==0)=false by rw [beq_eq_false_iff_ne];intro h;exact h0 (List.eq_nil_of_length_eq_zero (by omega)),aT]
  have hne: ¬((q9 b).xs= []\/(q9 b).y1<=(q9 b).y0):=by
   rintro(h | h)
   ·have h:=FG.1 h
    exact h0 (List.map_eq_nil_iff.1 h)
   ·have h:b.to<=b.from_:=h
    omega
  rw [aH hne]
  rcases List.eq_nil_or_concat l with rfl | ⟨A,c,hA⟩
  ·rw [show decide (((([]:List aK).length:Nat):Int)>0)=false by decide,aT,aB,aT]
   exact Ok.app (by simp) (Ok.ret rfl)
  ·rw [List.concat_eq_append] at hA
   subst hA
   have hlen: (A++[c]).length=A.length+1:=by simp
   have hwp:IntKind.wrap .i64 ((((A++[c]).length:Nat):Int) - 1)= ((A.length:Nat):Int):=by rw [zc (by omega) (by omega),hlen];rfl
   have hlast: (A++[c])[A.length]? =some c:=by simp
   rw [hwp,bR (by omega),aQ,gv hlast,aB,aB,BL (by have:=hs c (by simp);omega) hN,aB,aB,cK]
   have hl2: ((A++[c]).map q9).getLast? =some (q9 c):=by simp
   have hd2: ((A++[c]).map q9).dropLast=A.map q9:=by simp
   rw [hl2,hd2]
   dsimp only
   by_cases h1:c.to=b.from_/\c.iK=b.iK
   ·rw [aD (show (q9 c).y1= (q9 b).y0/\(q9 c).xs= (q9 b).xs from ⟨h1.1,by unfold q9;rw [h1.2]⟩),show (c.to==b.from_)=true by rw [h1.1];simp,aQ,bR h1.2,aB,aQ]
    refine Ok.ret ?_
    rw [List.set_append_right _ _ (bK _),Nat.sub_self]
    simp [q9]
   ·rw [aH (show ¬((q9 c).y1= (q9 b).y0/\(q9 c).xs= (q9 b).xs) from fun h=>h1 ⟨h.1,FH.1 h.2⟩)]
    have e2: (bif (c.to==b.from_) then (some (decide (c.iK=b.iK))) else (some false))=some false:=by
     by_cases h2:c.to=b.from_
     ·rw [show (c.to==b.from_)=true by rw [h2];simp,aQ,bY (fun h=>h1 ⟨h2,h⟩)]
     ·rw [show (c.to==b.from_)=false by simpa using h2,aT]
    rw [e2,aB,aT]
    exact Ok.app (by rw [hlen];simp;omega) (Ok.ret (by simp))
theorem G3 {s:List Bd} {b c:Bd} (h:c∈jg s b):c.xs=b.xs\/∃d∈s,c.xs=d.xs:=by
 unfold jg at h
 split at h
 ·exact .inr ⟨c,h,rfl⟩
 ·split at h
  ·rename_i d hd
   split at h
   ·rcases dC.1 h with h | h
    ·exact .inr ⟨c,List.dropLast_subset _ h,rfl⟩
    ·simp at h
     exact .inr ⟨d,List.mem_of_getLast? hd,by rw [h]⟩
   ·rcases dC.1 h with h | h
    ·exact .inr ⟨c,h,rfl⟩
    ·simp at h;exact .inl (by rw [h])
  ·simp at h;exact .inl (by rw [h])
theorem pI {f:Int->List Int} {B:Nat} (hf: ∀y,(f y).length<=B): ∀(ss:List (Int×Int)) (out:List Bd),(∀c∈out,c.xs.length<=B)->(∀c∈lS f ss out,c.xs.length<=B)/\(lS f ss out).length<=out.length+ss.length
 | [],out,h=>⟨h,by simp [lS]⟩
 | s::ss,out,h=>by
  obtain⟨h1,h2⟩:=pI hf ss (jg out ⟨s.1,s.2,f s.1⟩) (fun c hc=>by
   rcases G3 hc with h3 | ⟨d,hd,h3⟩
   ·rw [h3];exact hf _
   ·rw [h3];exact h d hd)
  refine⟨h1,?_⟩
  have:=Fq out ⟨s.1,s.2,f s.1⟩
  show (lS f ss (jg out ⟨s.1,s.2,f s.1⟩)).length<=_
  rw [fI];omega
theorem mx: ∀(ys:List Int),(jR ys).length=ys.length - 1
 | []=>rfl
 | [_]=>rfl
 | a::b::l=>by
  show (jR (b::l)).length+1=_
  rw [mx (b::l)];simp
theorem zH: ∀(ys:List Int) (k:Nat) (h:k+1<ys.length),(jR ys)[k]? =some (ys[k],ys[k+1])
 | [],k,h=>by simp at h
 | [_],k,h=>by simp at h
 | a::b::l,0,h=>rfl
 | a::b::l,k+1,h=>by
  have:=zH (b::l) k (by simp at h ⊢;omega)
  show (jR (b::l))[k]? =_
  rw [this];rfl
theorem C3 (f:Int->List Int) (ss:List (Int×Int)) (s:Int×Int) (out:List Bd):lS f (ss++[s]) out=jg (lS f ss out) ⟨s.1,s.2,f s.1⟩:=by unfold lS;rw [List.foldl_append];rfl
theorem zI {ys:List Int} (hy:jw ys) {f:Int->List Int} {B:Nat} (hf: ∀y,(f y).length<=B) (hB:B<=1099511627776) (hys:ys.length<=1073741824) {out:List aK} {k:Nat} (h1:1<=k) (hk:k<ys.length)
  (hI:out.map q9=lS f ((jR ys).take (k - 1)) []) {r:List aF} (hr:cY (r.map sp)=f (ys[k - 1]'(by omega))) (hN:4398046511104<=N):
  Ok (fO N out ⟨ys[k - 1]'(by omega),ys[k],r⟩) (fun o=>o.map q9=lS f ((jR ys).take k) []):=by
 have hlt:ys[k - 1]'(by omega)<ys[k]:=mz.1 hy (k - 1) k (by omega) hk (by omega)
 obtain⟨s1,s2⟩:=pI hf ((jR ys).take (k - 1)) [] (fun c hc=>by cases hc)
 have hol:out.length<=ys.length:=by
  have: (out.map q9).length<=ys.length:=by
   rw [hI]
   have h3:=mx ys
   rw [cM] at s2
   simp only [List.length_nil] at s2;omega
  rwa [dS] at this
 refine(DU hlt (by omega) (fun c hc=>?_) hN).mono fun o ho=>?_
 ·have h3: (q9 c).xs.length<=B:=s1 _ (by rw [<-hI];exact dD.2 ⟨c,hc,rfl⟩)
  have h4: (q9 c).xs.length=2*c.iK.length:=by unfold q9;rw [jE,dS]
  omega
 ·have hg:=zH ys (k - 1) (by omega)
  have hts: (jR ys).take k= (jR ys).take (k - 1)++[(ys[k - 1]'(by omega),ys[k])]:=by
   have hl:k - 1< (jR ys).length:=by rw [mx];omega
   have e:=eD hl
   rw [show k - 1+1=k by omega] at e
   rw [e]
   congr 1
   rw [aO hl] at hg
   injection hg with hg
   rw [hg];simp only [show k - 1+1=k by omega]
  rw [ho,hI,hts,C3]
  congr 1
  unfold q9
  simp only [hr]
def pd (b:aK):List aG:=b.iK.map fun s=>⟨s.from_,b.from_,s.to,b.to⟩
def lz (l:List aK):List aG:=l.flatMap pd
theorem C4: ∀(l:List (Int×Int)),ze (cY l)=l
 | []=>rfl
 | s::l=>by rw [iX];show (s.1,s.2)::ze (cY l)=_;rw [C4 l]
theorem xL: ∀{l:List aK} {s:List aA},l.map q9=s.map bS->lz l=aM s
 | [],[],_=>rfl
 | [],_::_,h=>by cases h
 | _::_,[],h=>by cases h
 | b::l,c::s,h=>by
  rw [dO,dO] at h
  injection h with h1 h2
  have e:=xL h2
  show pd b++lz l=mn c++aM s
  rw [e]
  congr 1
  unfold q9 bS at h1
  injection h1 with g1 g2 g3
  unfold pd mn
  rw [<-g3,C4,g1,g2,List.map_map]
  rfl
theorem C5 (l:List aK) (b:aK):lz (l++[b])=lz l++pd b:=by unfold lz;rw [List.flatMap_append];simp
theorem ES {l:List aK} (hl:l.length<=1099511627776) (hs: ∀b∈l,b.iK.length<=1099511627776) (hr: (lz l).length<=1099511627776) (hN:4398046511104<=N):iU N l=some (lz l):=by
 refine Ok.get ?_
 unfold iU
 refine Ok.bind (Ok.sI (n:=l.length) (fun s=>s.2) (fun k s=>s.1=lz (l.take k)) (Go:=fun s=>s.1=lz l) (Rt:=fun _=>False) ?_ ?_ (fS _) rfl rfl (by omega)) ?_
 ·rintro k ⟨out,i⟩ hk e hI
  dsimp only at e hI ⊢
  subst e;subst hI
  rw [n8 hk,aQ]
  have hx:l[k]? =some l[k]:=aO hk
  have hsl:=hs _ (cR hk)
  have hts:lz (l.take (k+1))=lz (l.take k)++pd l[k]:=by rw [eD hk,C5]
  have hlen: (lz (l.take k)).length+l[k].iK.length<=(lz l).length:=by
   have h1: (lz l).length= (lz (l.take (k+1))).length+ (lz (l.drop (k+1))).length:=by
    rw [<-cT];unfold lz;rw [<-List.flatMap_append,List.take_append_drop]
   have h2: (pd l[k]).length=l[k].iK.length:=by unfold pd;rw [dS]
   rw [hts,cT,h2] at h1;omega
  refine Ok.bind (Ok.sI (n:=l[k].iK.length) (fun s=>s.2) (fun j s=>s.1=lz (l.take k)++(pd l[k]).take j) (Go:=fun s=>s.1=lz (l.take (k+1))) (Rt:=fun _=>False) ?_ ?_ (fS _) rfl (by simp) (by omega)) ?_
  ·rintro j ⟨o2,i2⟩ hj e hI
   dsimp only at e hI ⊢
   subst e;subst hI
   have hy:l[k].iK[j]? =some l[k].iK[j]:=aO hj
   have hjr:j< (pd l[k]).length:=by unfold pd;rw [dS];exact hj
   refine Ok.ix hx ?_
   rw [n8 hj,aQ]
   refine Ok.ix hx (Ok.ix hy (Ok.ix hx (Ok.ix hx (Ok.ix hy (Ok.ix hx (Ok.app ?_ (Ok.nx ⟨cD (by omega),?_⟩)))))))
   ·rw [cT,cM];simp only [fI,List.length_nil];omega
   ·dsimp only
    rw [k7]
    congr 1
    rw [eD hjr]
    congr 1
    simp [pd]
  ·rintro⟨o2,i2⟩ e hI
   dsimp only at e hI ⊢
   subst e;subst hI
   refine Ok.ix hx ?_
   rw [q8,aT]
   refine Ok.br ?_
   dsimp only
   rw [hts]
   congr 1
   exact k8 (by unfold pd;rw [dS];omega)
  intro o ho
  exact Ok.cs ho (fun s hs=>Ok.nx ⟨cD (by omega),hs⟩) (fun r hr=>hr.elim)
 ·rintro⟨out,i⟩ e hI
  dsimp only at e hI ⊢
  subst e
  rw [q8,aT]
  exact Ok.br (by rw [fJ] at hI;exact hI)
 intro o ho
 exact Ok.cs ho (fun s hs=>Ok.ret hs) (fun r hr=>hr.elim)
theorem xM {l:List aG} {ys:List Int} (hm: ∀r∈l,r.Y0∈ys/\r.Y1∈ys) {s:Int×Int} {y:Int} (hs:s∈jR ys) (hy:jw ys) (h1:s.1<=y) (h2:y<s.2):ku l y=ku l s.1:=DS fun r hr=>by
 obtain⟨m1,m2⟩:=hm r hr
 obtain⟨_,_,_,h⟩:=pN hy s hs
 rcases h _ m1 with h3 | h3 <;> rcases h _ m2 with h4 | h4 <;> constructor <;> intro h5 <;> omega
theorem BM {l:List aG} {ys:List Int} (hm: ∀r∈l,r.Y0∈ys/\r.Y1∈ys) {y:Int} (h: (∀c∈ys,y<c)\/(∀c∈ys,c<=y)):ku l y= []:=G2 fun r hr hc=>by
 obtain⟨m1,m2⟩:=hm r hr
 rcases h with h | h
 ·have:=h _ m1;omega
 ·have:=h _ m2;omega
theorem BN {l:List aG}: ∀r∈l,r.Y0∈j3 (iJ l)/\r.Y1∈j3 (iJ l):=fun r hr=>⟨xK.2 (jS.2 ⟨r,hr, .inl rfl⟩),xK.2 (jS.2 ⟨r,hr, .inr rfl⟩)⟩
theorem G4 (l:List aG): (j3 (iJ l)).length<=2*l.length:=by
 have:=rR (iJ l)
 rwa [gK] at this
theorem sR {l:List aG} {s:List aA} (hc:eI (s.map bS)) (hcov: ∀x y,tu (s.map bS) x y=tX l x y) (hl:l.length<=10000000) (hok: ∀r∈l,r.X0<r.X1) (hr: (aM s).length<=1099511627776) (hN:4398046511104<=N):
  eP N l=some (aM s):=by
 refine Ok.get ?_
 unfold eP
 refine Ok.eq (zF (by omega) hN) ?_
 have hyl:=G4 l
 have hyi:=mM (iJ l)
 have hf: ∀y,jw (cY (ku l y))/\(cY (ku l y)).length % 2=0:=fun y=>⟨(uI hok y).1,by rw [jE];omega⟩
 have hfl: ∀y,(cY (ku l y)).length<=20000000:=fun y=>by rw [jE];have:=rS l y;omega
 obtain⟨b1,b2⟩:=xY (f:=fun y=>cY (ku l y)) hf hyi (fun t ht y h1 h2=>by (try dsimp only);rw [xM BN ht hyi h1 h2]) (fun y h=>by (try dsimp only);rw [BM BN h];rfl)
 have hsame:lS (fun y=>cY (ku l y)) (jR (j3 (iJ l))) []=s.map bS:=sJ b1 hc fun x y=>by
  rw [hcov];unfold tu;rw [b2,rK (hf y).1,(uI hok y).2]
 have hmy:= @BN l
 generalize j3 (iJ l)=ys at *
 refine Ok.bind (Ok.sI (n:=max 1 ys.length) (fun s=>s.2) (fun k st=>1<=k/\st.1.map q9=lS (fun y=>cY (ku l y)) ((jR ys).take (k - 1)) []) (Go:=fun st=>st.1.map q9=s.map bS) (Rt:=fun _=>False) ?_ ?_ (k0:=1) (by omega) rfl ⟨bK _,rfl⟩ (by omega)) ?_
 ·rintro k ⟨out,i⟩ hk e ⟨hk1,hI⟩
  dsimp only at e hI ⊢
  subst e
  have hk2:k<ys.length:=by omega
  rw [n8 hk2,aQ,jC hk1 (by omega)]
  refine Ok.idx (by omega) (Ok.idx hk2 (Ok.idx (by omega) (Ok.bind (DT (by omega) hN) fun r hr=>Ok.bind (zI hyi (f:=fun y=>cY (ku l y)) hfl (by omega) (by omega) hk1 hk2 hI (by (try dsimp only);rw [hr]) hN) fun o ho=>Ok.nx ⟨cD (by omega),by omega,?_⟩)))
  rw [Nat.add_sub_cancel];exact ho
 ·rintro⟨out,i⟩ e ⟨hk1,hI⟩
  dsimp only at e hI ⊢
  subst e
  rw [x8 (by omega),aT]
  refine Ok.br ?_
  rw [k8 (by rw [mx];omega),hsame] at hI
  exact hI
 intro o ho
 refine Ok.cs ho (fun st hs=>?_) (fun r hr=>hr.elim)
 have e:=xL hs
 obtain⟨s1,s2⟩:=pI (f:=fun y=>cY (ku l y)) hfl (jR ys) [] (fun c hc=>by cases hc)
 refine Ok.eq (ES (l:=st.1) ?_ ?_ (by rw [e];exact hr) hN) (Ok.ret e)
 ·have: (st.1.map q9).length<=ys.length:=by rw [hs,<-hsame];have:=mx ys;simp only [List.length_nil] at s2;omega
  rw [dS] at this;omega
 ·intro b hb
  have h3:=s1 (q9 b) (by rw [hsame,<-hs];exact dD.2 ⟨b,hb,rfl⟩)
  have h4: (q9 b).xs.length=2*b.iK.length:=by unfold q9;rw [jE,dS]
  omega
def oV (w:Int) (p q:Bool):Bool:=((((w==1)&&(p||q))||(((w==2)&&p)&&q))||(((w==3)&&p)&&(!q)))
theorem G5 (w:Int):oV w false false=false:=by unfold oV;simp
theorem yb (fE:Bool->Bool->Bool) (a b ss:List (Int×Int)) (s:Int×Int) (out:List (Int×Int)):lR fE a b (ss++[s]) out=if fE (iW a s.1) (iW b s.1)=true then lv (lR fE a b ss out) s else lR fE a b ss out:=by unfold lR;rw [List.foldl_append];rfl
theorem vQ (fE:Bool->Bool->Bool) (a b:List (Int×Int)): ∀(ss out:List (Int×Int)),(lR fE a b ss out).length<=out.length+ss.length
 | [],out=>by simp [lR]
 | s::ss,out=>by
  have h1:=vQ fE a b ss (if fE (iW a s.1) (iW b s.1)=true then lv out s else out)
  have h2: (if fE (iW a s.1) (iW b s.1)=true then lv out s else out).length<=out.length+1:=by
   split
   ·exact x9 _ _
   ·omega
  show (lR fE a b ss (if fE (iW a s.1) (iW b s.1)=true then lv out s else out)).length<=_
  rw [fI];omega
def yc (a b:List (Int×Int)):List Int:=j3 (cY a++cY b)
theorem AK (a b:List (Int×Int)): (yc a b).length<=2*a.length+2*b.length:=by
 have:=rR (cY a++cY b)
 rw [cT,jE,jE] at this
 exact this
theorem G6 {a b:List aF} {w:Int} (ha:a.length<=10000000) (hb:b.length<=10000000) (hN:4398046511104<=N):
  Ok (jr N a b w) (fun r=>r.map sp=lR (oV w) (a.map sp) (b.map sp) (jR (yc (a.map sp) (b.map sp))) []):=by
 unfold jr
 have hfl: ∀(l:List aF),(j3 (cY (l.map sp))).length<=2*l.length:=fun l=>by
  have:=rR (cY (l.map sp))
  rwa [jE,dS] at this
 refine Ok.bind (Ok.sI (n:=a.length) (fun s=>s.2) (fun k s=>s.1=j3 (cY ((a.take k).map sp))) (Go:=fun s=>s.1=j3 (cY (a.map sp))) (Rt:=fun _=>False) ?_ ?_ (fS _) rfl rfl (by omega)) ?_
 ·rintro k ⟨out,i⟩ hk e hI
  dsimp only at e hI ⊢
  subst e;subst hI
  rw [n8 hk,aQ]
  have hx:a[k]? =some a[k]:=aO hk
  have h1:=hfl (a.take k)
  rw [cM] at h1
  have h2:=w6 (j3 (cY ((a.take k).map sp))) a[k].from_
  refine Ok.ix hx (Ok.ix hx (Ok.eq (uH (mM _) (by omega) hN) (Ok.eq (uH (w7 (mM _)) (by omega) hN) (Ok.nx ⟨cD (by omega),?_⟩))))
  rw [eD hk,eE,sK]
  exact(ud _ _ _).symm
 ·rintro⟨out,i⟩ e hI
  dsimp only at e hI ⊢
  subst e
  rw [q8,aT]
  exact Ok.br (by rw [fJ] at hI;exact hI)
 intro o ho
 refine Ok.cs ho ?_ (fun r hr=>hr.elim)
 rintro⟨xa,ia⟩ hxa
 dsimp only at hxa ⊢
 subst hxa
 refine Ok.bind (Ok.sI (n:=b.length) (fun s=>s.2) (fun k s=>s.1=j3 (cY (a.map sp)++cY ((b.take k).map sp))) (Go:=fun s=>s.1=yc (a.map sp) (b.map sp)) (Rt:=fun _=>False) ?_ ?_ (fS _) rfl (by simp [cY]) (by omega)) ?_
 ·rintro k ⟨out,i⟩ hk e hI
  dsimp only at e hI ⊢
  subst e;subst hI
  rw [n8 hk,aQ]
  have hx:b[k]? =some b[k]:=aO hk
  have h1:=rR (cY (a.map sp)++cY ((b.take k).map sp))
  rw [cT,jE,jE,dS,dS,cM] at h1
  have h2:=w6 (j3 (cY (a.map sp)++cY ((b.take k).map sp))) b[k].from_
  refine Ok.ix hx (Ok.ix hx (Ok.eq (uH (mM _) (by omega) hN) (Ok.eq (uH (w7 (mM _)) (by omega) hN) (Ok.nx ⟨cD (by omega),?_⟩))))
  rw [eD hk,eE,sK,<-k7]
  exact(ud _ _ _).symm
 ·rintro⟨out,i⟩ e hI
  dsimp only at e hI ⊢
  subst e
  rw [q8,aT]
  exact Ok.br (by rw [fJ] at hI;exact hI)
 intro o ho
 refine Ok.cs ho ?_ (fun r hr=>hr.elim)
 rintro⟨xs,ix⟩ hxs
 dsimp only at hxs ⊢
 have hxl:=AK (a.map sp) (b.map sp)
 rw [<-hxs,dS,dS] at hxl
 rw [<-hxs]
 clear hxs
 refine Ok.bind (Ok.sI (n:=max 1 xs.length) (fun s=>s.2) (fun k st=>1<=k/\st.1.map sp=lR (oV w) (a.map sp) (b.map sp) ((jR xs).take (k - 1)) []) (Go:=fun st=>st.1.map sp=lR (oV w) (a.map sp) (b.map sp) (jR xs) []) (Rt:=fun _=>False) ?_ ?_ (k0:=1) (by omega) rfl ⟨bK _,rfl⟩ (by omega)) ?_
 ·rintro k ⟨out,i⟩ hk e ⟨hk1,hI⟩
  dsimp only at e hI ⊢
  subst e
  have hk2:k<xs.length:=by omega
  rw [n8 hk2,aQ,jC hk1 (by omega)]
  have hx:xs[k - 1]? =some (xs[k - 1]'(by omega)):=aO _
  have hy:xs[k]? =some xs[k]:=aO hk2
  have hg:=zH xs (k - 1) (by omega)
  have hts: (jR xs).take k= (jR xs).take (k - 1)++[(xs[k - 1]'(by omega),xs[k])]:=by
   have hl:k - 1< (jR xs).length:=by rw [mx];omega
   have e:=eD hl
   rw [show k - 1+1=k by omega] at e
   rw [e]
   congr 1
   rw [aO hl] at hg
   injection hg with hg
   rw [hg];simp only [show k - 1+1=k by omega]
  have hol:out.length<=xs.length:=by
   have h1:=vQ (oV w) (a.map sp) (b.map sp) ((jR xs).take (k - 1)) []
   rw [<-hI,dS,cM,mx] at h1
   simp only [List.length_nil] at h1;omega
  refine Ok.ix hx (Ok.ix hx (Ok.eq (AJ (by omega) hN) (Ok.eq (AJ (by omega) hN) ?_)))
  refine Ok.bind (P:=fun r:List aF=>r.map sp=lR (oV w) (a.map sp) (b.map sp) ((jR xs).take k) []) (Ok.bif (fun hb=>?_) (fun hb=>?_)) (fun r hr=>Ok.nx ⟨cD (by omega),by omega,by rw [Nat.add_sub_cancel];exact hr⟩)
  ·refine Ok.ix hx (Ok.ix hy (Ok.bind (AH (by omega) hN) (fun r hr=>Ok.ret ?_)))
   rw [hr,hI,hts,yb,aD (show oV w _ _=true from hb)];rfl
  ·refine Ok.ret ?_
   rw [hI,hts,yb,aH (show ¬oV w _ _=true by rw [nc];exact hb)]
 ·rintro⟨out,i⟩ e ⟨hk1,hI⟩
  dsimp only at e hI ⊢
  subst e
  rw [x8 (by omega),aT]
  refine Ok.br ?_
  rw [k8 (by rw [mx];omega)] at hI
  exact hI
 intro o ho
 exact Ok.cs ho (fun s hs=>Ok.ret hs) (fun r hr=>hr.elim)
def ny (w:Int) (a b:List aG) (y:Int):List (Int×Int):=lR (oV w) (ku a y) (ku b y) (jR (yc (ku a y) (ku b y))) []
theorem C6 (a b:List (Int×Int)):Ends a (yc a b)/\Ends b (yc a b):=by
 constructor <;> intro s hs <;> constructor <;> refine xK.2 (dC.2 ?_)
 ·exact .inl (List.mem_flatMap.2 ⟨s,hs,by simp⟩)
 ·exact .inl (List.mem_flatMap.2 ⟨s,hs,by simp⟩)
 ·exact .inr (List.mem_flatMap.2 ⟨s,hs,by simp⟩)
 ·exact .inr (List.mem_flatMap.2 ⟨s,hs,by simp⟩)
theorem yd {a b:List aG} (ha: ∀r∈a,r.X0<r.X1) (hb: ∀r∈b,r.X0<r.X1) (w y:Int):jw (cY (ny w a b y))/\∀x,iW (ny w a b y) x=oV w (tX a x y) (tX b x y):=by
 obtain⟨h1,h2⟩:=CH (fE:=oV w) (G5 w) (a:=ku a y) (b:=ku b y) (xs:=yc (ku a y) (ku b y)) (mM _) (C6 _ _).1 (C6 _ _).2
 exact⟨h1,fun x=>by rw [show iW (ny w a b y) x=_ from h2 x,(uI ha y).2,(uI hb y).2]⟩
theorem DV (w:Int) (a b:List aG) (y:Int): (ny w a b y).length<=2*a.length+2*b.length:=by
 have h1:=vQ (oV w) (ku a y) (ku b y) (jR (yc (ku a y) (ku b y))) []
 have h2:=AK (ku a y) (ku b y)
 have h3:=rS a y
 have h4:=rS b y
 rw [mx] at h1
 unfold ny
 simp only [List.length_nil] at h1;omega
theorem ye {a b:List aG} {w:Int} {s:List aA} (hc:eI (s.map bS)) (hcov: ∀x y,tu (s.map bS) x y=oV w (tX a x y) (tX b x y)) (hla:a.length<=10000000) (hlb:b.length<=10000000)
  (ha: ∀r∈a,r.X0<r.X1) (hb: ∀r∈b,r.X0<r.X1) (hr: (aM s).length<=1099511627776) (hN:4398046511104<=N):eC N a b w=some (aM s):=by
 refine Ok.get ?_
 unfold eC
 refine Ok.app (by simp only [List.length_nil];omega) (Ok.app (by rw [List.nil_append];omega) ?_)
 rw [List.nil_append]
 refine Ok.eq (zF (by rw [cT];omega) hN) ?_
 have hyl:=G4 (a++b)
 rw [cT] at hyl
 have hyi:=mM (iJ (a++b))
 have hmy:= @BN (a++b)
 have hma: ∀r∈a,r.Y0∈j3 (iJ (a++b))/\r.Y1∈j3 (iJ (a++b)):=fun r hr=>hmy r (List.mem_append_left _ hr)
 have hmb: ∀r∈b,r.Y0∈j3 (iJ (a++b))/\r.Y1∈j3 (iJ (a++b)):=fun r hr=>hmy r (List.mem_append_right _ hr)
 have hf: ∀y,jw (cY (ny w a b y))/\(cY (ny w a b y)).length % 2=0:=fun y=>⟨(yd ha hb w y).1,by rw [jE];omega⟩
 have hfl: ∀y,(cY (ny w a b y)).length<=80000000:=fun y=>by rw [jE];have:=DV w a b y;omega
 obtain⟨b1,b2⟩:=xY (f:=fun y=>cY (ny w a b y)) hf hyi (fun t ht y h1 h2=>by (try dsimp only);unfold ny;rw [xM hma ht hyi h1 h2,xM hmb ht hyi h1 h2]) (fun y h=>by
  (try dsimp only);unfold ny;rw [BM hma h,BM hmb h];rfl)
 have hsame:lS (fun y=>cY (ny w a b y)) (jR (j3 (iJ (a++b)))) []=s.map bS:=sJ b1 hc fun x y=>by
  rw [hcov];unfold tu;rw [b2,rK (hf y).1,(yd ha hb w y).2]
 clear hmy hma hmb
 generalize j3 (iJ (a++b))=ys at *
 refine Ok.bind (Ok.sI (n:=max 1 ys.length) (fun s=>s.2) (fun k st=>1<=k/\st.1.map q9=lS (fun y=>cY (ny w a b y)) ((jR ys).take (k - 1)) []) (Go:=fun st=>st.1.map q9=s.map bS) (Rt:=fun _=>False) ?_ ?_ (k0:=1) (by omega) rfl ⟨bK _,rfl⟩ (by omega)) ?_
 ·rintro k ⟨out,i⟩ hk e ⟨hk1,hI⟩
  dsimp only at e hI ⊢
  subst e
  have hk2:k<ys.length:=by omega
  rw [n8 hk2,aQ,jC hk1 (by omega)]
  refine Ok.idx (by omega) (Ok.idx hk2 (Ok.idx (by omega) (Ok.idx (by omega) (Ok.bind (DT (by omega) hN) fun r1 hr1=>Ok.bind (DT (by omega) hN) fun r2 hr2=>?_))))
  have l1:r1.length<=10000000:=by have:=rS a (ys[k - 1]'(by omega));rw [<-hr1,dS] at this;omega
  have l2:r2.length<=10000000:=by have:=rS b (ys[k - 1]'(by omega));rw [<-hr2,dS] at this;omega
  refine Ok.bind (G6 l1 l2 hN) fun r hr=>Ok.bind (zI hyi (f:=fun y=>cY (ny w a b y)) hfl (by omega) (by omega) hk1 hk2 hI (by (try dsimp only);rw [hr,hr1,hr2];rfl) hN) fun o ho=>Ok.nx ⟨cD (by omega),by omega,?_⟩
  rw [Nat.add_sub_cancel];exact ho
 ·rintro⟨out,i⟩ e ⟨hk1,hI⟩
  dsimp only at e hI ⊢
  subst e
  rw [x8 (by omega),aT]
  refine Ok.br ?_
  rw [k8 (by rw [mx];omega),hsame] at hI
  exact hI
 intro o ho
 refine Ok.cs ho (fun st hs=>?_) (fun r hr=>hr.elim)
 have e:=xL hs
 obtain⟨s1,s2⟩:=pI (f:=fun y=>cY (ny w a b y)) hfl (jR ys) [] (fun c hc=>by cases hc)
 refine Ok.eq (ES (l:=st.1) ?_ ?_ (by rw [e];exact hr) hN) (Ok.ret e)
 ·have: (st.1.map q9).length<=ys.length:=by rw [hs,<-hsame];have:=mx ys;simp only [List.length_nil] at s2;omega
  rw [dS] at this;omega
 ·intro b hb
  have h3:=s1 (q9 b) (by rw [hsame,<-hs];exact dD.2 ⟨b,hb,rfl⟩)
  have h4: (q9 b).xs.length=2*b.iK.length:=by unfold q9;rw [jE,dS]
  omega
theorem BO (n:Int):cJ N n=some (kZ n):=rfl
theorem zJ {l:List aG} (hl:l.length<=1099511627776) (hN:4398046511104<=N):gI N l=some (kV l):=by
 refine Ok.get ?_
 unfold gI kV
 by_cases h:2000<l.length
 ·rw [bR (by omega),aQ,aD h];exact Ok.ret rfl
 ·rw [bY (by omega),aT,aH h]
  refine Ok.bind (Ok.sI (n:=l.length) (fun s=>s) (fun k s=>∀(j:Nat) x,j<k->l[j]? =some x->km x=none) (Go:=fun s=>l.findSome? km=none) (Rt:=fun r=>l.findSome? km=some r) ?_ ?_ (fS _) rfl (fun j x hj=>by omega) (by omega)) ?_
  ·rintro k i hk e hI
   subst e
   rw [n8 hk,aQ]
   have hx:l[k]? =some l[k]:=aO hk
   have hrt: ∀c,km l[k]=some c->l.findSome? km=some c:=fun c hc=>by
    rw [List.findSome?_eq_some_iff]
    refine⟨l.take k,l[k],l.drop (k+1),?_,hc,fun x hx'=>?_⟩
    ·rw [List.getElem_cons_drop,List.take_append_drop]
    ·obtain⟨j,hj⟩:=eR hx'
     have hjk:j<k:=by have:=(bC.1 hj).1;rw [cM] at this;omega
     exact hI j x hjk (by rw [List.getElem?_take_of_lt hjk] at hj;exact hj)
   refine Ok.ix hx ?_
   have hb: ((cJ N l[k].X0).bind fun x110=>bif (!x110) then (some true) else ((cJ N l[k].Y0).bind fun x112=>bif (!x112) then (some true) else ((cJ N l[k].X1).bind fun x114=>bif (!x114) then (some true) else ((cJ N l[k].Y1).bind fun x116=>some (!x116)))))=some (!fD l[k]):=by
    rw [BO,BO,BO,BO]
    unfold fD
    simp only [aB]
    cases kZ l[k].X0 <;> cases kZ l[k].Y0 <;> cases kZ l[k].X1 <;> rfl
   refine Ok.eq hb (Ok.bif (fun h1=>Ok.rt (hrt 1 ?_)) (fun h1=>Ok.bif (fun h2=>Ok.rt (hrt 13 ?_)) (fun h2=>Ok.nx ⟨cD (by omega),fun j x hj hjx=>?_⟩)))
   ·unfold km;rw [aH (by rw [nc];simpa using h1)]
   ·unfold km
    rw [aD (by simpa using h1),aD (by rw [dI,bU,bU] at h2;exact h2)]
   ·by_cases e:j=k
    ·subst e;rw [hx] at hjx;injection hjx with hjx;rw [<-hjx]
     unfold km
     rw [aD (by simpa using h1),aH (by rw [<-nc,dI,bU,bU] at h2;exact h2)]
    ·exact hI j x (by omega) hjx
  ·rintro i e hI
   subst e
   rw [q8,aT]
   refine Ok.br ?_
   rw [List.findSome?_eq_none_iff]
   intro x hx
   obtain⟨j,hj⟩:=eR hx
   exact hI j x (bC.1 hj).1 hj
  intro o ho
  exact Ok.cs ho (fun s hs=>Ok.ret (by rw [hs];rfl)) (fun r hr=>Ok.ret (by rw [hr];rfl))
theorem DW {l:List aG} {s:List aA} (hs:rN l s):zw l↔aM s=l:=⟨fun⟨t,h1,h2⟩=>by rw [hs.unique h1];exact h2,fun h=>⟨s,hs,h⟩⟩
theorem pf {l:List aG} (hl:l.length<=1073741824) (hN:4398046511104<=N):eA N l=some (je l):=by
 refine Ok.get ?_
 unfold eA
 refine Ok.eq (zJ (by omega) hN) ?_
 unfold je
 refine Ok.bif (fun h=>Ok.ret ?_) (fun h=>?_)
 ·rw [aD (by simpa using h)]
 ·have h0:kV l=0:=by simpa using h
  rw [aH (by simpa using h0)]
  obtain⟨hlen,hok⟩:=zx h0
  have hbf: ∀a b:aG,(((decide (a.Y0<b.Y0))||((a.Y0==b.Y0)&&(decide (a.X0<b.X0))))=true)↔¬(b.Y0<a.Y0\/(b.Y0=a.Y0/\b.X0<=a.X0)):=fun a b=>by
   rw [dI,bV,bU,bU,beq_iff_eq];omega
  refine Ok.bind (Ok.kD (Go:=fun _=>I9 l) (Rt:=fun r=>r=8/\¬I9 l) (fun s=>∃k:Nat,s= ((k:Nat):Int)/\1<=k/\∀(j:Nat) a b,j+1<k->l[j]? =some a->l[j+1]? =some b->¬(b.Y0<a.Y0\/(b.Y0=a.Y0/\b.X0<=a.X0))) (fun s=>l.length - s.toNat) ?_ ⟨1,rfl,bK _,fun j a b hj=>by omega⟩ (by simp;omega)) ?_
  ·rintro s ⟨k,rfl,hk,hI⟩
   refine Ok.bif (fun h=>?_) (fun h=>Ok.br fun j a b ha hb=>hI j a b ?_ ha hb)
   ·have hk2:k<l.length:=by have:=of_decide_eq_true h;omega
    rw [jC hk (by omega)]
    have hx:l[k - 1]? =some (l[k - 1]'(by omega)):=aO _
    have hy:l[k]? =some l[k]:=aO hk2
    refine Ok.ix hx (Ok.ix hy ?_)
    unfold gY
    rw [aB]
    refine Ok.bif (fun hb=>Ok.rt ⟨rfl,fun hu=>?_⟩) (fun hb=>Ok.nx ⟨⟨k+1,by rw [cD (by omega)],by omega,fun j a b hj ha hb'=>?_⟩,by rw [cD (by omega)];simp only [cK];omega⟩)
    ·have:=(hbf _ _).2 (hu (k - 1) _ _ hx (by rw [show k - 1+1=k by omega];exact hy))
     rw [this] at hb;cases hb
    ·by_cases e:j+1<k
     ·exact hI j a b e ha hb'
     ·have:j+1=k:=by omega
      have h1:l[k - 1]? =some a:=by rw [show k - 1=j by omega];exact ha
      have h2:l[k]? =some b:=by rw [<-this];exact hb'
      rw [hx] at h1;rw [hy] at h2
      injection h1 with h1;injection h2 with h2
      rw [<-h1,<-h2]
      refine(hbf _ _).1 ?_
      rw [Bool.not_eq_false'] at hb
      exact hb
   ·have:=of_decide_eq_false h
    have:=(bC.1 hb).1;omega
  ·rintro o ho
   refine Ok.cs ho (fun s hu=>?_) (fun r hr=>Ok.ret (by rw [hr.1,aH hr.2]))
   rw [aD hu]
   obtain⟨s,_,hs⟩:=mm (N:=N) (l:=l) (by omega) hok (by omega)
   obtain⟨z1,z2,z3⟩:=hs.CS
   have z4:2*l.length* (2*l.length)<=4000*4000:=Nat.mul_le_mul (by omega) (by omega)
   refine Ok.eq (sR hs.can hs.cover (by omega) (fun r hr=>(hok r hr).x) (by omega) hN) (Ok.eq (BK (by omega) hN) ?_)
   have hiff:=DW hs
   refine Ok.bif (fun h=>Ok.ret ?_) (fun h=>Ok.ret ?_)
   ·have h: ¬l=aM s:=by simpa using h
    rw [aH (fun h'=>h (hiff.1 h').symm)]
   ·have h:l=aM s:=by simpa using h
    rw [aD (hiff.2 h.symm)]
end
end Go.Gk
namespace Go.Gk
open Go Classical
theorem zK (n:Nat) (g:Nat->Nat): ((List.range (n+1)).map g).sum= ((List.range n).map g).sum+g n:=by
 rw [List.range_succ,eE,List.sum_append];simp
def Lb (r:aG) (x y:Int):Bool:=(decide (r.X0<=x)&&decide (x<r.X1))&&(decide (r.Y0<=y)&&decide (y<r.Y1))
def K3 (a b:aG):Prop:=∀x y,¬(Lb a x y=true/\Lb b x y=true)
theorem HU {r:aG} {x y:Int}:Lb r x y=true↔(r.X0<=x/\x<r.X1)/\r.Y0<=y/\y<r.Y1:=by unfold Lb;simp
theorem xd: ∀{xs:List Int},jw xs->(ze xs).Pairwise (fun p q=>p.2<q.1)
 | [],_=>jU
 | [a],_=>jU
 | a::b::l,h=>by
  unfold ze
  rw [nN]
  exact⟨fun q hq=>h.tail.head q.1 (Bw q hq).1,xd h.tail.tail⟩
def qh (a b:aG):Prop:=a.Y1<=b.Y0\/(a.Y0=b.Y0/\a.Y1=b.Y1/\a.X1<b.X0)
theorem qh.apart {a b:aG} (h:qh a b):K3 a b:=fun x y ⟨h1,h2⟩=>by
 rw [HU] at h1 h2
 rcases h with h | h <;> omega
theorem pJ: ∀{s:List aA},eI (s.map bS)->(aM s).Pairwise qh
 | [],_=>jU
 | b::s,h=>by
  rw [mo,my]
  refine⟨?_,pJ h.tail,fun x hx y hy=>?_⟩
  ·unfold mn
   rw [List.pairwise_map]
   exact List.Pairwise.imp (fun hpq=> .inr ⟨rfl,rfl,hpq⟩) (xd (h.each (bS b) (by simp)).2.2.1)
  ·unfold mn at hx
   obtain⟨p,_,rfl⟩:=dD.1 hx
   obtain⟨c,hc,q,_,rfl⟩:=pO hy
   exact .inl (h.y8 (bS c) (dD.2 ⟨c,hc,rfl⟩))
theorem rT {s:List aA} (h:eI (s.map bS)): ∀r∈aM s,r.X0<r.X1/\r.Y0<r.Y1:=fun r hr=>by
 obtain⟨b,hb,p,hp,rfl⟩:=pO hr
 have hc:=h.each (bS b) (dD.2 ⟨b,hb,rfl⟩)
 exact⟨DG hc.2.2.1 p hp,hc.1⟩
theorem C7 {s:List aA} (h:eI (s.map bS)): (aM s).Nodup:=by
 have h1:=pJ h
 have h2:=rT h
 refine List.Pairwise.imp_of_mem (fun{a b} ha hb hab e=>?_) h1
 subst e
 have:=h2 a ha
 rcases hab with h | h <;> omega
def pg (s:List Bd):Nat:=(s.map (fun b=>b.xs.length / 2)).sum
theorem ue (s t:List Bd):pg (s++t)=pg s+pg t:=by unfold pg;rw [eE,List.sum_append]
theorem FI (s:List Bd) (b:Bd):pg (jg s b)<=pg s+b.xs.length / 2:=by
 unfold jg
 split
 ·omega
 ·split
  ·rename_i c hc
   have hsp:=p7 hc
   have e:pg s=pg s.dropLast+c.xs.length / 2:=by
    conv=>lhs;rw [hsp,ue]
    simp [pg]
   split
   ·rw [ue,e];simp [pg]
   ·rw [ue];simp [pg]
  ·simp [pg]
structure MF (t:List Bd):Prop where
 each: ∀b∈t,b.y0<b.y1/\jw b.xs/\b.xs.length % 2=0
 ord:t.Pairwise (fun b c=>b.y1<=c.y0)
theorem fold_push: ∀(t out:List Bd),MF t->eI out->(∀c∈out,∀b∈t,c.y1<=b.y0)->eI (t.foldl jg out)/\pg (t.foldl jg out)<=pg out+pg t/\
  ∀y,rowAt (t.foldl jg out) y=if (∃b∈t,b.y0<=y/\y<b.y1) then rowAt t y else rowAt out y
 | [],out,_,hc,_=>⟨hc,by simp [pg],fun y=>by simp⟩
 | b::t,out,hl,hc,ho=>by
  have hb:=hl.each b (by simp)
  have hord:=nN.1 hl.ord
  have ho1: ∀c∈out,c.y1<=b.y0:=fun c h=>ho c h b (by simp)
  have h1:=uz hc ho1 hb.2.1 hb.2.2
  have htop:=uA ho1 (show b.y0<=b.y1 by omega)
  obtain⟨f1,f2,f3⟩:=fold_push t (jg out b) ⟨fun c hcm=>hl.each c (gN _ hcm),hord.2⟩ h1 (fun c hcm d hd=>by have:=htop c hcm;have:=hord.1 d hd;omega)
  refine⟨f1,?_,fun y=>?_⟩
  ·have:=FI out b
   have e:pg (b::t)=b.xs.length / 2+pg t:=by simp [pg]
   rw [List.foldl_cons,e];omega
  ·rw [List.foldl_cons,f3 y,uy ho1 (fun c hcm=>(hc.each c hcm).1) (fun h=>absurd h (by omega)),mj]
   by_cases hy:b.y0<=y/\y<b.y1
   ·have hn: ¬∃c∈t,c.y0<=y/\y<c.y1:=fun⟨c,hcm,h⟩=>by have:=hord.1 c hcm;omega
    rw [aH hn,aD hy,aD ⟨b,by simp,hy⟩,aD hy]
   ·rw [aH hy]
    by_cases h: ∃c∈t,c.y0<=y/\y<c.y1
    ·obtain⟨c,hcm,h⟩:=h
     rw [aD ⟨c,hcm,h⟩,aD ⟨c,gN _ hcm,h⟩,aH hy]
    ·rw [aH h,aH hy,aH (show ¬∃c∈b::t,c.y0<=y/\y<c.y1 from fun⟨c,hcm,h2⟩=>by
      rcases dH.1 hcm with rfl | hcm
      ·exact hy h2
      ·exact h ⟨c,hcm,h2⟩)]
noncomputable def pr (C:List aG) (b:aA):Bd:=⟨b.Y0,b.Y1,cY ((ze b.Xs).filter (fun p=>decide ((⟨p.1,b.Y0,p.2,b.Y1⟩:aG)∈C)))⟩
theorem FJ {l m:List (Int×Int)} (h:l.Sublist m): (cY l).Sublist (cY m):=by
 induction h with
 | slnil=>exact List.Sublist.refl _
 | cons a _ ih=>rw [iX];exact(ih.cons _).cons _
 | cons_cons a _ ih=>rw [iX,iX];exact(ih.cons_cons _).cons_cons _
theorem zL (l:List (Int×Int)): (cY l).length % 2=0/\(cY l).length / 2=l.length:=by rw [jE];omega
theorem AL {s p:List aA} {C:List aG} (hs:eI (s.map bS)) (hp:eI (p.map bS)) (hC: ∀r∈C,r∈aM s) (hcov: ∀x y,tu (p.map bS) x y=tX C x y): (aM p).length<=C.length:=by
 have hinc: ∀b∈s,jw (pr C b).xs:=fun b hb=>by
  have h1:=EK hs b hb
  have h2:=FJ (List.filter_sublist (l:=ze b.Xs) (p:=fun p=>decide ((⟨p.1,b.Y0,p.2,b.Y1⟩:aG)∈C)))
  rw [wN (qc hs b hb)] at h2
  exact List.Pairwise.sublist h2 h1
 have hlow:MF (s.map (pr C)):=by
  refine⟨fun b hb=>?_,?_⟩
  ·obtain⟨c,hc,rfl⟩:=dD.1 hb
   exact⟨(hs.each (bS c) (dD.2 ⟨c,hc,rfl⟩)).1,hinc c hc,(zL _).1⟩
  ·have:=hs.ord
   rw [List.pairwise_map] at this ⊢
   exact List.Pairwise.imp (fun h=>h.1) this
 obtain⟨f1,f2,f3⟩:=fold_push (s.map (pr C)) [] hlow eI.nil (fun c hc=>by cases hc)
 have hrow: ∀{t:List aA},(∀b∈t,b∈s)->∀x y,oq (rowAt (t.map (pr C)) y) x=true->tX C x y=true:=by
  intro t ht x y h
  induction t with
  | nil=>cases h
  | cons b t ih=>
   rw [dO,mj] at h
   split at h
   ·rename_i hy
    have hbm:=ht b (by simp)
    have h1:=hinc b hbm
    have h:oq (cY ((ze b.Xs).filter (fun p=>decide ((⟨p.1,b.Y0,p.2,b.Y1⟩:aG)∈C)))) x=true:=h
    rw [rK h1,rJ] at h
    obtain⟨q,hq,h2⟩:=h
    have hq:=k6.1 hq
    exact iZ.2 ⟨_,of_decide_eq_true hq.2,h2,hy⟩
   ·exact ih (fun c hc=>ht c (gN _ hc)) h
 have hrow2: ∀x y,tX C x y=true->oq (rowAt (s.map (pr C)) y) x=true:=by
  intro x y h
  obtain⟨r,hr,h1,h2⟩:=iZ.1 h
  obtain⟨b,hb,q,hq,rfl⟩:=pO (hC r hr)
  dsimp only at h1 h2
  have key: ∀{t:List aA},(∀c∈t,c∈s)->eI (t.map bS)->b∈t->rowAt (t.map (pr C)) y= (pr C b).xs:=by
   intro t ht hc hbt
   induction t with
   | nil=>cases hbt
   | cons c t ih=>
    rw [dO,mj]
    by_cases hy:c.Y0<=y/\y<c.Y1
    ·rw [aD (show (pr C c).y0<=y/\y< (pr C c).y1 from hy)]
     rcases dH.1 hbt with rfl | hbt
     ·rfl
     ·have:=hc.y8 (bS b) (dD.2 ⟨b,hbt,rfl⟩)
      have e1: (bS c).y1=c.Y1:=rfl
      have e2: (bS b).y0=b.Y0:=rfl
      omega
    ·rw [aH (show ¬((pr C c).y0<=y/\y< (pr C c).y1) from hy)]
     rcases dH.1 hbt with rfl | hbt
     ·exact absurd h2 hy
     ·exact ih (fun d hd=>ht d (gN _ hd)) hc.tail hbt
  rw [key (fun c hc=>hc) hs hb]
  have h1':=hinc b hb
  show oq (cY ((ze b.Xs).filter (fun p=>decide ((⟨p.1,b.Y0,p.2,b.Y1⟩:aG)∈C)))) x=true
  rw [rK h1',rJ]
  exact⟨q,k6.2 ⟨hq,bR hr⟩,h1⟩
 have hsame:p.map bS= (s.map (pr C)).foldl jg []:=sJ hp f1 fun x y=>by
  rw [hcov,fK]
  have e:rowAt ((s.map (pr C)).foldl jg []) y=rowAt (s.map (pr C)) y:=by
   rw [f3]
   by_cases h: ∃b∈s.map (pr C),b.y0<=y/\y<b.y1
   ·rw [aD h]
   ·rw [aH h]
    exact(lu fun b hb=>by
     have: ¬(b.y0<=y/\y<b.y1):=fun h2=>h ⟨b,hb,h2⟩
     omega).symm
  unfold tu
  rw [e]
  exact⟨hrow2 x y,hrow (fun b hb=>hb) x y⟩
 have hc1: (aM p).length=pg (p.map bS):=by
  have: ∀p:List aA,(aM p).length=pg (p.map bS):=fun p=>by
   induction p with
   | nil=>rfl
   | cons b p ih=>rw [mo,cT,mK,ih];unfold pg;rw [dO,dO,List.sum_cons];rfl
  exact this p
 have hc2: ∀s:List aA,pg (s.map (pr C))= ((aM s).filter (fun r=>decide (r∈C))).length:=fun s=>by
  induction s with
  | nil=>rfl
  | cons b s ih=>
   rw [mo,ka,cT,<-ih]
   unfold pg
   rw [dO,dO,List.sum_cons]
   congr 1
   show (cY _).length / 2=_
   rw [(zL _).2]
   unfold mn
   rw [List.filter_map,dS];rfl
 have hc3: ((aM s).filter (fun r=>decide (r∈C))).length<=C.length:=fH (List.Nodup.sublist List.filter_sublist (C7 hs)) fun r hr=>of_decide_eq_true (k6.1 hr).2
 rw [hc1,hsame]
 have e0:pg ([]:List Bd)=0:=rfl
 have:=hc2 s
 omega
end Go.Gk
namespace Go.Gk
open Go Classical
section
variable {N:Nat}
theorem HV (hN:16<=N):iI N=some true:=by
 have:=Fx (N:=N - 16)
 rwa [show N - 16+16=N by omega] at this
theorem vk {all:List aG} (w:aG->Nat): ∀(c:List Nat),((c.filterMap (fun i=>all[i]?)).map w).sum= (c.map (fun i=>(all[i]?).elim 0 w)).sum
 | []=>rfl
 | i::c=>by
  rw [dO,List.sum_cons,<-vk w c]
  cases h:all[i]? with
  | none=>rw [List.filterMap_cons_none (f:=fun i=>all[i]?) h];simp
  | some x=>rw [List.filterMap_cons_some (f:=fun i=>all[i]?) h,dO,List.sum_cons];rfl
theorem HW {all:List aG} {u:Nat->Nat} (h: ∀i,i<all.length->u i∈bO all.length u) (w:aG->Nat): ((bO all.length u).map (fun k=>((nb all all.length u k).map w).sum)).sum= (all.map w).sum:=by
 have e: (fun k=>((nb all all.length u k).map w).sum)=fun k=>(((List.range all.length).filter (fun x=>decide (u x=k))).map (fun i=>(all[i]?).elim 0 w)).sum:=by
  funext k;unfold nb;rw [vk];rfl
 rw [e,C0 (nJ _ _) u _ (fun x hx=>h x (qx.1 hx))]
 have: ∀m,m<=all.length->((List.range m).map (fun i=>(all[i]?).elim 0 w)).sum= ((all.take m).map w).sum:=by
  intro m
  induction m with
  | zero=>intro _;rfl
  | succ m ih=>
   intro hm
   rw [zK,ih (by omega),eD (by omega),eE,List.sum_append,aO (by omega)]
   simp
 rw [this _ (bK _),fJ]
theorem zM: ∀{l m:List Nat},l.length=m.length->(∀(j x y:Nat),l[j]? =some x->m[j]? =some y->x<=y)->l.sum<=m.sum
 | [],[],_,_=>bK _
 | [],_::_,h,_=>by simp at h
 | _::_,[],h,_=>by simp at h
 | a::l,b::m,h,hle=>by
  have h1:=hle 0 a b rfl rfl
  have h2:=zM (l:=l) (m:=m) (by simpa using h) fun j x y hx hy=>hle (j+1) x y (by simpa using hx) (by simpa using hy)
  rw [List.sum_cons,List.sum_cons];omega
theorem ET {r hs:List aG} {s:List aA} (h1: ∀x∈r,fD x=true) (h2: ∀x∈hs,fD x=true) (hc:eI (s.map bS)) (hl:vT (qw r++qw hs) (iJ r++iJ hs) (s.map bS)): ∀q∈aM s,fD q=true/\q.X0<q.X1/\q.Y0<q.Y1:=by
 intro q hq
 have hp:=rT hc q hq
 obtain⟨b,hb,p,hpm,rfl⟩:=pO hq
 have hll:=hl (bS b) (dD.2 ⟨b,hb,rfl⟩)
 have hm:=Bw p hpm
 have bx: ∀c∈qw r++qw hs,-1000000<=c/\c<=1000000:=fun c hcm=>by
  rcases dC.1 hcm with h | h
  ·obtain⟨x,hx,h⟩:=rM.1 h
   have:=mu (h1 x hx)
   rcases h with rfl | rfl <;> omega
  ·obtain⟨x,hx,h⟩:=rM.1 h
   have:=mu (h2 x hx)
   rcases h with rfl | rfl <;> omega
 have by': ∀c∈iJ r++iJ hs,-1000000<=c/\c<=1000000:=fun c hcm=>by
  rcases dC.1 hcm with h | h
  ·obtain⟨x,hx,h⟩:=jS.1 h
   have:=mu (h1 x hx)
   rcases h with rfl | rfl <;> omega
  ·obtain⟨x,hx,h⟩:=jS.1 h
   have:=mu (h2 x hx)
   rcases h with rfl | rfl <;> omega
 have g1:=bx _ (hll.2.2 p.1 hm.1)
 have g2:=bx _ (hll.2.2 p.2 hm.2)
 have g3:=by' _ hll.1
 have g4:=by' _ hll.2.1
 exact⟨zv ⟨g1,g3,g2,g4⟩,hp⟩
structure qj (r hs:List aG) (s:List aA) (u:Nat->Nat) (ps:List (List aA)):Prop where
 r1: ∀x∈r,fD x=true
 r2: ∀x∈hs,fD x=true
 k1: ∀x∈r,za x
 k2: ∀x∈hs,za x
 dr:sM r hs s
 pt:qI s u ps
 Dh: (aM s).length<=2000
theorem qj.part {r hs:List aG} {s:List aA} {u:Nat->Nat} {ps:List (List aA)} (h:qj r hs s u ps) {p:List aA} (hp:p∈ps):eI (p.map bS)/\(aM p).length<=2000/\∀q∈aM p,fD q=true/\q.X0<q.X1/\q.Y0<q.Y1:=by
 obtain⟨sx,sy⟩:=h.dr.small h.k1 h.k2
 obtain⟨j,k,g1,g2,g3,g4⟩:=zA h.pt h.dr.can h.dr.lim sx sy hp
 have:=AL h.dr.can g3.can (fun x hx=>by
  obtain⟨i,_,_,hi⟩:=lD.1 hx
  exact gh hi) g3.cover
 have h2:=zo (aM s) (aM s).length u k
 have:=h.Dh
 exact⟨g3.can,by omega,ET h.r1 h.r2 g3.can g4⟩
theorem qj.bO {r hs:List aG} {s:List aA} {u:Nat->Nat} {ps:List (List aA)} (h:qj r hs s u ps): ∀i,i< (aM s).length->u i∈Gk.bO (aM s).length u:=fun i hi=>jh.2 ⟨by have:=h.pt.join.le i hi;omega,h.pt.join.rr i hi⟩
theorem qj.total {r hs:List aG} {s:List aA} {u:Nat->Nat} {ps:List (List aA)} (h:qj r hs s u ps): (ps.map (fun p=>(aM p).length)).sum<=(aM s).length:=by
 have h1:=HW h.bO (fun _=>1)
 have one: ∀l:List aG,(l.map (fun _=>1)).sum=l.length:=fun l=>by
  induction l with
  | nil=>rfl
  | cons x l ih=>simp only [dO,List.sum_cons,ih,fI];omega
 simp only [one] at h1
 rw [<-h1]
 refine zM (by simp [h.pt.len]) fun j x y hx hy=>?_
 rw [j9,Option.map_eq_some_iff] at hx hy
 obtain⟨p,hp,rfl⟩:=hx
 obtain⟨k,hk,rfl⟩:=hy
 have hs:=h.pt.each j k p hk hp
 exact AL h.dr.can hs.can (fun x hx=>by
  obtain⟨i,_,_,hi⟩:=lD.1 hx
  exact gh hi) hs.cover
theorem C8 {ps:List (List aA)} {x y:Int}:tX (ps.flatMap aM) x y=true↔∃p∈ps,tX (aM p) x y=true:=by
 rw [iZ]
 constructor
 ·rintro⟨r,hr,h⟩
  obtain⟨p,hp,hrp⟩:=List.mem_flatMap.1 hr
  exact⟨p,hp,iZ.2 ⟨r,hrp,h⟩⟩
 ·rintro⟨p,hp,h⟩
  obtain⟨r,hr,h⟩:=iZ.1 h
  exact⟨r,List.mem_flatMap.2 ⟨p,hp,hr⟩,h⟩
theorem qj.cover {r hs:List aG} {s:List aA} {u:Nat->Nat} {ps:List (List aA)} (h:qj r hs s u ps) (x y:Int):tX (ps.flatMap aM) x y=tu (s.map bS) x y:=by
 rw [<-oC h.dr.can,fK,C8]
 constructor
 ·rintro⟨p,hp,hc⟩
  obtain⟨j,hj⟩:=eR hp
  have hjl:=(bC.1 hj).1
  have hk: (Gk.bO (aM s).length u)[j]? =some ((Gk.bO (aM s).length u)[j]'(by rw [<-h.pt.len];exact hjl)):=aO _
  have hs:=h.pt.each j _ _ hk hj
  rw [oC hs.can,hs.cover] at hc
  obtain⟨q,hq,h2⟩:=iZ.1 hc
  obtain⟨i,_,_,hi⟩:=lD.1 hq
  exact iZ.2 ⟨q,gh hi,h2⟩
 ·intro hc
  obtain⟨q,hq,h2⟩:=iZ.1 hc
  obtain⟨i,hi⟩:=eR hq
  have hil:=(bC.1 hi).1
  obtain⟨j,hj⟩:=eR (h.bO i hil)
  have hjl:j<ps.length:=by rw [h.pt.len];exact(bC.1 hj).1
  have hs:=h.pt.each j _ _ hj (aO hjl)
  refine⟨_,cR hjl,?_⟩
  rw [oC hs.can,hs.cover]
  exact iZ.2 ⟨q,lD.2 ⟨i,hil,rfl,hi⟩,h2⟩
theorem ug {l:List aG} (hl:l.length<=1073741824) (hN:4398046511104<=N):dL N l l=some true:=by
 refine Ok.get ?_
 unfold dL
 rw [show (((l.length:Nat):Int) != ((l.length:Nat):Int))=false by simp,aT]
 refine Ok.bind (Ok.kD (Go:=fun _=>True) (Rt:=fun _=>False) (fun s=>∃k:Nat,s= ((k:Nat):Int)) (fun s=>l.length - s.toNat) ?_ ⟨0,rfl⟩ (by simp;omega)) (fun o ho=>Ok.cs ho (fun _ _=>Ok.ret rfl) (fun r hr=>hr.elim))
 rintro s ⟨k,rfl⟩
 refine Ok.bif (fun h=>?_) (fun _=>Ok.br trivial)
 have hk:k<l.length:=by have:=of_decide_eq_true h;omega
 refine Ok.idx hk (Ok.idx hk ?_)
 rw [show (!decide (l[k]=l[k]))=false by simp,aT,cD (by omega)]
 exact Ok.nx ⟨⟨k+1,rfl⟩,by simp only [cK];omega⟩
section
variable {a:fu} {n9:List (List aA)} {kq:List (List (List aA))} {r:Nat->Nat} {gs:List eB} {ofP ofB x5:List Int} {x6:List lT}
end
end
end Go.Gk
namespace Go.Gk
open Go Classical
def zN (a b:aG):Prop:=(0<min a.X1 b.X1 - max a.X0 b.X0/\0<=min a.Y1 b.Y1 - max a.Y0 b.Y0)\/(0<=min a.X1 b.X1 - max a.X0 b.X0/\0<min a.Y1 b.Y1 - max a.Y0 b.Y0)
theorem FK {all:List aG} (hB:all.Pairwise qh) (hp: ∀r∈all,r.X0<r.X1/\r.Y0<r.Y1) {i j:Nat} {a c:aG} (ha:all[i]? =some a) (hc:all[j]? =some c):zN a c↔i=j\/xh all i j\/xh all j i:=by
 have h1:xh all i j↔BC a c:=⟨fun⟨a',c',e1,e2,h⟩=>by rw [ha] at e1;rw [hc] at e2;injection e1 with e1;injection e2 with e2;rw [e1,e2];exact h,fun h=>⟨a,c,ha,hc,h⟩⟩
 have h2:xh all j i↔BC c a:=⟨fun⟨a',c',e1,e2,h⟩=>by rw [hc] at e1;rw [ha] at e2;injection e1 with e1;injection e2 with e2;rw [e1,e2];exact h,fun h=>⟨c,a,hc,ha,h⟩⟩
 have p1:=hp a (gh ha)
 have p2:=hp c (gh hc)
 rw [h1,h2]
 obtain⟨l1,e1⟩:=bC.1 ha
 obtain⟨l2,e2⟩:=bC.1 hc
 unfold zN BC
 rcases Nat.lt_trichotomy i j with h | h | h
 ·have:=mz.1 hB i j l1 l2 h
  rw [e1,e2] at this
  unfold qh at this
  rcases this with this | this
  ·constructor
   ·rintro(h3 | h3)
    ·exact .inr (.inl ⟨by omega,by omega,by omega⟩)
    ·omega
   ·rintro(h3 | h3 | h3)
    ·omega
    ·left;omega
    ·omega
  ·constructor
   ·rintro(h3 | h3) <;> omega
   ·rintro(h3 | h3 | h3) <;> omega
 ·subst h
  rw [ha] at hc;injection hc with hc;subst hc
  exact⟨fun _=> .inl rfl,fun _=> .inl (by omega)⟩
 ·have:=mz.1 hB j i l2 l1 h
  rw [e1,e2] at this
  unfold qh at this
  rcases this with this | this
  ·constructor
   ·rintro(h3 | h3)
    ·exact .inr (.inr ⟨by omega,by omega,by omega⟩)
    ·omega
   ·rintro(h3 | h3 | h3)
    ·omega
    ·omega
    ·left;omega
  ·constructor
   ·rintro(h3 | h3) <;> omega
   ·rintro(h3 | h3 | h3) <;> omega
theorem DX {α:Type} {q q':List α} (h:q <+:q') {t:Nat} {x:α} (hx:q[t]? =some x):q'[t]? =some x:=by
 obtain⟨r,rfl⟩:=h
 rw [gj (bC.1 hx).1];exact hx
def sS (f:Int->Int->Bool) (x y:Int):Prop:=f x y=true/\∀x' y',f x' y'=true->y<y'\/(y=y'/\x<=x')
theorem sS.unique {f:Int->Int->Bool} {x y x' y':Int} (h:sS f x y) (h':sS f x' y'):x=x'/\y=y':=by
 have h1:=h.2 _ _ h'.1
 have h2:=h'.2 _ _ h.1
 omega
theorem DY {a:aG} {l:List aG} (hp: ∀r∈a::l,r.X0<r.X1/\r.Y0<r.Y1) (hB: ∀r∈l,qh a r):sS (tX (a::l)) a.X0 a.Y0:=by
 have pa:=hp a (by simp)
 refine⟨iZ.2 ⟨a,by simp,by omega,by omega⟩,fun x' y' h=>?_⟩
 obtain⟨r,hr,hx,hy⟩:=iZ.1 h
 rcases dH.1 hr with rfl | hr
 ·omega
 ·have:=hB r hr
  unfold qh at this
  omega
theorem DZ {s:List aA} (hc:eI (s.map bS)) (hne:s≠[]): ∃r t,aM s=r::t/\sS (fun x y=>tu (s.map bS) x y) r.X0 r.Y0/\EP s= ⟨r.X0,r.Y0⟩:=by
 cases s with
 | nil=>exact absurd rfl hne
 | cons b s=>
  have hx:=hc.each (bS b) (by simp)
  have hxs:b.Xs≠[]:=hx.2.1
  have he:b.Xs.length % 2=0:=hx.2.2.2
  obtain⟨x0,x1,xs,e⟩: ∃x0 x1 xs,b.Xs=x0::x1::xs:=by
   match hb:b.Xs with
   | []=>exact absurd hb hxs
   | [x0]=>rw [hb] at he;simp at he
   | x0::x1::xs=>exact⟨x0,x1,xs,rfl⟩
  have hr:aM (b::s)= ⟨x0,b.Y0,x1,b.Y1⟩::((ze xs).map (fun p=>(⟨p.1,b.Y0,p.2,b.Y1⟩:aG))++aM s):=by
   rw [mo]
   unfold mn
   rw [e];rfl
  have hB:=pJ hc
  have hpos:=rT hc
  rw [hr] at hB hpos
  refine⟨_,_,hr,?_,by unfold EP;dsimp only;rw [e];rfl⟩
  have:=DY hpos (nN.1 hB).1
  rw [<-hr] at this
  refine⟨?_,fun x' y' h=>this.2 x' y' ?_⟩
  ·show tu _ _ _=true
   rw [<-oC hc];exact this.1
  ·rw [oC hc];exact h
theorem AM {all:List aG} {u:Nat->Nat} (hB:all.Pairwise qh) (hp: ∀r∈all,r.X0<r.X1/\r.Y0<r.Y1) (hJ:Joined all u) {h:Nat} {a:aG} (ha:all[h]? =some a) (hu:u h=h):sS (tX (nb all all.length u h)) a.X0 a.Y0:=by
 obtain⟨hl,e⟩:=bC.1 ha
 have pa:=hp a (gh ha)
 refine⟨iZ.2 ⟨a,lD.2 ⟨h,hl,hu,ha⟩,by omega,by omega⟩,fun x' y' hc=>?_⟩
 obtain⟨r,hr,hx,hy⟩:=iZ.1 hc
 obtain⟨k,hk,huk,hrk⟩:=lD.1 hr
 have hle:=hJ.le k hk
 by_cases ek:k=h
 ·subst ek;rw [ha] at hrk;injection hrk with hrk;subst hrk;omega
 ·obtain⟨hl2,e2⟩:=bC.1 hrk
  have:=mz.1 hB h k hl hl2 (by omega)
  rw [e,e2] at this
  unfold qh at this
  omega
theorem sT {u:Nat->Nat}: ∀(d i:Nat),∃t,bO (i+d) u=bO i u++t
 | 0,i=>⟨[],by simp⟩
 | d+1,i=>by
  obtain⟨t,ht⟩:=sT (u:=u) d i
  rw [<-Nat.add_assoc,iG,ht]
  split
  ·exact⟨t++[i+d],by simp⟩
  ·exact⟨t,rfl⟩
theorem G7 {u:Nat->Nat} {i n:Nat} (hi:i<n) (hu:u i=i): (bO n u)[(bO i u).length]? =some i:=by
 obtain⟨t,ht⟩:=sT (u:=u) (n - (i+1)) (i+1)
 rw [show i+1+ (n - (i+1))=n by omega] at ht
 rw [ht,iG,aD hu]
 simp
section
variable {N:Nat}
theorem FL {a b:aG} (ha:za a) (hb:za b):iH N a b=some (decide (zN a b)):=by
 have a1:=ha.s1;have a2:=ha.s2;have a3:=ha.s3;have a4:=ha.s4
 have b1:=hb.s1;have b2:=hb.s2;have b3:=hb.s3;have b4:=hb.s4
 unfold small at a1 a2 a3 a4 b1 b2 b3 b4
 unfold iH
 rw [w8,w8,w9,w9,fw (x:=min a.X1 b.X1 - max a.X0 b.X0) (by omega) (by omega),fw (x:=min a.Y1 b.Y1 - max a.Y0 b.Y0) (by omega) (by omega)]
 congr 1
 rw [fK]
 unfold zN
 simp only [dI,bV,bU,gt_iff_lt,ge_iff_le]
theorem insert_eq {l:List (List aG)} {r0:aG} {t:List aG} (hl:l.length<=1000000) (hN:4398046511104<=N) (h: ∀x,l[l.length - 1]? =some x->∃x0 t',x=x0::t'/\¬(r0.Y0<x0.Y0\/(r0.Y0=x0.Y0/\r0.X0<x0.X0))):jc N l (r0::t)=some (l++[r0::t]):=by
 refine Ok.get ?_
 unfold jc
 refine Ok.bind (Ok.kD (Go:=fun s=>s= ((l.length:Nat):Int)) (Rt:=fun _=>False) (fun s=>s= ((l.length:Nat):Int)) (fun s=>0) ?_ rfl (by omega)) ?_
 ·rintro s rfl
  by_cases h0:l.length=0
  ·rw [bY (by omega),aT,aB,aT];exact Ok.br rfl
  ·rw [bR (by omega),aQ,jC (by omega) (by omega)]
   have hx:l[l.length - 1]? =some (l[l.length - 1]'(by omega)):=aO _
   obtain⟨x0,t',e,hn⟩:=h _ hx
   have i1:idx (r0::t) 0=some r0:=rfl
   have i2:idx (l[l.length - 1]'(by omega)) 0=some x0:=by rw [e];rfl
   rw [i1,aB,gv hx,aB,i2,aB]
   unfold gY
   rw [aB,aB,show ((decide (r0.Y0<x0.Y0))||((r0.Y0==x0.Y0)&&(decide (r0.X0<x0.X0))))=false by
    rw [<-nc,dI,bV,bU,bU,beq_iff_eq];exact hn,aT]
   exact Ok.br rfl
 intro o ho
 refine Ok.cs ho ?_ (fun r hr=>hr.elim)
 rintro s rfl
 refine Ok.eq (rl l l.length (bK _)) (Ok.app ?_ (Ok.app ?_ (Ok.eq (pT l l.length (bK _)) (Ok.app ?_ (Ok.ret ?_)))))
 ·rw [fJ];simp only [List.length_nil];omega
 ·rw [fJ];simp only [List.length_nil,cT,fI];omega
 ·rw [fJ,List.drop_length];simp only [List.length_nil,cT,fI];omega
 ·simp
structure BI (all:List aG) (u:Nat->Nat) (i:Nat) (q:List Nat) (done:List Bool) (own:List aG):Prop where
 len:done.length=all.length
 nd:q.Nodup
 lt: ∀k∈q,k<all.length/\u k=i
 hd:i∈q
 dn: ∀k,k<all.length->done[k]? =some (decide (u k<i\/k∈q))
 ow:own.map some=q.map (fun k=>all[k]?)
theorem BI.K4 {all:List aG} {u:Nat->Nat} {i:Nat} {q:List Nat} {done:List Bool} {own:List aG} (h:BI all u i q done own):own.length=q.length:=by
 have:=congrArg List.length h.ow
 rwa [dS,dS] at this
theorem BI.Dh {all:List aG} {u:Nat->Nat} {i:Nat} {q:List Nat} {done:List Bool} {own:List aG} (h:BI all u i q done own):q.length<=all.length:=by
 have:=fH h.nd (m:=List.range all.length) (fun k hk=>by rw [qx];exact(h.lt k hk).1)
 rwa [List.length_range] at this
theorem BI.at_ {all:List aG} {u:Nat->Nat} {i:Nat} {q:List Nat} {done:List Bool} {own:List aG} (h:BI all u i q done own) {p k:Nat} (hk:q[p]? =some k):own[p]? =all[k]? :=by
 have e:=congrArg (fun l=>l[p]?) h.ow
 simp only [j9,hk,Option.map_some] at e
 cases ho:own[p]? with
 | none=>rw [ho] at e;cases e
 | some x=>rw [ho] at e;injection e
theorem BI.mem {all:List aG} {u:Nat->Nat} {i:Nat} {q:List Nat} {done:List Bool} {own:List aG} (h:BI all u i q done own) {r:aG}:r∈own↔∃k∈q,all[k]? =some r:=by
 have:r∈own↔some r∈own.map some:=by simp
 rw [this,h.ow,dD]
theorem C9 {s:List aA} {u:Nat->Nat} {ps:List (List aA)} (hc:eI (s.map bS)) (hP:qI s u ps) (hn: (aM s).length<=2000) (hok: ∀r∈aM s,za r) (hps: ∀p∈ps,(aM p).length<=2000) (hN:4398046511104<=N):
  gk N (aM s)=some (ps.map aM):=by
 refine Ok.get ?_
 have hB:=pJ hc
 have hpos:=rT hc
 have hJ:=hP.join
 have hlen:=hP.len
 have heach:=hP.each
 clear hP hc
 generalize aM s=all at *
 unfold gk
 refine Ok.eq (uv false (by omega)) ?_
 have hadj: ∀a b,(xh all a b\/xh all b a)->u a=u b:=fun a b h=>h.elim (fun h=>hJ.co a b h) (fun h=>(hJ.co b a h).symm)
 refine Ok.bind (Ok.sI (n:=all.length) (fun st=>st.2.2) (fun i st=>st.1.length=all.length/\(∀k,k<all.length->st.1[k]? =some (decide (u k<i)))/\st.2.1= (ps.take (bO i u).length).map aM) (Go:=fun st=>st.2.1=ps.map aM) (Rt:=fun _=>False) ?_ ?_ (fS _) rfl
  ⟨by simp,fun k hk=>by simp [hk],by simp [bO]⟩ (by omega)) ?_
 ·rintro i ⟨done,out,ii⟩ hi e ⟨hdl,hdn,hout⟩
  dsimp only at e hdl hdn hout ⊢
  subst e
  rw [n8 hi,aQ]
  refine Ok.ix (hdn i hi) (Ok.bif (fun hb=>?_) (fun hb=>?_))
  ·have hlt:u i<i:=of_decide_eq_true hb
   refine Ok.nx ⟨cD (by omega),hdl,fun k hk=>?_,?_⟩
   ·rw [hdn k hk]
    congr 1
    rw [decide_eq_decide]
    have hne:u k≠i:=fun e=>by have:=hJ.rr k hk;rw [e] at this;omega
    omega
   ·rw [iG,aH (by omega)];exact hout
  ·have hge: ¬u i<i:=of_decide_eq_false hb
   have hui:u i=i:=by have:=hJ.le i hi;omega
   have hx:all[i]? =some all[i]:=aO hi
   refine Ok.ix (hdn i hi) (Ok.ix hx ?_)
   refine Ok.bind (Ok.kD (Go:=fun st=>st.1.length=all.length/\(∀k,k<all.length->st.1[k]? =some (decide (u k<i+1)))/\(∀r,r∈st.2.1↔r∈nb all all.length u i)/\st.2.1.length<=all.length) (Rt:=fun _=>False)
    (fun st=>∃(q:List Nat) (t:Nat),st.2.2= ((t:Nat):Int)/\t<=q.length/\BI all u i q st.1 st.2.1/\∀(p k j:Nat),p<t->q[p]? =some k->j<all.length->(xh all k j\/xh all j k)->j∈q)
    (fun st=>all.length+1 - st.2.2.toNat) ?_ ⟨[i],0,rfl,by simp,?_,fun p k j hp=>by omega⟩ (by simp;omega)) ?_
   ·rintro⟨d1,o1,t'⟩ ⟨q,t,e,ht,hI,hcl⟩
    dsimp only at e hI ⊢
    subst e
    have hql:=hI.Dh
    have hol:=hI.K4
    by_cases hlt:t<q.length
    ·rw [n8 (by omega:t<o1.length),aQ]
     have hqt:q[t]? =some q[t]:=aO hlt
     have hkt:=hI.lt _ (cR hlt)
     have hya:all[q[t]]? =some all[q[t]]:=aO hkt.1
     refine Ok.bind (Ok.sI (n:=all.length) (fun st=>st.2.2) (fun j st=>∃q',q <+:q'/\BI all u i q' st.1 st.2.1/\∀j',j'<j->(xh all q[t] j'\/xh all j' q[t])->j'∈q')
      (Go:=fun st=>∃q',q <+:q'/\BI all u i q' st.1 st.2.1/\∀j',j'<all.length->(xh all q[t] j'\/xh all j' q[t])->j'∈q') (Rt:=fun _=>False) ?_ ?_ (fS _) rfl ⟨q,List.prefix_refl _,hI,fun j' hj=>by omega⟩ (by omega)) ?_
     ·rintro j ⟨d2,o2,jj⟩ hj e ⟨q',hpre,hI',hc'⟩
      dsimp only at e hI' ⊢
      subst e
      rw [n8 hj,aQ]
      have hq't:q'[t]? =some q[t]:=by rw [DX hpre hqt]
      have hy2:o2[t]? =some all[q[t]]:=by rw [hI'.at_ hq't];exact hya
      have hz:all[j]? =some all[j]:=aO hj
      have htc:=FK hB hpos hya hz
      have hcond: ((idx d2 ((j:Nat):Int)).bind fun x1054=>bif (!x1054) then ((idx o2 ((t:Nat):Int)).bind fun x1056=>(idx all ((j:Nat):Int)).bind fun x1058=>(iH N x1056 x1058).bind fun x1061=>some x1061) else (some false))=some (!decide (u j<i\/j∈q')&&decide (zN all[q[t]] all[j])):=by
       rw [gv (hI'.dn j hj),aB]
       cases decide (u j<i\/j∈q') with
       | true=>rfl
       | false=>rw [pw,aQ,gv hy2,aB,gv hz,aB,FL (hok _ (cR hkt.1)) (hok _ (cR hj)),aB,Bool.true_and]
      refine Ok.eq hcond ?_
      refine Ok.bind (P:=fun st:List Bool×List aG=>∃q',q <+:q'/\BI all u i q' st.1 st.2/\∀j',j'<j+1->(xh all q[t] j'\/xh all j' q[t])->j'∈q') (Ok.bif (fun hb=>?_) (fun hb=>?_)) (fun st hst=>Ok.nx ⟨cD (by omega),hst⟩)
      ·rw [bV,Bool.not_eq_true',decide_eq_false_iff_not,bU] at hb
       have hju:u j=i:=by
        rcases htc.1 hb.2 with h | h
        ·rw [<-h];exact hkt.2
        ·rw [<-hadj _ _ h];exact hkt.2
       have hjq:j∉q':=fun h=>hb.1 (.inr h)
       have hol2:=hI'.K4
       have hql2:=hI'.Dh
       refine Ok.ix (hI'.dn j hj) (Ok.ix hz (Ok.app (by simp only [fI,List.length_nil];omega) (Ok.ret ⟨q'++[j],hpre.trans (List.prefix_append _ _),⟨?_,?_,?_,?_,?_,?_⟩,?_⟩)))
       ·rw [iN];exact hI'.len
       ·rw [List.nodup_append]
        exact⟨hI'.nd,by simp,fun a ha b hb=>by simp at hb;subst hb;exact fun e=>hjq (e▸ha)⟩
       ·intro k hk
        rcases dC.1 hk with hk | hk
        ·exact hI'.lt k hk
        ·simp at hk;subst hk;exact⟨hj,hju⟩
       ·exact List.mem_append_left _ hI'.hd
       ·intro k hk
        rw [cK,eL]
        by_cases e:j=k
        ·subst e
         rw [aD rfl,aD (by rw [hI'.len];exact hj)]
         congr 1
         exact(bR (.inr (by simp))).symm
        ·rw [aH e,hI'.dn k hk]
         congr 1
         rw [decide_eq_decide,dC]
         simp only [List.mem_singleton]
         constructor
         ·exact fun h=>h.elim .inl (fun h=> .inr (.inl h))
         ·exact fun h=>h.elim .inl (fun h=>h.elim .inr (fun h=>absurd h.symm e))
       ·rw [eE,eE,hI'.ow];simp [hz]
       ·intro j' hj' ha
        by_cases e:j'=j
        ·subst e;simp
        ·exact List.mem_append_left _ (hc' j' (by omega) ha)
      ·refine Ok.ret ⟨q',hpre,hI',fun j' hj' ha=>?_⟩
       by_cases e:j'=j
       ·subst e
        have hj2:u j'=i:=by rw [<-hadj _ _ ha];exact hkt.2
        rw [bR (htc.2 (.inr ha)),Bool.and_true,Bool.not_eq_false',bU] at hb
        rcases hb with hb | hb
        ·omega
        ·exact hb
       ·exact hc' j' (by omega) ha
     ·rintro⟨d2,o2,jj⟩ e hI2
      dsimp only at e hI2 ⊢
      subst e
      rw [q8,aT]
      exact Ok.br hI2
     intro o ho
     refine Ok.cs ho ?_ (fun r hr=>hr.elim)
     rintro⟨d2,o2,jj⟩ ⟨q',hpre,hI',hc'⟩
     dsimp only at hI' ⊢
     refine Ok.nx ⟨⟨q',t+1,cD (by omega),?_,hI',fun p k j hp hk hj ha=>?_⟩,?_⟩
     ·have:=hpre.length_le;omega
     ·by_cases e:p=t
      ·subst e
       rw [DX hpre hqt] at hk;injection hk with hk;subst hk
       exact hc' j hj ha
      ·have hpq:q[p]? =some (q[p]'(by omega)):=aO _
       rw [DX hpre hpq] at hk;injection hk with hk;subst hk
       exact hpre.subset (hcl p _ j (by omega) hpq hj ha)
     ·rw [cD (by omega)];simp only [cK];omega
    ·rw [x8 (by omega:o1.length<=t),aT]
     have htq:t=q.length:=by omega
     have hcls: ∀k,k<all.length->(k∈q↔u k=i):=fun k hk=>⟨fun h=>(hI.lt k h).2,fun h=>by
      have hstep: ∀a b,xh all a b->(a∈q↔b∈q):=fun a b hab=>by
       have hab':=hab
       obtain⟨ra,rb,e1,e2,_⟩:=hab'
       have hla:=(bC.1 e1).1
       have hlb:=(bC.1 e2).1
       constructor
       ·intro h'
        obtain⟨p,hp⟩:=eR h'
        exact hcl p a b (by rw [htq];exact(bC.1 hp).1) hp hlb (.inl hab)
       ·intro h'
        obtain⟨p,hp⟩:=eR h'
        exact hcl p b a (by rw [htq];exact(bC.1 hp).1) hp hla (.inr hab)
      exact hJ.fi (fun k=>k∈q) hstep i k hi hk (by rw [hui,h]) hI.hd⟩
     refine Ok.br ⟨hI.len,fun k hk=>?_,fun r=>?_,by rw [hol];exact hql⟩
     ·rw [hI.dn k hk]
      congr 1
      rw [decide_eq_decide,hcls k hk];omega
     ·rw [hI.mem,lD]
      constructor
      ·rintro⟨k,hk,h⟩
       exact⟨k,(hI.lt k hk).1,(hI.lt k hk).2,h⟩
      ·rintro⟨k,hk,h1,h2⟩
       exact⟨k,(hcls k hk).2 h1,h2⟩
   ·refine⟨by rw [iN];exact hdl,by simp,fun k hk=>by simp at hk;subst hk;exact⟨hi,hui⟩,by simp,fun k hk=>?_,by simp [hx]⟩
    rw [cK,eL]
    by_cases e:i=k
    ·subst e
     rw [aD rfl,aD (by rw [hdl];exact hi)]
     congr 1
     exact(bR (.inr (by simp))).symm
    ·rw [aH e,hdn k hk]
     congr 1
     rw [decide_eq_decide]
     simp only [List.mem_singleton]
     omega
   intro o ho
   refine Ok.cs ho ?_ (fun r hr=>hr.elim)
   rintro⟨d1,o1,t'⟩ ⟨g1,g2,g3,g4⟩
   dsimp only at g1 g2 g3 g4 ⊢
   have hh:=G7 hi hui
   have hml: (bO i u).length<ps.length:=by rw [hlen];exact(bC.1 hh).1
   have hpp:ps[(bO i u).length]? =some ps[(bO i u).length]:=aO hml
   have mA:=heach _ _ _ hh hpp
   have hcov: ∀x y,tu (ps[(bO i u).length].map bS) x y=tX o1 x y:=fun x y=>by rw [mA.cover];exact(HN g3 x y).symm
   have hpl:=hps _ (cR hml)
   refine Ok.eq (sR mA.can hcov (by omega) (fun r hr=>?_) (by omega) hN) ?_
   ·obtain⟨k,_,_,hk⟩:=lD.1 ((g3 r).1 hr)
    exact(hpos r (gh hk)).1
   have hfirst: ∀(j h:Nat) p,(bO all.length u)[j]? =some h->ps[j]? =some p->∃r t a,aM p=r::t/\all[h]? =some a/\r.X0=a.X0/\r.Y0=a.Y0:=fun j h p hj hp=>by
    have hs:=heach j h p hj hp
    obtain⟨hhl,hhu⟩:=jh.1 (gh hj)
    have ha:all[h]? =some all[h]:=aO hhl
    have hne:p≠[]:=fun e=>by
     have hL:=(AM hB hpos hJ ha hhu).1
     rw [<-hs.cover,e] at hL
     cases hL
    obtain⟨r,t,e1,e2,_⟩:=DZ hs.can hne
    have e2':sS (tX (nb all all.length u h)) r.X0 r.Y0:=⟨by rw [<-hs.cover];exact e2.1,fun x' y' hxy=>e2.2 x' y' (by simp only;rw [hs.cover];exact hxy)⟩
    obtain⟨e3,e4⟩:=e2'.unique (AM hB hpos hJ ha hhu)
    exact⟨r,t,all[h],e1,ha,e3,e4⟩
   obtain⟨r,t,a,e1,e2,e3,e4⟩:=hfirst _ _ _ hh hpp
   have hheads: (bO i u).length<=i:=oD i u
   rw [e1]
   refine Ok.eq (insert_eq (by rw [hout,dS,cM];omega) hN (fun x hxl=>?_)) (Ok.nx ⟨cD (by omega),g1,g2,?_⟩)
   ·have hol:out.length= (bO i u).length:=by rw [hout,dS,cM];omega
    have hpos2:0< (bO i u).length:=by
     have:=(bC.1 hxl).1;omega
    rw [hout,j9,dS,cM,show min (bO i u).length ps.length= (bO i u).length by omega,List.getElem?_take_of_lt (by omega)] at hxl
    have hp2:ps[(bO i u).length - 1]? =some (ps[(bO i u).length - 1]'(by omega)):=aO _
    rw [hp2] at hxl
    injection hxl with hxl
    have hh2: (bO i u)[(bO i u).length - 1]? =some ((bO i u)[(bO i u).length - 1]'(by omega)):=aO _
    have hm2:=jh.1 (gh hh2)
    obtain⟨tl,htl⟩:=sT (u:=u) (all.length - i) i
    rw [show i+ (all.length - i)=all.length by omega] at htl
    have hh3: (bO all.length u)[(bO i u).length - 1]? =some ((bO i u)[(bO i u).length - 1]'(by omega)):=by rw [htl,gj (by omega)];exact hh2
    obtain⟨r',t',a',f1,f2,f3,f4⟩:=hfirst _ _ _ hh3 hp2
    refine⟨r',t',by rw [<-hxl];exact f1,?_⟩
    obtain⟨l1,q1⟩:=bC.1 f2
    obtain⟨l2,q2⟩:=bC.1 e2
    have hbh:=mz.1 hB _ _ l1 l2 hm2.1
    rw [q1,q2] at hbh
    have p1:=hpos a' (gh f2)
    unfold qh at hbh
    rw [e3,e4,f3,f4]
    omega
   ·dsimp only
    rw [iG,aD hui,cT,hout]
    simp only [fI,List.length_nil]
    rw [eD hml,eE,dO,List.map_nil,e1]
 ·rintro⟨done,out,ii⟩ e ⟨_,_,hout⟩
  dsimp only at e hout ⊢
  subst e
  rw [q8,aT]
  refine Ok.br ?_
  dsimp only
  rw [hout,k8 (by rw [hlen];omega)]
 intro o ho
 exact Ok.cs ho (fun s hs=>Ok.ret hs) (fun r hr=>hr.elim)
end
end Go.Gk
namespace Go.Gk
open Go Classical
section
variable {α β:Type}
end
def yf (p q:ik):Prop:=dY.lt p.Part q.Part\/(p.Part=q.Part/\dY.lt p.ik q.ik)
theorem EU {p q:ik} (h1:p.Part=q.Part) (h2:p.ik=q.ik):p=q:=by cases p;cases q;simp at h1 h2;subst h1;subst h2;rfl
theorem yf.irrefl (p:ik): ¬yf p p:=fun h=>by
 rcases h with h | ⟨_,h⟩
 ·exact dY.lt_irrefl _ h
 ·exact dY.lt_irrefl _ h
theorem yf.trans {p q r:ik} (h1:yf p q) (h2:yf q r):yf p r:=by
 rcases h1 with h1 | ⟨e1,h1⟩ <;> rcases h2 with h2 | ⟨e2,h2⟩
 ·exact .inl (dY.lt_trans h1 h2)
 ·exact .inl (by rw [<-e2];exact h1)
 ·exact .inl (by rw [e1];exact h2)
 ·exact .inr ⟨e1.trans e2,dY.lt_trans h1 h2⟩
theorem yf.total (p q:ik):yf p q\/p=q\/yf q p:=by
 rcases dY.CF p.Part q.Part with h | h | h
 ·exact .inl (.inl h)
 ·rcases dY.CF p.ik q.ik with h' | h' | h'
  ·exact .inl (.inr ⟨h,h'⟩)
  ·exact .inr (.inl (EU h h'))
  ·exact .inr (.inr (.inr ⟨h.symm,h'⟩))
 ·exact .inr (.inr (.inl h))
theorem yf.asymm {p q:ik} (h:yf p q): ¬yf q p:=fun h'=>yf.irrefl p (h.trans h')
theorem yf.ne {p q:ik} (h:yf p q):p≠q:=fun e=>by subst e;exact yf.irrefl _ h
theorem rU {a b:dY}:Lib.compareBytes a.cQ b.cQ=0↔a=b:=⟨fun h=>dY.ext' ((vB _ _).1 h),fun h=>(vB _ _).2 (by rw [h])⟩
theorem sU {p q:ik}:kH p q=0↔p=q:=by
 unfold kH
 by_cases h:Lib.compareBytes p.Part.cQ q.Part.cQ=0
 ·rw [aH (by simpa using h),rU]
  exact⟨fun h'=>EU (rU.1 h) h',fun h'=>by rw [h']⟩
 ·rw [aD h]
  exact⟨fun h'=>absurd h' h,fun h'=>absurd (rU.2 (by rw [h'])) h⟩
theorem vR {p q:ik}:kH p q<0↔yf p q:=by
 unfold kH yf
 by_cases h:Lib.compareBytes p.Part.cQ q.Part.cQ=0
 ·rw [aH (by simpa using h),vA]
  have e:=rU.1 h
  constructor
  ·exact fun h'=> .inr ⟨e,h'⟩
  ·rintro(h' | ⟨_,h'⟩)
   ·rw [e] at h';exact absurd h' (dY.lt_irrefl _)
   ·exact h'
 ·rw [aD h,vA]
  constructor
  ·exact fun h'=> .inl h'
  ·rintro(h' | ⟨e,_⟩)
   ·exact h'
   ·exact absurd (rU.2 e) h
theorem D0 {p q:ik}:0<kH p q↔yf q p:=by
 constructor
 ·intro h
  rcases yf.total p q with h' | h' | h'
  ·have:=vR.2 h';omega
  ·have:=sU.2 h';omega
  ·exact h'
 ·intro h
  by_cases h1:kH p q<0
  ·exact absurd (vR.1 h1) h.asymm
  ·by_cases h2:kH p q=0
   ·exact absurd (sU.1 h2).symm h.ne
   ·omega
section
variable {N:Nat}
structure D1 (a:fu) (x:cU):Prop where
 name:mU x.Part=true/\isWord x.ik=true
 K0:0<=x.eU/\x.eU< ((a.aI.length:Nat):Int)
 at_:qd x.At=true
structure uJ (a:fu):Prop where
 Dh:a.bI.length<=1000
 each: ∀x∈a.bI,D1 a x
 up:a.bI.Pairwise (fun x y=>yf (mV x) (mV y))
theorem BP {a:fu} {k:Nat} {x:cU} (hx:a.bI[k]? =some x) (h:jY a k=none):D1 a x/\∀y,0<k->a.bI[k - 1]? =some y->yf (mV y) (mV x):=by
 unfold jY at h
 rw [hx,Option.bind_some] at h
 split at h
 ·rename_i h1
  split at h
  ·rename_i h2
   split at h
   ·cases h
   ·rename_i h3
    rw [bV] at h1 h2
    unfold fM at h2
    rw [bV,bU,bU] at h2
    refine⟨⟨h1,⟨by omega,by omega⟩,h2.2⟩,fun y hk hy=>?_⟩
    have h4: ¬kH (mV x) (mV y)<=0:=fun h4=>h3 ⟨hk,y,hy,h4⟩
    exact D0.1 (by omega)
  ·cases h
 ·cases h
theorem zO {a:fu} {k:Nat} {e:Int} (h:jY a k=some e):e≠0:=by
 unfold jY at h
 cases hx:a.bI[k]? with
 | none=>rw [hx] at h;cases h
 | some x=>
  rw [hx,Option.bind_some] at h
  repeat' split at h
  all_goals first | (injection h with h;omega) | cases h
theorem FM {a:fu} (h:mw a=0):uJ a:=by
 unfold mw at h
 split at h
 ·omega
 rename_i hl
 have hn:uO a.bI.length (jY a)=none:=by
  cases hf:uO a.bI.length (jY a) with
  | none=>rfl
  | some e=>
   rw [hf] at h
   obtain⟨k,_,hk,_⟩:=oA.1 hf
   exact absurd h (zO hk)
 rw [nE] at hn
 have hg: ∀(k:Nat) x,a.bI[k]? =some x->D1 a x/\∀y,0<k->a.bI[k - 1]? =some y->yf (mV y) (mV x):=fun k x hx=>BP hx (hn k (bC.1 hx).1)
 refine⟨by omega,fun x hx=>?_,?_⟩
 ·obtain⟨k,hk⟩:=eR hx
  exact(hg k x hk).1
 ·have hstep: ∀(n i:Nat) x y,a.bI[i]? =some x->a.bI[i+n+1]? =some y->yf (mV x) (mV y):=by
   intro n
   induction n with
   | zero=>intro i x y hx hy;exact(hg (i+1) y hy).2 x (by omega) hx
   | succ n ih=>
    intro i x y hx hy
    have hz:i+n+1<a.bI.length:=by have:=(bC.1 hy).1;omega
    have h1:=ih i x _ hx (aO hz)
    exact h1.trans ((hg (i+ (n+1)+1) y hy).2 _ (by omega) (by rw [show i+ (n+1)+1 - 1=i+n+1 by omega];exact aO hz))
  rw [mz]
  intro i j hi hj hij
  exact hstep (j - i - 1) i _ _ (aO hi) (by rw [show i+ (j - i - 1)+1=j by omega];exact aO hj)
theorem uJ.inj {a:fu} (h:uJ a) {i j:Nat} {x y:cU} (hx:a.bI[i]? =some x) (hy:a.bI[j]? =some y) (e:mV x=mV y):i=j:=by
 obtain⟨h1,rfl⟩:=bC.1 hx
 obtain⟨h2,rfl⟩:=bC.1 hy
 have hp:=mz.1 h.up
 rcases Nat.lt_trichotomy i j with h3 | h3 | h3
 ·exact absurd e (hp i j h1 h2 h3).ne
 ·exact h3
 ·exact absurd e.symm (hp j i h2 h1 h3).ne
end
end Go.Gk
namespace Go.Gk
open Go Classical
theorem uh {α β:Type} {l:List α} {f:α->Option β} {k:Nat} {x:α} {c:β} (hx:l[k]? =some x) (hn: ∀(j:Nat) y,j<k->l[j]? =some y->f y=none) (hc:f x=some c):l.findSome? f=some c:=by
 obtain⟨hk,rfl⟩:=bC.1 hx
 rw [List.findSome?_eq_some_iff]
 refine⟨l.take k,l[k],l.drop (k+1),?_,hc,fun y hy=>?_⟩
 ·rw [List.getElem_cons_drop,List.take_append_drop]
 ·obtain⟨j,hj⟩:=eR hy
  have hjk:j<k:=by have:=(bC.1 hj).1;rw [cM] at this;omega
  exact hn j y hjk (by rw [List.getElem?_take_of_lt hjk] at hj;exact hj)
theorem yg {α β:Type} {l:List α} {f:α->Option β} (h: ∀(j:Nat) y,j<l.length->l[j]? =some y->f y=none):l.findSome? f=none:=by
 rw [List.findSome?_eq_none_iff]
 intro x hx
 obtain⟨j,hj⟩:=eR hx
 exact h j x (bC.1 hj).1 hj
section
variable {N:Nat}
theorem K5 (c:UInt8): (bif (!((((decide (((c.toNat:Nat):Int)>=97))&&(decide (((c.toNat:Nat):Int)<=122)))||((decide (((c.toNat:Nat):Int)>=65))&&(decide (((c.toNat:Nat):Int)<=90))))||((decide (((c.toNat:Nat):Int)>=48))&&(decide (((c.toNat:Nat):Int)<=57))))) then ((gz N (⟨[95,43,45,35]⟩) ((c.toNat:Nat):Int)).bind fun x50=>some (decide (x50<0))) else (some false))=some (CP c):=by
 rw [sL,aB]
 unfold CP
 generalize decide (Lib.indexByte (⟨[95,43,45,35]⟩:dY).cQ c<0)=p
 have e: (!((((decide (((c.toNat:Nat):Int)>=97))&&(decide (((c.toNat:Nat):Int)<=122)))||((decide (((c.toNat:Nat):Int)>=65))&&(decide (((c.toNat:Nat):Int)<=90))))||((decide (((c.toNat:Nat):Int)>=48))&&(decide (((c.toNat:Nat):Int)<=57)))))= ((((decide (((c.toNat:Nat):Int)<65))||(decide (((c.toNat:Nat):Int)>90)))&&((decide (((c.toNat:Nat):Int)<97))||(decide (((c.toNat:Nat):Int)>122))))&&((decide (((c.toNat:Nat):Int)<48))||(decide (((c.toNat:Nat):Int)>57)))):=by
  rw [fK]
  simp only [Bool.not_eq_true',Bool.or_eq_false_iff,Bool.and_eq_false_iff,decide_eq_false_iff_not,bV,dI,bU]
  omega
 rw [e]
 cases ((((decide (((c.toNat:Nat):Int)<65))||(decide (((c.toNat:Nat):Int)>90)))&&((decide (((c.toNat:Nat):Int)<97))||(decide (((c.toNat:Nat):Int)>122))))&&((decide (((c.toNat:Nat):Int)<48))||(decide (((c.toNat:Nat):Int)>57)))) with
 | true=>rw [aQ,Bool.true_and]
 | false=>rw [aT,Bool.false_and]
theorem yh {s:dY} (h:s.cQ.length<=1048576) (hN:4194304<=N):f9 N s=some (isWord s):=by
 refine Ok.get ?_
 unfold f9 isWord
 refine Ok.bind (Ok.sI (n:=s.cQ.length) (fun s=>s) (fun k _=>∀(j:Nat) x,j<k->s.cQ[j]? =some x->CP x=false) (Go:=fun _=>s.cQ.any CP=false) (Rt:=fun r=>r=false/\s.cQ.any CP=true) ?_ ?_ (fS _) rfl (fun j x hj=>by omega) (by omega)) ?_
 ·rintro k i hk e hI
  subst e
  rw [n8 hk,aQ]
  refine Ok.eq (CE s k hk) (Ok.eq (K5 _) (Ok.bif (fun hb=>Ok.rt ⟨rfl,k9.2 ⟨_,cR hk,hb⟩⟩) (fun hb=>Ok.nx ⟨cD (by omega),fun j x hj hx=>?_⟩)))
  by_cases e:j=k
  ·subst e;rw [aO hk] at hx;injection hx with hx;rw [<-hx];exact hb
  ·exact hI j x (by omega) hx
 ·rintro i e hI
  subst e
  rw [q8,aT]
  refine Ok.br ?_
  rw [List.any_eq_false]
  intro x hx
  obtain⟨j,hj⟩:=eR hx
  rw [hI j x (bC.1 hj).1 hj];exact r7
 intro o ho
 refine Ok.cs ho (fun s' hs'=>?_) (fun r hr=>Ok.ret (by rw [hr.1,hr.2];rfl))
 rw [hs']
 show Ok ((some _).bind _) _
 refine Ok.ret ?_
 rw [pw,Bool.true_and]
 congr 1 <;> · rw [decide_eq_decide];omega
theorem Da {s:dY} (h:s.cQ.length<=1048576) (hN:4194304<=N):ja N s=some (mU s):=by
 refine Ok.get ?_
 unfold ja mU
 refine Ok.eq (CR 47 h hN) ?_
 have hsn:=AA s 47
 refine Ok.bind (Ok.sI (n:=(nv s 47).length) (fun s=>s) (fun k _=>∀(j:Nat) x,j<k->(nv s 47)[j]? =some x->isWord x=true) (Go:=fun _=>(nv s 47).all isWord=true) (Rt:=fun r=>r=false/\(nv s 47).all isWord=false) ?_ ?_ (fS _) rfl (fun j x hj=>by omega) (by omega)) ?_
 ·rintro k i hk e hI
  subst e
  rw [n8 hk,aQ]
  have hx: (nv s 47)[k]? =some (nv s 47)[k]:=aO hk
  have hl:=Az (cR hk)
  refine Ok.ix hx (Ok.eq (yh (by omega) hN) (Ok.bif (fun hb=>Ok.rt ⟨rfl,?_⟩) (fun hb=>Ok.nx ⟨cD (by omega),fun j x hj hx'=>?_⟩)))
  ·rw [List.all_eq_false]
   exact⟨_,cR hk,by simpa using hb⟩
  ·by_cases e:j=k
   ·subst e;rw [hx] at hx';injection hx' with hx';rw [<-hx'];simpa using hb
   ·exact hI j x (by omega) hx'
 ·rintro i e hI
  subst e
  rw [q8,aT]
  refine Ok.br ?_
  rw [kE]
  intro x hx
  obtain⟨j,hj⟩:=eR hx
  exact hI j x (bC.1 hj).1 hj
 intro o ho
 refine Ok.cs ho (fun s' hs'=>Ok.ret ?_) (fun r hr=>Ok.ret (by rw [hr.1,hr.2,Bool.and_false]))
 rw [hs',Bool.and_true,decide_eq_decide];omega
theorem qM (n lo hi:Int):cP N n lo hi=some (fM n lo hi):=rfl
theorem oH {b:bJ} (h:pq b=true):cV N b=some (t5 b):=mq (N:=N) h
theorem xN {b:bJ}:gq N b=some (l3 b).2:=by
 have e1: (bif (!(fM b.cZ 1 10000)) then (some true) else (some (!(qd b.At))))=some (!pq b):=by unfold pq;cases fM b.cZ 1 10000 <;> rfl
 have e2: ∀n,cJ N n=some (kZ n):=fun _=>rfl
 unfold gq l3
 rw [qM,aB,x4,aB,e1,aB]
 cases hf:pq b with
 | false=>rfl
 | true=>
  rw [nQ,aT,oH hf,aB]
  simp only [e2,aB]
  unfold fD
  cases kZ (t5 b).X0 <;> cases kZ (t5 b).Y0 <;> cases kZ (t5 b).X1 <;> cases kZ (t5 b).Y1 <;> rfl
theorem Jd {x y:cU}: ((x.Part.rX y.Part)||((x.Part.rW y.Part)&&(x.ik.rX y.ik||x.ik.rW y.ik)))=decide (kH (mV x) (mV y)<=0):=by
 have hle:kH (mV x) (mV y)<=0↔yf (mV x) (mV y)\/mV x=mV y:=by
  rw [<-vR,<-sU];omega
 rw [fK,bU,hle,dI,bV,dI,Bm,Bm]
 unfold yf mV
 simp only [ik.mk.injEq]
 constructor
 ·rintro(h | ⟨h1,h2 | h2⟩)
  ·exact .inl (.inl h)
  ·exact .inl (.inr ⟨h1,h2⟩)
  ·exact .inr ⟨h1,h2⟩
 ·rintro((h | ⟨h1,h2⟩) | ⟨h1,h2⟩)
  ·exact .inl h
  ·exact .inr ⟨h1, .inl h2⟩
  ·exact .inr ⟨h1, .inr h2⟩
theorem zP {a:fu} (hc:a.aI.length<=1073741824) (hl:a.bI.length<=1073741824) {k:Nat} {x:cU} (hx:a.bI[k]? =some x) (hn:x.Part.cQ.length<=1048576/\x.ik.cQ.length<=1048576) (hN:4194304<=N):g8 N a ((k:Nat):Int)=some ((jY a k).getD 0):=by
 have hk:=(bC.1 hx).1
 have hw:IntKind.wrap .i64 (((a.aI.length:Nat):Int) - 1)= ((a.aI.length:Nat):Int) - 1:=fw (by omega) (by omega)
 unfold g8 jY
 rw [gv hx,aB,Da hn.1 hN,aB,hx,Option.bind_some]
 have e1: (bif (!(mU x.Part)) then (some true) else ((f9 N x.ik).bind fun x44=>some (!x44)))=some (!(mU x.Part&&isWord x.ik)):=by
  rw [yh hn.2 hN,aB]
  cases mU x.Part <;> rfl
 rw [e1,aB]
 cases h1: (mU x.Part&&isWord x.ik) with
 | false=>rw [pw,aQ,aH r7];rfl
 | true=>
  rw [nQ,aT,aD rfl,hw,qM,aB]
  have e2: (bif (!(fM x.eU 0 (((a.aI.length:Nat):Int) - 1))) then (some true) else ((fP N x.At).bind fun x57=>some (!x57)))=some (!(fM x.eU 0 (((a.aI.length:Nat):Int) - 1)&&qd x.At)):=by
   rw [x4,aB]
   cases fM x.eU 0 (((a.aI.length:Nat):Int) - 1) <;> rfl
  rw [e2,aB]
  cases h2: (fM x.eU 0 (((a.aI.length:Nat):Int) - 1)&&qd x.At) with
  | false=>rw [pw,aQ,aH r7];rfl
  | true=>
   rw [nQ,aT,aD rfl]
   by_cases h0:0<k
   ·have hy:a.bI[k - 1]? =some (a.bI[k - 1]'(by omega)):=aO _
    rw [bR (by omega),aQ,jC h0 (by omega),gv hy,aB,Jd]
    by_cases h3:kH (mV x) (mV (a.bI[k - 1]'(by omega)))<=0
    ·rw [bR h3,aQ,aD ⟨h0,_,hy,h3⟩];rfl
    ·rw [bY h3,aT,aH (by rintro⟨_,y,hy',h4⟩;rw [hy] at hy';injection hy' with hy';subst hy';exact h3 h4)];rfl
   ·rw [bY (by omega),aT,aH (fun h=>h0 h.1)];rfl
noncomputable def lE (a:fu):Int:=if a.aI.length=0 then 9 else if 16<a.aI.length then 2 else match a.aI.findSome? u6 with
 | some e=>e
 | none=>if je a.bZ≠0 then je a.bZ else if 2000<a.bZ.length+ (a.aI.map List.length).sum then 2 else if iT a≠0 then iT a else mw a
theorem Db (a:fu):kr a=if lE a≠0 then lE a else if qg a then 12 else 0:=by
 unfold kr lE GZ CY
 by_cases h0:a.aI.length=0
 ·rw [aD h0,aD h0,aD (by decide)]
 rw [aH h0,aH h0]
 by_cases h1:16<a.aI.length
 ·rw [aD h1,aD h1,aD (by decide)]
 rw [aH h1,aH h1]
 cases hf:a.aI.findSome? u6 with
 | some e=>
  have he:e≠0:=by
   obtain⟨_,x,_,_,hx,_⟩:=List.findSome?_eq_some_iff.1 hf
   unfold u6 at hx
   split at hx
   ·rename_i h;injection hx with hx;rw [<-hx];exact h
   ·cases hx
  dsimp only
  rw [aD he]
 | none=>
  dsimp only
  by_cases h2:je a.bZ≠0
  ·rw [aD h2,aD h2,aD h2]
  rw [aH h2,aH h2]
  by_cases h3:2000<a.bZ.length+ (a.aI.map List.length).sum
  ·rw [aD h3,aD h3,aD (by decide)]
  rw [aH h3,aH h3]
  by_cases h4:iT a≠0
  ·rw [aD h4,aD h4,aD h4]
  rw [aH h4,aH h4]
theorem zQ {a:fu} (h:lE a=0):iT a=0:=by
 unfold lE at h
 by_cases h0:a.aI.length=0
 ·rw [aD h0] at h;omega
 rw [aH h0] at h
 by_cases h1:16<a.aI.length
 ·rw [aD h1] at h;omega
 rw [aH h1] at h
 cases hf:a.aI.findSome? u6 with
 | some e=>
  rw [hf] at h
  have h:e=0:=h
  obtain⟨_,x,_,_,hx,_⟩:=List.findSome?_eq_some_iff.1 hf
  unfold u6 at hx
  split at hx
  ·rename_i h';injection hx with hx;rw [hx] at h';exact absurd h h'
  ·cases hx
 | none=>
  rw [hf] at h
  dsimp only at h
  by_cases h2:je a.bZ≠0
  ·rw [aD h2] at h;exact absurd h h2
  rw [aH h2] at h
  by_cases h3:2000<a.bZ.length+ (a.aI.map List.length).sum
  ·rw [aD h3] at h;omega
  rw [aH h3] at h
  by_cases h4:iT a≠0
  ·rw [aD h4] at h;exact absurd h h4
  ·simpa using h4
theorem yr {a:fu} (hs:kW a) (hN:4398046511104<=N):gJ N a=some (lE a):=by
 refine Ok.get ?_
 have c1:=hs.cs
 have c2:=hs.out
 have c3:=hs.bs
 have c4:=hs.ls
 unfold gJ lE
 refine Ok.bif (fun h=>Ok.ret ?_) (fun h=>?_)
 ·rw [aD (by have:=beq_iff_eq.1 h;omega)]
 have h0: ¬a.aI.length=0:=by rw [beq_eq_false_iff_ne] at h;omega
 rw [aH h0]
 refine Ok.bif (fun h=>Ok.ret ?_) (fun h=>?_)
 ·rw [aD (by have:=of_decide_eq_true h;omega)]
 have h1: ¬16<a.aI.length:=by have:=of_decide_eq_false h;omega
 rw [aH h1]
 have sumle: ∀k,k<=a.aI.length->((a.aI.take k).map List.length).sum<=k*1048576:=by
  intro k
  induction k with
  | zero=>intro _;simp
  | succ k ih=>
   intro hk
   have:=ih (by omega)
   have h2:=hs.each _ (cR (show k<a.aI.length by omega))
   rw [eD (by omega),eE,List.sum_append]
   simp only [dO,List.map_nil,List.sum_cons,List.sum_nil]
   rw [Nat.add_mul];omega
 refine Ok.bind (Ok.sI (n:=a.aI.length) (fun s=>s.2) (fun k s=>s.1= ((a.bZ.length+ ((a.aI.take k).map List.length).sum:Nat):Int)/\∀(j:Nat) r,j<k->a.aI[j]? =some r->u6 r=none)
  (Go:=fun s=>s.1= ((a.bZ.length+ (a.aI.map List.length).sum:Nat):Int)/\a.aI.findSome? u6=none) (Rt:=fun r=>a.aI.findSome? u6=some r) ?_ ?_ (fS _) rfl ⟨by simp,fun j r hj=>by omega⟩ (by omega)) ?_
 ·rintro k ⟨m,i⟩ hk e ⟨hm,hI⟩
  dsimp only at e hm ⊢
  subst e;subst hm
  have hx:a.aI[k]? =some a.aI[k]:=aO hk
  have he:=hs.each _ (cR hk)
  have hsl:=sumle k (by omega)
  rw [n8 hk,aQ]
  refine Ok.ix hx (Ok.eq (pf (by omega) hN) (Ok.bif (fun hb=>Ok.rt ?_) (fun hb=>Ok.ix hx (Ok.nx ⟨cD (by omega),?_,fun j r hj hr=>?_⟩))))
  ·exact uh hx hI (by unfold u6;rw [aD (by simpa using hb)])
  ·dsimp only
   rw [wrap_add (by omega),eD hk,eE,List.sum_append]
   simp only [dO,List.map_nil,List.sum_cons,List.sum_nil]
   omega
  ·by_cases e:j=k
   ·subst e;rw [hx] at hr;injection hr with hr;rw [<-hr]
    unfold u6;rw [aH (by simpa using hb)]
   ·exact hI j r (by omega) hr
 ·rintro⟨m,i⟩ e ⟨hm,hI⟩
  dsimp only at e hm ⊢
  subst e
  rw [q8,aT]
  rw [fJ] at hm
  exact Ok.br ⟨hm,yg hI⟩
 intro o ho
 refine Ok.cs ho ?_ (fun r hr=>Ok.ret (by rw [hr]))
 rintro⟨m,i⟩ ⟨hm,hf⟩
 dsimp only at hm ⊢
 subst hm
 rw [hf]
 dsimp only
 refine Ok.eq (pf (by omega) hN) (Ok.bif (fun h=>Ok.ret ?_) (fun h=>?_))
 ·rw [aD (by simpa using h)]
 rw [aH (by simpa using h)]
 have hmr:Ok (bif (decide (((a.bZ.length+ (a.aI.map List.length).sum:Nat):Int)>2000)) then (some true) else (some (decide (((a.aR.length:Nat):Int)>500)))) (fun b=>b=decide (2000<a.bZ.length+ (a.aI.map List.length).sum\/500<a.aR.length)):=by
  by_cases h2:2000<a.bZ.length+ (a.aI.map List.length).sum
  ·rw [bR (by omega),aQ];exact Ok.ret (bR (.inl h2)).symm
  ·rw [bY (by omega),aT]
   refine Ok.ret ?_
   rw [decide_eq_decide];omega
 refine Ok.bind hmr fun b hb=>?_
 subst hb
 refine Ok.bif (fun h=>Ok.ret ?_) (fun h=>?_)
 ·have h:=of_decide_eq_true h
  by_cases h2:2000<a.bZ.length+ (a.aI.map List.length).sum
  ·rw [aD h2]
  ·rw [aH h2]
   have hb:iT a=2:=by unfold iT;rw [aD (by omega)]
   rw [hb,aD (by decide)]
 have h:=of_decide_eq_false h
 rw [aH (by omega)]
 have hbe:iT a= (a.aR.findSome? (lx a.aI.length)).getD 0:=by unfold iT;rw [aH (by omega)]
 have hw:IntKind.wrap .i64 (((a.aI.length:Nat):Int) - 1)= ((a.aI.length:Nat):Int) - 1:=fw (by omega) (by omega)
 refine Ok.bind (Ok.sI (n:=a.aR.length) (fun s=>s) (fun k _=>∀(j:Nat) b,j<k->a.aR[j]? =some b->lx a.aI.length b=none) (Go:=fun _=>a.aR.findSome? (lx a.aI.length)=none) (Rt:=fun r=>a.aR.findSome? (lx a.aI.length)=some r/\r≠0) ?_ ?_ (fS _) rfl (fun j b hj=>by omega) (by omega)) ?_
 ·rintro k i hk e hI
  subst e
  rw [n8 hk,aQ]
  have hx:a.aR[k]? =some a.aR[k]:=aO hk
  refine Ok.ix hx (Ok.eq xN (Ok.bif (fun hb=>Ok.rt ?_) (fun hb=>?_)))
  ·have hb: (l3 a.aR[k]).2≠0:=by simpa using hb
   exact⟨uh hx hI (by unfold lx;rw [aD hb]),hb⟩
  ·have hb: ¬(l3 a.aR[k]).2≠0:=by simpa using hb
   rw [hw]
   have e2: ((cP N a.aR[k].cH 0 (((a.aI.length:Nat):Int) - 1)).bind fun x135=>bif (!x135) then (some true) else ((cP N a.aR[k].To a.aR[k].cH (((a.aI.length:Nat):Int) - 1)).bind fun x138=>some (!x138)))=some (!(fM a.aR[k].cH 0 (((a.aI.length:Nat):Int) - 1)&&fM a.aR[k].To a.aR[k].cH (((a.aI.length:Nat):Int) - 1))):=by
    rw [qM,aB,qM,aB]
    cases fM a.aR[k].cH 0 (((a.aI.length:Nat):Int) - 1) <;> rfl
   refine Ok.eq e2 (Ok.bif (fun h3=>Ok.rt ⟨uh hx hI ?_,by decide⟩) (fun h3=>Ok.nx ⟨cD (by omega),fun j b hj hb'=>?_⟩))
   ·unfold lx
    rw [aH hb,aH (by rintro⟨g1,g2⟩;rw [g1,g2] at h3;cases h3)]
   ·by_cases e:j=k
    ·subst e;rw [hx] at hb';injection hb' with hb';rw [<-hb']
     rw [Bool.not_eq_false',bV] at h3
     unfold lx;rw [aH hb,aD h3]
    ·exact hI j b (by omega) hb'
 ·rintro i e hI
  subst e
  rw [q8,aT]
  exact Ok.br (yg hI)
 intro o ho
 refine Ok.cs ho ?_ (fun r hr=>Ok.ret ?_)
 rotate_left
 ·rw [hbe,hr.1,Option.getD_some,aD hr.2]
 intro _ hbn
 rw [hbe,hbn,Option.getD_none,aH (by decide)]
 unfold mw
 refine Ok.bif (fun h=>Ok.ret ?_) (fun h=>?_)
 ·rw [aD (by have:=of_decide_eq_true h;omega)]
 have h5: ¬1000<a.bI.length:=by have:=of_decide_eq_false h;omega
 rw [aH h5]
 refine Ok.bind (Ok.sI (n:=a.bI.length) (fun s=>s) (fun k _=>∀j,j<k->jY a j=none) (Go:=fun _=>uO a.bI.length (jY a)=none) (Rt:=fun r=>uO a.bI.length (jY a)=some r) ?_ ?_ (fS _) rfl (fun j hj=>by omega) (by omega)) ?_
 ·rintro k i hk e hI
  subst e
  rw [n8 hk,aQ]
  have hx:a.bI[k]? =some a.bI[k]:=aO hk
  refine Ok.eq (zP (by omega) (by omega) hx (hs.nm _ (cR hk)) (by omega)) (Ok.bif (fun hb=>Ok.rt ?_) (fun hb=>Ok.nx ⟨cD (by omega),fun j hj=>?_⟩))
  ·cases hl:jY a k with
   | none=>rw [hl] at hb;cases hb
   | some e=>exact oA.2 ⟨k,hk,hl,hI⟩
  ·by_cases e:j=k
   ·subst e
    cases hl:jY a j with
    | none=>rfl
    | some e=>rw [hl] at hb;exact absurd (by simpa using hb) (zO hl)
   ·exact hI j (by omega)
 ·rintro i e hI
  subst e
  rw [q8,aT]
  exact Ok.br (nE.2 hI)
 intro o ho
 exact Ok.cs ho (fun _ h=>Ok.ret (by rw [h];rfl)) (fun r hr=>Ok.ret (by rw [hr];rfl))
theorem BQ (b:bJ) (k:Int):jW N b k=some (kn b k):=rfl
theorem zR {a:fu} {i:Nat} {r:List aG} {s:List aA} (hb:mL a.aR) (hr:a.aI[i]? =some r) (hrl:r.length<=2000) (hro: ∀x∈r,za x) (hd:sM r (ko a.aR ((i:Nat):Int)) s) (hN:4398046511104<=N):hQ N a ((i:Nat):Int)=some (aM s):=by
 refine Ok.get ?_
 have hbl:=hb.len
 have hhl:=xJ hb ((i:Nat):Int)
 have hho:=t8 hb ((i:Nat):Int)
 unfold hQ
 refine Ok.bind (Ok.sI (n:=a.aR.length) (fun s=>s.2) (fun k st=>st.1=ko (a.aR.take k) ((i:Nat):Int)) (Go:=fun st=>st.1=ko a.aR ((i:Nat):Int)) (Rt:=fun _=>False) ?_ ?_ (fS _) rfl rfl (by omega)) ?_
 ·rintro k ⟨out,ii⟩ hk e hI
  dsimp only at e hI ⊢
  subst e;subst hI
  have hx:a.aR[k]? =some a.aR[k]:=aO hk
  have hts:ko (a.aR.take (k+1)) ((i:Nat):Int)=if kn a.aR[k] ((i:Nat):Int)=true then ko (a.aR.take k) ((i:Nat):Int)++[t5 a.aR[k]] else ko (a.aR.take k) ((i:Nat):Int):=by
   unfold ko
   rw [eD hk,ka,eE]
   by_cases h:kn a.aR[k] ((i:Nat):Int)=true
   ·rw [aD h];simp [h]
   ·rw [aH h];simp [h]
  have hlen: (ko (a.aR.take k) ((i:Nat):Int)).length<=k:=by
   unfold ko
   rw [dS]
   have:=nP (fun b=>kn b ((i:Nat):Int)) (a.aR.take k)
   rw [cM] at this;omega
  rw [n8 hk,aQ]
  refine Ok.ix hx (Ok.eq (BQ _ _) (Ok.bind (P:=fun st:List aG=>st=ko (a.aR.take (k+1)) ((i:Nat):Int)) (Ok.bif (fun h=>?_) (fun h=>Ok.ret ?_)) (fun st hst=>Ok.nx ⟨cD (by omega),hst⟩)))
  ·refine Ok.ix hx (Ok.eq (oH (hb.ok _ (cR hk)).1) (Ok.app (by simp only [fI,List.length_nil];omega) (Ok.ret ?_)))
   rw [hts,aD h]
  ·rw [hts,aH (by rw [nc];exact h)]
 ·rintro⟨out,ii⟩ e hI
  dsimp only at e hI ⊢
  subst e
  rw [q8,aT]
  exact Ok.br (by rw [fJ] at hI;exact hI)
 intro o ho
 refine Ok.cs ho ?_ (fun r hr=>hr.elim)
 rintro⟨hs,ii⟩ hI
 dsimp only at hI ⊢
 subst hI
 obtain⟨t,_,ht⟩:=mm (N:=N) (l:=ko a.aR ((i:Nat):Int)) (by omega) (fun x hx=>(hho x hx).1) (by omega)
 obtain⟨z1,z2,z3⟩:=ht.CS
 have z4:2* (ko a.aR ((i:Nat):Int)).length* (2* (ko a.aR ((i:Nat):Int)).length)<=1000*1000:=Nat.mul_le_mul (by omega) (by omega)
 refine Ok.ix hr (Ok.eq (sR ht.can ht.cover (by omega) (fun x hx=>(hho x hx).1.x) (by omega) hN) ?_)
 unfold eK
 have hsz:=(rQ (A:=5000) hd.can hd.lim (by rw [cT,ju,ju];omega) (by rw [cT,gK,gK];omega)).2.2
 have hc:eC N r (aM t) 3=some (aM s):=ye hd.can (fun x y=>by
  rw [hd.cover,oC ht.can,ht.cover];unfold oV;simp) (by omega) (by omega) (fun x hx=>(hro x hx).x) (fun x hx=>(rT ht.can x hx).1) (by omega) hN
 rw [hc,aB,aB]
 exact Ok.ret rfl
theorem AO: ∀(kq:List (List (List aA))) (k:Nat),(kp k kq).length= (kq.map List.length).sum
 | [],k=>rfl
 | ps::kq,k=>by
  show (ps.map _++kp (k+1) kq).length=_
  rw [cT,dS,AO kq (k+1),dO,List.sum_cons]
theorem FN {a:fu} {n9:List (List aA)} {kq:List (List (List aA))} (hg:oG a) (hD:vO a.aI a.aR a.aI.length n9 kq) {i:Nat} {s:List aA} (hi:i<a.aI.length) (hd:n9[i]? =some s) (hf: (aM s).length<=2000): ∃ps u,kq[i]? =some ps/\qj a.aI[i] (ko a.aR ((i:Nat):Int)) s u ps:=by
 have hp:kq[i]? =some (kq[i]'(by rw [hD.BD];exact hi)):=aO _
 have hdr:=hD.dr i _ _ hi (aO hi) hd
 obtain⟨u,hu⟩:=hD.pt i _ _ hi hd hp
 have hreg:=t7.1 (hg.ME _ (cR hi))
 exact⟨_,u,hp,fun x hx=>((q7.1 hreg.1).2 x hx).1,fun x hx=>(t8 hg.gb _ x hx).2,(zx hreg.1).2,fun x hx=>(t8 hg.gb _ x hx).1,hdr,hu,hf⟩
theorem qj.pieces {r hs:List aG} {s:List aA} {u:Nat->Nat} {ps:List (List aA)} (h:qj r hs s u ps) (hN:4398046511104<=N):gk N (aM s)=some (ps.map aM):=by
 refine C9 h.dr.can h.pt h.Dh (fun q hq=>?_) (fun p hp=>(h.part hp).2.1) hN
 obtain⟨h1,h2,h3⟩:=ET h.r1 h.r2 h.dr.can h.dr.lim q hq
 exact DL h1 h2 h3
theorem D2 {a b:aG} (ha:a.X0<a.X1/\a.Y0<a.Y1) (hb:b.X0<b.X1/\b.Y0<b.Y1):fQ N a b=some (CX a b):=by
 unfold fQ
 rw [w8,w8,w9,w9]
 have e1:decide (min a.X1 b.X1>max a.X0 b.X0)=w5 a.X0 a.X1 b.X0 b.X1:=by
  unfold w5
  rw [fK,bV,bU,bU,bU];omega
 have e2:decide (min a.Y1 b.Y1>max a.Y0 b.Y0)=w5 a.Y0 a.Y1 b.Y0 b.Y1:=by
  unfold w5
  rw [fK,bV,bU,bU,bU];omega
 rw [e1,e2]
 unfold CX
 cases w5 a.X0 a.X1 b.X0 b.X1 <;> rfl
theorem sq_pos {b:bJ} (h:pq b=true): (t5 b).X0< (t5 b).X1/\(t5 b).Y0< (t5 b).Y1:=by
 obtain⟨h1,_,_⟩:=qJ h
 simp only [t5];omega
inductive Checked (N:Nat) (a:fu):Prop
 | err (e:Int) (he:e≠0) (h1:kf N a=some (none,e)) (h2:cW N a=some e)
 | ok {n9:List (List aA)} {kq:List (List (List aA))} {r:Nat->Nat} {gs:List eB} {ofP ofB x5:List Int} {x6:List lT} (b:BJ a n9 kq r gs ofP ofB x5 x6)
  (h1:kf N a=some (some (a.aI,a.bZ,a.aR,a.bI,n9,kp 0 kq,tc a.aR (kp 0 kq),gs,ofP,ofB,x5,x6),0)) (h2:cW N a=some 0)
theorem EV {a:fu} (hb:mL a.aR) (hN:4398046511104<=N) {f:Int->Option Int} {Q:Int->Prop} (hc:qg a->Q 12) (hn: ¬qg a->∀s,Ok (f s) Q):
  Ok ((kD (fun(s35:Int)=>(bif (decide (s35< (a.aR.length:Int))) then ((kD (fun(s622:Int)=>(bif (decide (s622<s35)) then (((idx a.aR s35).bind fun x869=>(idx a.aR s622).bind fun x873=>(g9 N x869 x873).bind fun x876=>bif x876 then ((idx a.aR s35).bind fun x879=>(cV N x879).bind fun x882=>(idx a.aR s622).bind fun x885=>(cV N x885).bind fun x888=>(fQ N x882 x888).bind fun x890=>some x890) else (some false)).bind fun s867=>bif s867 then (some (.rt 12)) else (some (.nx (IntKind.wrap .i64 (s622+1))))) else (some (.br s622)):Option (Fl (Int) Int))) N 0).bind fun o911=>o911.cs (fun(s622:Int)=>some (.nx (IntKind.wrap .i64 (s35+1)))) (fun r=>some (.rt r))) else (some (.br s35)):Option (Fl (Int) Int))) N 0).bind fun o933=>o933.cs f (fun r=>some r)) Q:=by
 have hbl:=hb.len
 refine Ok.bind (Ok.sI (n:=a.aR.length) (fun s=>s) (fun k _=>∀(i j:Nat) (x y:bJ),i<k->j<i->a.aR[i]? =some x->a.aR[j]? =some y->¬qf x y=true) (Go:=fun _=>¬qg a) (Rt:=fun r=>r=12/\qg a) ?_ ?_ (fS _) rfl (fun i j x y hi=>by omega) (by omega)) ?_
 ·rintro k s hk e hI
  subst e
  rw [n8 hk,aQ]
  have hx:a.aR[k]? =some a.aR[k]:=aO hk
  have fx:=(hb.ok _ (cR hk)).1
  refine Ok.bind (Ok.sI (n:=k) (fun s=>s) (fun t _=>∀(j:Nat) (y:bJ),j<t->a.aR[j]? =some y->¬qf a.aR[k] y=true) (Go:=fun _=>∀(j:Nat) (y:bJ),j<k->a.aR[j]? =some y->¬qf a.aR[k] y=true) (Rt:=fun r=>r=12/\qg a) ?_ ?_ (fS _) rfl (fun j y hj=>by omega) (by omega)) ?_
  ·rintro t s ht e hI2
   subst e
   rw [n8 ht,aQ]
   have hy:a.aR[t]? =some (a.aR[t]'(by omega)):=aO _
   have fy:=(hb.ok _ (cR (show t<a.aR.length by omega))).1
   have hcond: ((idx a.aR ((k:Nat):Int)).bind fun x869=>(idx a.aR ((t:Nat):Int)).bind fun x873=>(g9 N x869 x873).bind fun x876=>bif x876 then ((idx a.aR ((k:Nat):Int)).bind fun x879=>(cV N x879).bind fun x882=>(idx a.aR ((t:Nat):Int)).bind fun x885=>(cV N x885).bind fun x888=>(fQ N x882 x888).bind fun x890=>some x890) else (some false))=some (qf a.aR[k] (a.aR[t]'(by omega))):=by
    rw [gv hx,aB,gv hy,aB]
    unfold g9 qf
    rw [aB]
    cases (decide (a.aR[k].cH<=(a.aR[t]'(by omega)).To)&&decide ((a.aR[t]'(by omega)).cH<=a.aR[k].To)) with
    | false=>rfl
    | true=>rw [aQ,aB,oH fx,aB,aB,oH fy,aB,D2 (sq_pos fx) (sq_pos fy),aB,Bool.true_and]
   refine Ok.eq hcond (Ok.bif (fun h=>Ok.rt ⟨rfl,k,t,_,_,ht,hx,hy,h⟩) (fun h=>Ok.nx ⟨cD (by omega),fun j y hj hjy=>?_⟩))
   by_cases e:j=t
   ·subst e;rw [hy] at hjy;injection hjy with hjy;rw [<-hjy,h];exact r7
   ·exact hI2 j y (by omega) hjy
  ·rintro s e hI2
   subst e
   rw [q8,aT]
   exact Ok.br hI2
  intro o ho
  refine Ok.cs ho (fun s hs=>Ok.nx ⟨cD (by omega),fun i j x y hi hj hix hjy=>?_⟩) (fun r hr=>Ok.rt hr)
  by_cases e:i=k
  ·subst e;rw [hx] at hix;injection hix with hix;rw [<-hix];exact hs j y hj hjy
  ·exact hI i j x y (by omega) hj hix hjy
 ·rintro s e hI
  subst e
  rw [q8,aT]
  refine Ok.br ?_
  rintro⟨i,j,x,y,hij,hx,hy,hc⟩
  exact hI i j x y (bC.1 hx).1 hij hx hy hc
 intro o ho
 exact Ok.cs ho (fun s hs=>hn hs s) (fun r hr=>Ok.ret (by rw [hr.1];exact hc hr.2))
theorem checked {a:fu} (hs:kW a) (hN:4398046511104<=N):Checked N a:=by
 obtain⟨x,hx,hI⟩:=AG (N:=N) hs hN
 have hbe:=Db a
 have hcp:=yr (N:=N) hs hN
 rcases hI with ⟨he,rfl⟩ | ⟨h0,hg,hcl,n9,kq,D,hI⟩
 ·refine .err _ he hx (Ok.get ?_)
  unfold cW
  refine Ok.eq hcp ?_
  by_cases h:lE a≠0
  ·rw [aD h] at hbe
   rw [show (lE a != 0)=true by simpa using h,aQ,hbe];exact Ok.ret rfl
  ·rw [aH h] at hbe
   have hp0:lE a=0:=by simpa using h
   have hc:qg a:=by
    by_cases hc:qg a
    ·exact hc
    ·rw [aH hc] at hbe;exact absurd hbe he
   rw [aD hc] at hbe
   rw [hp0,show ((0:Int) != 0)=false by rfl,aT]
   have hbo:=zQ hp0
   refine EV ⟨(lM hbo).1,fun b hb=>⟨((lM hbo).2 b hb).1,((lM hbo).2 b hb).2.1⟩⟩ hN (fun _=>hbe.symm) (fun h=>absurd hc h)
 ·have hp0:lE a=0:=by
   by_cases h:lE a≠0
   ·rw [aD h] at hbe;rw [hbe] at h0;exact h0
   ·simpa using h
  have key:cW N a=some (if Jh n9 kq then 0 else 2):=by
   refine Ok.get ?_
   unfold cW
   refine Ok.eq hcp ?_
   rw [hp0,show ((0:Int) != 0)=false by rfl,aT]
   refine EV hg.gb hN (fun h=>absurd h hcl) (fun _ _=>?_)
   have hc16:=hg.Dh.2
   refine Ok.bind (Ok.sI (n:=a.aI.length) (fun s=>s.2) (fun k st=>st.1= ((((kq.take k).map List.length).sum:Nat):Int)/\((kq.take k).map List.length).sum<=k*2000/\∀(j:Nat) s,j<k->n9[j]? =some s->(aM s).length<=2000)
    (Go:=fun st=>st.1= (((kq.map List.length).sum:Nat):Int)/\∀s∈n9,(aM s).length<=2000) (Rt:=fun r=>r=2/\¬Jh n9 kq) ?_ ?_ (fS _) rfl ⟨by simp,by simp,fun j s hj=>by omega⟩ (by omega)) ?_
   ·rintro k ⟨m,i⟩ hk e ⟨hm,hml,hI2⟩
    dsimp only at e hm ⊢
    subst e;subst hm
    rw [n8 hk,aQ]
    have hcx:a.aI[k]? =some a.aI[k]:=aO hk
    have hd:n9[k]? =some (n9[k]'(by rw [D.len];exact hk)):=aO _
    have hcs:=hg.cs _ (cR hk)
    refine Ok.eq (zR hg.gb hcx hcs.1 hcs.2 (D.dr k _ _ hk hcx hd) hN) (Ok.bif (fun h=>Ok.rt ⟨rfl,fun hf=>?_⟩) (fun h=>?_))
    ·have:=hf.1 _ (gh hd)
     have:=of_decide_eq_true h
     omega
    ·have hf: (aM (n9[k]'(by rw [D.len];exact hk))).length<=2000:=by have:=of_decide_eq_false h;omega
     obtain⟨ps,u,hp,L⟩:=FN hg D hk hd hf
     have hpl:=L.pt.Dh
     have hkp:k<kq.length:=by rw [D.BD];exact hk
     have hpe:kq[k]=ps:=by rw [aO hkp] at hp;injection hp
     refine Ok.eq (L.pieces hN) (Ok.nx ⟨cD (by omega),?_,?_,fun j s hj hjs=>?_⟩)
     ·dsimp only
      rw [dS,wrap_add (by omega),eD hkp,eE,List.sum_append,hpe]
      simp
     ·rw [eD hkp,eE,List.sum_append,hpe]
      simp only [dO,List.map_nil,List.sum_cons,List.sum_nil]
      rw [Nat.add_mul];omega
     ·by_cases e:j=k
      ·subst e;rw [hd] at hjs;injection hjs with hjs;rw [<-hjs];exact hf
      ·exact hI2 j s (by omega) hjs
   ·rintro⟨m,i⟩ e ⟨hm,hml,hI2⟩
    dsimp only at e hm ⊢
    subst e
    rw [q8,aT]
    rw [k8 (by rw [D.BD];exact bK _)] at hm
    refine Ok.br ⟨hm,fun s hs'=>?_⟩
    obtain⟨j,hj⟩:=eR hs'
    exact hI2 j s (by have:=(bC.1 hj).1;rw [D.len] at this;exact this) hj
   intro o ho
   refine Ok.cs ho ?_ (fun r hr=>Ok.ret (by rw [hr.1,aH hr.2]))
   rintro⟨m,i⟩ ⟨hm,hf⟩
   dsimp only at hm ⊢
   subst hm
   have hpl:=AO kq 0
   refine Ok.bif (fun h=>Ok.ret ?_) (fun h=>Ok.ret ?_)
   ·rw [aH]
    rintro⟨_,h2⟩
    have:=of_decide_eq_true h
    omega
   ·rw [aD]
    exact⟨hf,by have:=of_decide_eq_false h;omega⟩
  rcases hI with ⟨hf,rfl⟩ | ⟨hf,r,gs,ofP,ofB,x5,x6,hC,rfl⟩
  ·rw [aH hf] at key
   exact .err 2 (by decide) hx key
  ·rw [aD hf] at key
   exact .ok ⟨hg,hcl,D,hf,hC⟩ hx key
end
end Go.Gk
namespace Go.Gk
open Go Classical
section
variable {N:Nat}
end
section
variable {N:Nat} {a:fu} {n9:List (List aA)} {kq:List (List (List aA))} {r:Nat->Nat} {gs:List eB} {ofP ofB x5:List Int} {x6:List lT}
end
end Go.Gk
namespace Go.Gk
open Go Classical
structure PS (n:Nat) (r:Nat->Nat) (h:Nat) (q:List Nat) (seen:List Bool) (pieces todo:List Int):Prop where
 sl:seen.length=n
 sn: ∀p,p<n->seen[p]? =some (decide (r p<h\/p∈q))
 qn:q.Nodup
 qi: ∀p∈q,p<n/\r p=h
 q0:h∈q
 td:todo=ints q
 pi:jw pieces
 pm: ∀x,x∈pieces↔∃p∈q,x= ((p:Nat):Int)
structure QS (n m:Nat) (tch:List (List Int)) (r:Nat->Nat) (h:Nat) (q qb:List Nat) (wY:List Int) (used:List Bool):Prop where
 ul:used.length=m
 un: ∀k,k<m->used[k]? =some (decide (k∈qb))
 bi:jw wY
 bm: ∀x,x∈wY↔∃k∈qb,x= ((k:Nat):Int)
 bk: ∀k∈qb,k<m/\r (n+k)=h/\∀l,tch[k]? =some l->∀p:Nat,((p:Nat):Int)∈l->p∈q
theorem PS.Dh {n:Nat} {r:Nat->Nat} {h:Nat} {q:List Nat} {seen:List Bool} {pieces todo:List Int} (H:PS n r h q seen pieces todo):q.length<=n/\pieces.length<=n:=by
 have h1:=fH H.qn (m:=List.range n) (fun k hk=>by rw [qx];exact(H.qi k hk).1)
 rw [List.length_range] at h1
 have h2:=fH H.pi.nodup (m:=ints q) (fun x hx=>zB.2 ((H.pm x).1 hx))
 rw [n0] at h2
 exact⟨h1,by omega⟩
theorem QS.Dh {n m:Nat} {tch:List (List Int)} {r:Nat->Nat} {h:Nat} {q qb:List Nat} {wY:List Int} {used:List Bool} (H:QS n m tch r h q qb wY used):wY.length<=m:=by
 have h2:=fH H.bi.nodup (m:=ints (List.range m)) (fun x hx=>by
  obtain⟨k,hk,e⟩:=(H.bm x).1 hx
  exact zB.2 ⟨k,qx.2 (H.bk k hk).1,e⟩)
 rwa [n0,List.length_range] at h2
section
variable {N:Nat}
end
end Go.Gk
namespace Go.Gk
open Go Classical
structure MX (G G':List eB):Prop where
 len:G'.length=G.length
 each: ∀(g:Nat) x,G[g]? =some x->∃y,G'[g]? =some y/\y.oW=x.oW/\y.aR=x.aR
section
variable {N:Nat}
end
section
variable {N:Nat} {a:fu} {n9:List (List aA)} {kq:List (List (List aA))} {r:Nat->Nat} {gs:List eB} {ofP ofB x5:List Int} {x6:List lT}
theorem BJ.Is (b:BJ a n9 kq r gs ofP ofB x5 x6):uJ a:=FM b.K2.Is
end
end Go.Gk
namespace Go.Gk
open Go Classical
theorem BR (i:Int) {n:Nat} (hn:n<=1048576) {W:Option Bool} (hW:W=some (decide (i>=0)&&decide (i<=IntKind.wrap .i64 (((n:Nat):Int) - 1)))):
  (W=some false/\¬(0<=i/\i<n))\/(W=some true/\∃k:Nat,i= ((k:Nat):Int)/\k<n):=by
 rw [fw (by omega) (by omega)] at hW
 by_cases h:0<=i/\i<n
 ·exact .inr ⟨by rw [hW,bR (show i>=0 from h.1),bR (show i<=((n:Nat):Int) - 1 by omega)];rfl,i.toNat,by omega,by omega⟩
 ·refine .inl ⟨?_,h⟩
  rw [hW]
  by_cases h0:i>=0
  ·rw [bY (show ¬i<=((n:Nat):Int) - 1 by omega),Bool.and_false]
  ·rw [bY h0,Bool.false_and]
section
variable {N:Nat} {a:fu} {n9:List (List aA)} {kq:List (List (List aA))} {r:Nat->Nat} {gs:List eB} {ofP ofB x5:List Int} {x6:List lT}
end
section
variable {N:Nat}
end
end Go.Gk
namespace Go.Gk
open Go Classical
section
variable {bs:List bJ} {ls:List cU} {pcs:List aN} {r:Nat->Nat} {gs:List eB} {ofP ofB x5:List Int} {x6:List lT}
end
section
variable {N:Nat} {a:fu} {n9:List (List aA)} {kq:List (List (List aA))} {r:Nat->Nat} {gs:List eB} {ofP ofB x5:List Int} {x6:List lT}
end
section
variable {N:Nat}
end
end Go.Gk
namespace Go.Gk
open Go Classical
section
variable {N:Nat} {a:fu} {n9:List (List aA)} {kq:List (List (List aA))} {r:Nat->Nat} {gs:List eB} {ofP ofB x5:List Int} {x6:List lT}
end
section
variable {N:Nat}
end
end Go.Gk
namespace Go.Gk
open Go Classical
theorem G8 {α:Type} {l:List α} {φ:α->α->Option Bool} (hl:l.length<=4611686018427387904) (h: ∀x∈l,φ x x=some true):
  (bif ((l.length:Int) != (l.length:Int)) then (some false) else ((sW l.length (fun(k31:Nat) (s32:Unit)=>((idx l (k31:Int)).bind fun x44=>(idx l (k31:Int)).bind fun x48=>(φ x44 x48).bind fun x54=>bif (!x54) then (some (.rt false)) else (some (.nx ())):Option (Fl (Unit) Bool))) ()).bind fun o55=>o55.cs (fun(s32:Unit)=>some true) (fun r=>some r)))=some true:=by
 rw [bne_self_eq_false,aT]
 refine Ok.get ?_
 refine Ok.bind (Ok.sW (fun _ _=>True) (Go:=fun _=>True) (Rt:=fun _=>False) hl trivial (fun k s hk _=>?_) (fun _ _=>trivial)) (fun o ho=>Ok.cs ho (fun _ _=>Ok.ret rfl) (fun r hr=>hr.elim))
 have hx:l[k]? =some l[k]:=aO hk
 refine Ok.ix hx (Ok.ix hx (Ok.eq (h _ (cR hk)) ?_))
 rw [nQ,aT]
 exact Ok.nx trivial
section
variable {N:Nat} {a:fu} {n9:List (List aA)} {kq:List (List (List aA))} {r:Nat->Nat} {gs:List eB} {ofP ofB x5:List Int} {x6:List lT}
end
section
variable {N:Nat}
end
end Go.Gk
namespace Go.Gk
open Go Classical
section
variable {N:Nat}
theorem G9 {φ:Bool->Bool->Option Bool} {fE:Bool->Bool->Bool} {w:Int} (hφ: ∀p q,φ p q=some (fE p q)) (hk:fE false false=false) (hw: ∀p q,oV w p q=fE p q) {cp r:List aG} (h1:cp.length<=2000) (h2: ∀x∈cp,za x)
  (h3:r.length<=2000) (h4: ∀x∈r,za x) (hN:4398046511104<=N): ∃x y s,dN N cp=some x/\dN N r=some y/\kY N x y φ=some s/\eC N cp r w=some (aM s)/\
   jK N s=some (if 2000< (aM s).length then ([],2) else (aM s,0)):=by
 obtain⟨x,hx,sx⟩:=mm (N:=N) (l:=cp) (by omega) h2 (by omega)
 obtain⟨y,hy,sy⟩:=mm (N:=N) (l:=r) (by omega) h4 (by omega)
 have hz: ∀c∈iJ cp++iJ r,small c:=by
  intro c hc
  rcases dC.1 hc with h | h
  ·obtain⟨x,hx,rfl | rfl⟩:=jS.1 h
   ·exact(h2 x hx).s3
   ·exact(h2 x hx).s4
  ·obtain⟨x,hx,rfl | rfl⟩:=jS.1 h
   ·exact(h4 x hx).s3
   ·exact(h4 x hx).s4
 obtain⟨s,hs,ms⟩:=zj (N:=N) (X:=qw cp++qw r) (Y:=iJ cp++iJ r) hφ hk sx.can sy.can (sx.lim.mono (fun c h=>List.mem_append_left _ h) (fun c h=>List.mem_append_left _ h)) (sy.lim.mono (fun c h=>List.mem_append_right _ h) (fun c h=>List.mem_append_right _ h))
  (by rw [cT,ju,ju];omega) (by rw [cT,gK,gK];omega) hz hN
 obtain⟨z1,z2,z3⟩:=rQ (A:=8000) ms.can ms.lim (by rw [cT,ju,ju];omega) (by rw [cT,gK,gK];omega)
 refine⟨x,y,s,hx,hy,hs,ye ms.can (fun x y=>by rw [ms.cover,sx.cover,sy.cover,hw]) (by omega) (by omega) (fun q hq=>(h2 q hq).1) (fun q hq=>(h4 q hq).1) (by omega) hN,?_⟩
 unfold jK
 rw [EG (by omega) (fun b hb=>by have:=z2 b hb;omega) (by omega),aB]
 by_cases h:2000< (aM s).length
 ·rw [aD h,bR (show (((aM s).length:Nat):Int)>2000 by omega),aQ]
 ·rw [aH h,bY (show ¬(((aM s).length:Nat):Int)>2000 by omega),aT,wO (qc ms.can) (by omega) (fun b hb=>by have:=z2 b hb;omega) (by omega),aB]
theorem FO {a:fu} (ha:kW a) (hN:4398046511104<=N):np N a=some (a.aI,a.bZ,a.aR,a.bI):=by
 have h1:=ha.cs
 have h2:=ha.out
 have h3:=ha.bs
 have h4:=ha.ls
 refine Ok.get ?_
 unfold np
 refine Ok.eq (x:=a.aI) (by unfold kg;rw [jd (by simp;omega),aB,List.nil_append]) ?_
 refine Ok.bind (Ok.mN (fun k s=>s=a.aI) (by omega) rfl (fun k s hk e=>?_)) ?_
 ·subst e
  have hx:a.aI[k]? =some a.aI[k]:=aO hk
  have hc:=ha.each _ (cR hk)
  refine Ok.ix hx (Ok.eq (q6 (by omega)) (Ok.ix hx (Ok.ret ?_)))
  rw [cK];exact List.set_getElem_self hk
 rintro s rfl
 refine Ok.eq (q6 (by omega)) (Ok.eq (x:=a.aR) (by unfold lV;rw [jd (by simp;omega),aB,List.nil_append]) (Ok.eq (x:=a.bI) (by unfold lW;rw [jd (by simp;omega),aB,List.nil_append]) (Ok.ret rfl)))
def K6 (a:fu) (k:Nat) (l:List aG):fu:=⟨a.aI.set k l,a.bZ,a.aR,a.bI⟩
theorem D3 {a:fu} (ha:kW a) {k:Nat} {l:List aG} (hl:l.length<=1048576):kW (K6 a k l):=by
 refine⟨?_,fun r hr=>?_,ha.out,ha.bs,ha.ls,ha.nm⟩
 ·show (a.aI.set k l).length<=_;rw [iN];exact ha.cs
 ·rcases List.mem_or_eq_of_mem_set hr with h | h
  ·exact ha.each r h
  ·rw [h];exact hl
def rV:fu:=⟨[],[],[],[]⟩
noncomputable def MG (N:Nat) (op:List aA->List aA->Option (List aA)) (a:fu) (i:Int) (r:List aG):Option (fu×Int):=
 (eO N a).bind fun f=>bif (f != 0) then (some (rV,f)) else ((eV N i 0 (IntKind.wrap .i64 ((a.aI.length:Int) - 1))).bind fun b=>bif (!b) then (some (rV,9)) else ((fT N r).bind fun f=>bif (f != 0) then (some (rV,f)) else
  ((idx a.aI i).bind fun c=>(dN N c).bind fun x=>(dN N r).bind fun y=>(op x y).bind fun s=>(jK N s).bind fun t=>bif (t.2 != 0) then (some (rV,t.2)) else
  ((np N a).bind fun o=>(idx o.1 i).bind fun _=>(eO N (⟨o.1.set (Int.toNat i) t.1,o.2.1,o.2.2.1,o.2.2.2⟩:fu)).bind fun f=>bif (f != 0) then (some (rV,f)) else
  (some ((⟨o.1.set (Int.toNat i) t.1,o.2.1,o.2.2.1,o.2.2.2⟩:fu),0))))))
theorem xe {a:fu} (ha:kW a) (hN:4398046511104<=N): ∃f,eO N a=some f/\cW N a=some f/\(f=0->∀c∈a.aI,c.length<=2000/\∀x∈c,za x):=by
 rcases checked (N:=N) ha hN with ⟨e,he,h1,h2⟩ | ⟨b,h1,h2⟩
 ·exact⟨e,by unfold eO;rw [h1];rfl,h2,fun h=>absurd h he⟩
 ·exact⟨0,by unfold eO;rw [h1];rfl,h2,fun _=>b.K2.cs⟩
theorem zS {a:fu} (ha:kW a) {i:Int} {r:List aG} (hr:r.length<=1048576) {op:List aA->List aA->Option (List aA)} {φ:Bool->Bool->Option Bool} {fE:Bool->Bool->Bool} {w:Int} {m:Bool} (hm:w=bif m then 1 else 3)
  (hop: ∀x y,op x y= (kY N x y φ).bind some) (hφ: ∀p q,φ p q=some (fE p q)) (hk:fE false false=false) (hw: ∀p q,oV w p q=fE p q) (hN:4398046511104<=N):
  ∃x,MG N op a i r=some x/\gF N a i r m=some x/\kW x.1:=by
 have hz:kW rV:=⟨by simp [rV],by simp [rV],by simp [rV],by simp [rV],by simp [rV],fun x hx=>by simp [rV] at hx⟩
 obtain⟨f,c1,c2,c3⟩:=xe (N:=N) ha hN
 unfold MG gF
 rw [c1,c2,aB,aB]
 by_cases hf:f=0
 rotate_left
 ·rw [show (f != 0)=true by simpa using hf,aQ,aQ]
  exact⟨_,rfl,rfl,hz⟩
 have hcs:=c3 hf
 subst hf
 simp only [bne_self_eq_false,aT]
 have hc:=ha.cs
 rcases BR (n:=a.aI.length) i (by omega) (W:=eV N i 0 (IntKind.wrap .i64 ((a.aI.length:Int) - 1))) rfl with ⟨e1,hi⟩ | ⟨e1,k,rfl,hkl⟩
 ·have e2:cP N i 0 (IntKind.wrap .i64 ((a.aI.length:Int) - 1))=some false:=e1
  rw [e1,e2,aB,aB,pw,aQ,aQ]
  exact⟨_,rfl,rfl,hz⟩
 have e2:cP N ((k:Nat):Int) 0 (IntKind.wrap .i64 ((a.aI.length:Int) - 1))=some true:=e1
 rw [e1,e2,aB,aB,nQ,aT,aT,qe (by omega) hN,pf (by omega) hN,aB,aB]
 by_cases hg:je r=0
 rotate_left
 ·rw [show (je r != 0)=true by simpa using hg,aQ,aQ]
  exact⟨_,rfl,rfl,hz⟩
 rw [hg]
 simp only [bne_self_eq_false,aT]
 obtain⟨r1,r2⟩:=zx (t7.1 hg).1
 have hx:a.aI[k]? =some a.aI[k]:=aO hkl
 obtain⟨q1,q2⟩:=hcs _ (cR hkl)
 obtain⟨x,y,s,m1,m2,m3,m4,m5⟩:=G9 (N:=N) hφ hk hw q1 q2 r1 r2 hN
 obtain⟨_,_,s3,_,_,_,n4,_⟩:=G9 (N:=N) (φ:=fun p q=>some (p&& !q)) (fE:=fun p q=>p&& !q) (w:=3) (fun _ _=>rfl) rfl (fun p q=>by cases p <;> cases q <;> rfl) q1 q2 r1 r2 hN
 have hmin:eK N a.aI[k] r=some (aM s3):=by unfold eK;rw [n4,aB]
 have hboth: ∀{β:Type} (g:List aG->Option β),((eK N a.aI[k] r).bind fun x45=>(bif m then ((some a.aI[k]).bind fun x56=>(iQ N x56 r).bind fun x59=>some x59) else (some x45)).bind g)=g (aM s):=by
  intro β g
  rw [hmin,aB]
  cases m with
  | true=>
   have hw1:w=1:=hm
   rw [aQ,aB]
   unfold iQ
   rw [<-hw1,m4,aB,aB,aB]
  | false=>
   have hw1:w=3:=hm
   rw [hw1,n4] at m4;injection m4 with m4
   rw [aT,m4,aB]
 rw [gv hx,aB,aB,m1,aB,m2,aB,hop,m3,aB,aB,m5,aB,hboth]
 by_cases hl:2000< (aM s).length
 ·rw [aD hl,bR (show (((aM s).length:Nat):Int)>2000 by omega),aQ]
  exact⟨_,rfl,rfl,hz⟩
 rw [aH hl,bY (show ¬(((aM s).length:Nat):Int)>2000 by omega),aT]
 simp only [bne_self_eq_false,aT]
 rw [FO ha hN,aB]
 simp only [gv hx,aB,cK]
 have hso:=D3 ha (k:=k) (l:=aM s) (by omega)
 obtain⟨f,d1,d2,_⟩:=xe (N:=N) hso hN
 have hd1:eO N (⟨a.aI.set k (aM s),a.bZ,a.aR,a.bI⟩:fu)=some f:=d1
 rw [hd1,aB]
 refine⟨bif (f != 0) then (rV,f) else (K6 a k (aM s),0),?_,Ok.get ?_,?_⟩
 ·cases (f != 0) <;> rfl
 ·refine Ok.bind (Ok.sI (n:=a.aI.length) (fun st=>st.2.2) (fun j st=>st.1=aM s/\st.2.1= (a.aI.set k (aM s)).take j) (Go:=fun st=>st.2.1=a.aI.set k (aM s)) (Rt:=fun _=>False) ?_ ?_ (fS _) rfl ⟨rfl,rfl⟩ (by omega)) ?_
  ·rintro j ⟨u,t,i⟩ hj e ⟨hu,ht⟩
   dsimp only at e hu ht ⊢
   subst e;subst hu;subst ht
   rw [n8 hj,aQ]
   have hjx:a.aI[j]? =some a.aI[j]:=aO hj
   have hjs:j< (a.aI.set k (aM s)).length:=by rw [iN];exact hj
   have hlt:=List.length_take_le j (a.aI.set k (aM s))
   refine Ok.bind (P:=fun t=>t= (a.aI.set k (aM s)).take (j+1)) (Ok.bif (fun h=>?_) (fun h=>?_)) (fun t ht=>Ok.nx ⟨cD (by omega),rfl,ht⟩)
   ·have hjk:k=j:=by have:=beq_iff_eq.1 h;omega
    subst hjk
    refine Ok.app (by simp;omega) (Ok.ret ?_)
    rw [eD hjs,List.getElem_set_self]
   ·have hjk:k≠j:=fun e=>by subst e;simp at h
    refine Ok.ix hjx (Ok.app (by simp;omega) (Ok.ret ?_))
    rw [eD hjs,List.getElem_set_ne hjk]
  ·rintro⟨u,t,i⟩ e ⟨hu,ht⟩
   dsimp only at e hu ht ⊢
   subst e;subst hu;subst ht
   rw [q8,aT]
   exact Ok.br (by dsimp only;rw [k8 (by rw [iN];exact bK _)])
  intro o ho
  refine Ok.cs ho ?_ (fun r hr=>hr.elim)
  rintro⟨u,t,i⟩ ht
  dsimp only at ht ⊢
  subst ht
  have hd2:cW N (⟨a.aI.set k (aM s),a.bZ,a.aR,a.bI⟩:fu)=some f:=d2
  refine Ok.eq hd2 ?_
  cases (f != 0) <;> exact Ok.ret rfl
 ·cases (f != 0)
  ·exact hso
  ·exact hz
theorem D4 {l m:List bJ} (hl:l.length<=4611686018427387904):lX N l m=some (decide (l=m)):=uw hl
theorem D5 {l m:List cU} (hl:l.length<=4611686018427387904):lY N l m=some (decide (l=m)):=uw hl
theorem xf {a:fu} (ha:kW a) (hN:4398046511104<=N):gG N a a=some true:=by
 have h1:=ha.cs
 have h2:=ha.out
 have h3:=ha.bs
 have h4:=ha.ls
 have e:fZ N a.aI a.aI (dL N)=some true:=G8 (by omega) (fun l hl=>ug (by have:=ha.each l hl;omega) hN)
 unfold gG
 rw [e,aB,aQ,ug (by omega) hN,aB,aQ,D4 (by omega),aB,bR rfl,aQ,D5 (by omega),aB,bR rfl];rfl
theorem sV {a:fu} {i:Int} {r:List aG} (ha:bk a<=1048576) (_hi:bk i<=1048576) (hr:bk r<=1048576) (hN:4398046511104<=N):fL N a i r=some true:=by
 have hs:=CZ ha
 have hrl:r.length<=1048576:=by have:=vC r;omega
 obtain⟨x,x1,x2,x3⟩:=zS (N:=N) hs (i:=i) (r:=r) hrl (op:=py N) (φ:=ni N) (fE:=fun p q=>p||q) (w:=1) (m:=true) rfl (fun _ _=>rfl) (fun p q=>by cases p <;> rfl) rfl (fun p q=>by cases p <;> cases q <;> rfl) hN
 obtain⟨y,y1,y2,y3⟩:=zS (N:=N) hs (i:=i) (r:=r) hrl (op:=i9 N) (φ:=lU N) (fE:=fun p q=>p&& !q) (w:=3) (m:=false) rfl (fun _ _=>rfl) (fun p q=>by cases p <;> rfl) rfl (fun p q=>by cases p <;> cases q <;> rfl) hN
 have w1:oI N a i r=some x:=by
  have e:kh N a i r=some x:=x1
  unfold oI;rw [e,aB]
 have w2:mc N a i r=some y:=by
  have e:ki N a i r=some y:=y1
  unfold mc;rw [e,aB]
 have w3:jL N a i r=some x:=by unfold jL;rw [x2,aB]
 have w4:iR N a i r=some y:=by unfold iR;rw [y2,aB]
 unfold fL
 rw [w1,aB,w3,aB,w2,aB,w4,aB,xf x3 hN,aB,BEq.rfl,Bool.and_self,aQ,xf y3 hN,aB,BEq.rfl,Bool.and_self,aQ,HV (by omega)]
 rfl
end
end Go.Gk
