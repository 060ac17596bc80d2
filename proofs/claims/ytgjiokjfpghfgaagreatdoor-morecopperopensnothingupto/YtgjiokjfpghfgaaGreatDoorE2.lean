/-
  Helping texts: plain functions and plain laws. No statement of the seed is proved here.
-/
import Derived.Test.YtgjiokjfpghfgaaGreatDoorE1
import Derived.Test.YtgjiokjfpghfgaaGreatDoorA2
set_option linter.unusedVariables false
set_option linter.unusedSimpArgs false
set_option linter.unusedSectionVars false
namespace Go.Gk
open Go Classical
theorem vK (n:Nat) (g:Nat->Nat): ((List.range (n+1)).map g).sum= ((List.range n).map g).sum+g n:=by
 rw [List.range_succ,fC,List.sum_append];simp
def GS (r:aG) (x y:Int):Bool:=(decide (r.X0<=x)&&decide (x<r.X1))&&(decide (r.Y0<=y)&&decide (y<r.Y1))
def GJ (a b:aG):Prop:=∀x y,¬(GS a x y=true/\GS b x y=true)
theorem D5 {r:aG} {x y:Int}:GS r x y=true↔(r.X0<=x/\x<r.X1)/\r.Y0<=y/\y<r.Y1:=by unfold GS;simp
theorem o4: ∀{xs:List Int},kX xs->(uE xs).Pairwise (fun p q=>p.2<q.1)
 | [],_=>kg
 | [a],_=>kg
 | a::b::l,h=>by
  unfold uE
  rw [List.pairwise_cons]
  exact⟨fun q hq=>h.tail.head q.1 (xy q hq).1,o4 h.tail.tail⟩
def zR (a b:aG):Prop:=a.Y1<=b.Y0\/(a.Y0=b.Y0/\a.Y1=b.Y1/\a.X1<b.X0)
theorem zR.apart {a b:aG} (h:zR a b):GJ a b:=fun x y ⟨h1,h2⟩=>by
 rw [D5] at h1 h2
 rcases h with h | h <;> omega
theorem tm: ∀{s:List aA},cW (s.map aW)->(aK s).Pairwise zR
 | [],_=>kg
 | b::s,h=>by
  rw [kZ,List.pairwise_append]
  refine⟨?_,tm h.tail,fun x hx y hy=>?_⟩
  ·unfold kF
   rw [List.pairwise_map]
   exact List.Pairwise.imp (fun hpq=> .inr ⟨rfl,rfl,hpq⟩) (o4 (h.each (aW b) (by simp)).2.2.1)
  ·unfold kF at hx
   obtain⟨p,_,rfl⟩:=bV.1 hx
   obtain⟨c,hc,q,_,rfl⟩:=ku hy
   exact .inl (h.ve (aW c) (bV.2 ⟨c,hc,rfl⟩))
theorem wJ {s:List aA} (h:cW (s.map aW)): ∀r∈aK s,r.X0<r.X1/\r.Y0<r.Y1:=fun r hr=>by
 obtain⟨b,hb,p,hp,rfl⟩:=ku hr
 have hc:=h.each (aW b) (bV.2 ⟨b,hb,rfl⟩)
 exact⟨vl hc.2.2.1 p hp,hc.1⟩
theorem ug {s:List aA} (h:cW (s.map aW)): (aK s).Nodup:=by
 have h1:=tm h
 have h2:=wJ h
 refine List.Pairwise.imp_of_mem (fun{a b} ha hb hab e=>?_) h1
 subst e
 have:=h2 a ha
 rcases hab with h | h <;> omega
def mc (s:List Bd):Nat:=(s.map (fun b=>b.xs.length / 2)).sum
theorem qu (s t:List Bd):mc (s++t)=mc s+mc t:=by unfold mc;rw [fC,List.sum_append]
theorem BS (s:List Bd) (b:Bd):mc (kY s b)<=mc s+b.xs.length / 2:=by
 unfold kY
 split
 ·omega
 ·split
  ·rename_i c hc
   have hsp:=oY hc
   have e:mc s=mc s.dropLast+c.xs.length / 2:=by
    conv=>lhs;rw [hsp,qu]
    simp [mc]
   split
   ·rw [qu,e];simp [mc]
   ·rw [qu];simp [mc]
  ·simp [mc]
structure Ik (t:List Bd):Prop where
 each: ∀b∈t,b.y0<b.y1/\kX b.xs/\b.xs.length % 2=0
 ord:t.Pairwise (fun b c=>b.y1<=c.y0)
theorem fold_push: ∀(t out:List Bd),Ik t->cW out->(∀c∈out,∀b∈t,c.y1<=b.y0)->cW (t.foldl kY out)/\mc (t.foldl kY out)<=mc out+mc t/\
  ∀y,rowAt (t.foldl kY out) y=if (∃b∈t,b.y0<=y/\y<b.y1) then rowAt t y else rowAt out y
 | [],out,_,hc,_=>⟨hc,by simp [mc],fun y=>by simp⟩
 | b::t,out,hl,hc,ho=>by
  have hb:=hl.each b (by simp)
  have hord:=List.pairwise_cons.1 hl.ord
  have ho1: ∀c∈out,c.y1<=b.y0:=fun c h=>ho c h b (by simp)
  have h1:=tP hc ho1 hb.2.1 hb.2.2
  have htop:=tQ ho1 (show b.y0<=b.y1 by omega)
  obtain⟨f1,f2,f3⟩:=fold_push t (kY out b) ⟨fun c hcm=>hl.each c (jg _ hcm),hord.2⟩ h1 (fun c hcm d hd=>by have:=htop c hcm;have:=hord.1 d hd;omega)
  refine⟨f1,?_,fun y=>?_⟩
  ·have:=BS out b
   have e:mc (b::t)=b.xs.length / 2+mc t:=by simp [mc]
   rw [List.foldl_cons,e];omega
  ·rw [List.foldl_cons,f3 y,tO ho1 (fun c hcm=>(hc.each c hcm).1) (fun h=>absurd h (by omega)),kb]
   by_cases hy:b.y0<=y/\y<b.y1
   ·have hn: ¬∃c∈t,c.y0<=y/\y<c.y1:=fun⟨c,hcm,h⟩=>by have:=hord.1 c hcm;omega
    rw [aF hn,aC hy,aC ⟨b,by simp,hy⟩,aC hy]
   ·rw [aF hy]
    by_cases h: ∃c∈t,c.y0<=y/\y<c.y1
    ·obtain⟨c,hcm,h⟩:=h
     rw [aC ⟨c,hcm,h⟩,aC ⟨c,jg _ hcm,h⟩,aF hy]
    ·rw [aF h,aF hy,aF (show ¬∃c∈b::t,c.y0<=y/\y<c.y1 from fun⟨c,hcm,h2⟩=>by
      rcases eV.1 hcm with rfl | hcm
      ·exact hy h2
      ·exact h ⟨c,hcm,h2⟩)]
noncomputable def mg (C:List aG) (b:aA):Bd:=⟨b.Y0,b.Y1,nD ((uE b.Xs).filter (fun p=>decide ((⟨p.1,b.Y0,p.2,b.Y1⟩:aG)∈C)))⟩
theorem BT {l m:List (Int×Int)} (h:l.Sublist m): (nD l).Sublist (nD m):=by
 induction h with
 | slnil=>exact List.Sublist.refl _
 | cons a _ ih=>rw [lJ];exact(ih.cons _).cons _
 | cons_cons a _ ih=>rw [lJ,lJ];exact(ih.cons_cons _).cons_cons _
theorem vL (l:List (Int×Int)): (nD l).length % 2=0/\(nD l).length / 2=l.length:=by rw [Bv];omega
theorem wK {s p:List aA} {C:List aG} (hs:cW (s.map aW)) (hp:cW (p.map aW)) (hC: ∀r∈C,r∈aK s) (hcov: ∀x y,nC (p.map aW) x y=kz C x y): (aK p).length<=C.length:=by
 have hinc: ∀b∈s,kX (mg C b).xs:=fun b hb=>by
  have h1:=AE hs b hb
  have h2:=BT (List.filter_sublist (l:=uE b.Xs) (p:=fun p=>decide ((⟨p.1,b.Y0,p.2,b.Y1⟩:aG)∈C)))
  rw [sX (lZ hs b hb)] at h2
  exact List.Pairwise.sublist h2 h1
 have hlow:Ik (s.map (mg C)):=by
  refine⟨fun b hb=>?_,?_⟩
  ·obtain⟨c,hc,rfl⟩:=bV.1 hb
   exact⟨(hs.each (aW c) (bV.2 ⟨c,hc,rfl⟩)).1,hinc c hc,(vL _).1⟩
  ·have:=hs.ord
   rw [List.pairwise_map] at this ⊢
   exact List.Pairwise.imp (fun h=>h.1) this
 obtain⟨f1,f2,f3⟩:=fold_push (s.map (mg C)) [] hlow cW.nil (fun c hc=>by cases hc)
 have hrow: ∀{t:List aA},(∀b∈t,b∈s)->∀x y,lF (rowAt (t.map (mg C)) y) x=true->kz C x y=true:=by
  intro t ht x y h
  induction t with
  | nil=>cases h
  | cons b t ih=>
   rw [eF,kb] at h
   split at h
   ·rename_i hy
    have hbm:=ht b (by simp)
    have h1:=hinc b hbm
    have h:lF (nD ((uE b.Xs).filter (fun p=>decide ((⟨p.1,b.Y0,p.2,b.Y1⟩:aG)∈C)))) x=true:=h
    rw [sV h1,vj] at h
    obtain⟨q,hq,h2⟩:=h
    have hq:=il.1 hq
    exact fF.2 ⟨_,of_decide_eq_true hq.2,h2,hy⟩
   ·exact ih (fun c hc=>ht c (jg _ hc)) h
 have hrow2: ∀x y,kz C x y=true->lF (rowAt (s.map (mg C)) y) x=true:=by
  intro x y h
  obtain⟨r,hr,h1,h2⟩:=fF.1 h
  obtain⟨b,hb,q,hq,rfl⟩:=ku (hC r hr)
  dsimp only at h1 h2
  have key: ∀{t:List aA},(∀c∈t,c∈s)->cW (t.map aW)->b∈t->rowAt (t.map (mg C)) y= (mg C b).xs:=by
   intro t ht hc hbt
   induction t with
   | nil=>cases hbt
   | cons c t ih=>
    rw [eF,kb]
    by_cases hy:c.Y0<=y/\y<c.Y1
    ·rw [aC (show (mg C c).y0<=y/\y< (mg C c).y1 from hy)]
     rcases eV.1 hbt with rfl | hbt
     ·rfl
     ·have:=hc.ve (aW b) (bV.2 ⟨b,hbt,rfl⟩)
      have e1: (aW c).y1=c.Y1:=rfl
      have e2: (aW b).y0=b.Y0:=rfl
      omega
    ·rw [aF (show ¬((mg C c).y0<=y/\y< (mg C c).y1) from hy)]
     rcases eV.1 hbt with rfl | hbt
     ·exact absurd h2 hy
     ·exact ih (fun d hd=>ht d (jg _ hd)) hc.tail hbt
  rw [key (fun c hc=>hc) hs hb]
  have h1':=hinc b hb
  show lF (nD ((uE b.Xs).filter (fun p=>decide ((⟨p.1,b.Y0,p.2,b.Y1⟩:aG)∈C)))) x=true
  rw [sV h1',vj]
  exact⟨q,il.2 ⟨hq,cJ hr⟩,h1⟩
 have hsame:p.map aW= (s.map (mg C)).foldl kY []:=vg hp f1 fun x y=>by
  rw [hcov,f9]
  have e:rowAt ((s.map (mg C)).foldl kY []) y=rowAt (s.map (mg C)) y:=by
   rw [f3]
   by_cases h: ∃b∈s.map (mg C),b.y0<=y/\y<b.y1
   ·rw [aC h]
   ·rw [aF h]
    exact(jv fun b hb=>by
     have: ¬(b.y0<=y/\y<b.y1):=fun h2=>h ⟨b,hb,h2⟩
     omega).symm
  unfold nC
  rw [e]
  exact⟨hrow2 x y,hrow (fun b hb=>hb) x y⟩
 have hc1: (aK p).length=mc (p.map aW):=by
  have: ∀p:List aA,(aK p).length=mc (p.map aW):=fun p=>by
   induction p with
   | nil=>rfl
   | cons b p ih=>rw [kZ,dI,kr,ih];unfold mc;rw [eF,eF,List.sum_cons];rfl
  exact this p
 have hc2: ∀s:List aA,mc (s.map (mg C))= ((aK s).filter (fun r=>decide (r∈C))).length:=fun s=>by
  induction s with
  | nil=>rfl
  | cons b s ih=>
   rw [kZ,iP,dI,<-ih]
   unfold mc
   rw [eF,eF,List.sum_cons]
   congr 1
   show (nD _).length / 2=_
   rw [(vL _).2]
   unfold kF
   rw [List.filter_map,iE];rfl
 have hc3: ((aK s).filter (fun r=>decide (r∈C))).length<=C.length:=dT (List.Nodup.sublist List.filter_sublist (ug hs)) fun r hr=>of_decide_eq_true (il.1 hr).2
 rw [hc1,hsame]
 have e0:mc ([]:List Bd)=0:=rfl
 have:=hc2 s
 omega
end Go.Gk
namespace Go.Gk
open Go Classical
section
variable {N:Nat}
theorem D6 (hN:16<=N):cU N=some true:=by
 have:=BF (N:=N - 16)
 rwa [show N - 16+16=N by omega] at this
theorem ry {all:List aG} (w:aG->Nat): ∀(c:List Nat),((c.filterMap (fun i=>all[i]?)).map w).sum= (c.map (fun i=>(all[i]?).elim 0 w)).sum
 | []=>rfl
 | i::c=>by
  rw [eF,List.sum_cons,<-ry w c]
  cases h:all[i]? with
  | none=>rw [List.filterMap_cons_none (f:=fun i=>all[i]?) h];simp
  | some x=>rw [List.filterMap_cons_some (f:=fun i=>all[i]?) h,eF,List.sum_cons];rfl
theorem D7 {all:List aG} {u:Nat->Nat} (h: ∀i,i<all.length->u i∈bI all.length u) (w:aG->Nat): ((bI all.length u).map (fun k=>((lq all all.length u k).map w).sum)).sum= (all.map w).sum:=by
 have e: (fun k=>((lq all all.length u k).map w).sum)=fun k=>(((List.range all.length).filter (fun x=>decide (u x=k))).map (fun i=>(all[i]?).elim 0 w)).sum:=by
  funext k;unfold lq;rw [ry];rfl
 rw [e,yS (kd _ _) u _ (fun x hx=>h x (mh.1 hx))]
 have: ∀m,m<=all.length->((List.range m).map (fun i=>(all[i]?).elim 0 w)).sum= ((all.take m).map w).sum:=by
  intro m
  induction m with
  | zero=>intro _;rfl
  | succ m ih=>
   intro hm
   rw [vK,ih (by omega),gh (by omega),fC,List.sum_append,aL (by omega)]
   simp
 rw [this _ (bJ _),gv]
theorem vM: ∀{l m:List Nat},l.length=m.length->(∀(j x y:Nat),l[j]? =some x->m[j]? =some y->x<=y)->l.sum<=m.sum
 | [],[],_,_=>bJ _
 | [],_::_,h,_=>by simp at h
 | _::_,[],h,_=>by simp at h
 | a::l,b::m,h,hle=>by
  have h1:=hle 0 a b rfl rfl
  have h2:=vM (l:=l) (m:=m) (by simpa using h) fun j x y hx hy=>hle (j+1) x y (by simpa using hx) (by simpa using hy)
  rw [List.sum_cons,List.sum_cons];omega
theorem D8 {r hs:List aG} {s:List aA} (h1: ∀x∈r,eB x=true) (h2: ∀x∈hs,eB x=true) (hc:cW (s.map aW)) (hl:rX (na r++na hs) (jT r++jT hs) (s.map aW)): ∀q∈aK s,eB q=true/\q.X0<q.X1/\q.Y0<q.Y1:=by
 intro q hq
 have hp:=wJ hc q hq
 obtain⟨b,hb,p,hpm,rfl⟩:=ku hq
 have hll:=hl (aW b) (bV.2 ⟨b,hb,rfl⟩)
 have hm:=xy p hpm
 have bx: ∀c∈na r++na hs,-1000000<=c/\c<=1000000:=fun c hcm=>by
  rcases cP.1 hcm with h | h
  ·obtain⟨x,hx,h⟩:=oz.1 h
   have:=ke (h1 x hx)
   rcases h with rfl | rfl <;> omega
  ·obtain⟨x,hx,h⟩:=oz.1 h
   have:=ke (h2 x hx)
   rcases h with rfl | rfl <;> omega
 have by': ∀c∈jT r++jT hs,-1000000<=c/\c<=1000000:=fun c hcm=>by
  rcases cP.1 hcm with h | h
  ·obtain⟨x,hx,h⟩:=i9.1 h
   have:=ke (h1 x hx)
   rcases h with rfl | rfl <;> omega
  ·obtain⟨x,hx,h⟩:=i9.1 h
   have:=ke (h2 x hx)
   rcases h with rfl | rfl <;> omega
 have g1:=bx _ (hll.2.2 p.1 hm.1)
 have g2:=bx _ (hll.2.2 p.2 hm.2)
 have g3:=by' _ hll.1
 have g4:=by' _ hll.2.1
 exact⟨vC ⟨g1,g3,g2,g4⟩,hp⟩
structure o5 (r hs:List aG) (s:List aA) (u:Nat->Nat) (ps:List (List aA)):Prop where
 r1: ∀x∈r,eB x=true
 r2: ∀x∈hs,eB x=true
 k1: ∀x∈r,xv x
 k2: ∀x∈hs,xv x
 dr:qN r hs s
 pt:nE s u ps
 BM: (aK s).length<=2000
theorem o5.part {r hs:List aG} {s:List aA} {u:Nat->Nat} {ps:List (List aA)} (h:o5 r hs s u ps) {p:List aA} (hp:p∈ps):cW (p.map aW)/\(aK p).length<=2000/\∀q∈aK p,eB q=true/\q.X0<q.X1/\q.Y0<q.Y1:=by
 obtain⟨sx,sy⟩:=h.dr.small h.k1 h.k2
 obtain⟨j,k,g1,g2,g3,g4⟩:=vF h.pt h.dr.can h.dr.lim sx sy hp
 have:=wK h.dr.can g3.can (fun x hx=>by
  obtain⟨i,_,_,hi⟩:=jA.1 hx
  exact dV hi) g3.cover
 have h2:=vx (aK s) (aK s).length u k
 have:=h.BM
 exact⟨g3.can,by omega,D8 h.r1 h.r2 g3.can g4⟩
theorem o5.bI {r hs:List aG} {s:List aA} {u:Nat->Nat} {ps:List (List aA)} (h:o5 r hs s u ps): ∀i,i< (aK s).length->u i∈Gk.bI (aK s).length u:=fun i hi=>gK.2 ⟨by have:=h.pt.join.le i hi;omega,h.pt.join.rr i hi⟩
theorem o5.total {r hs:List aG} {s:List aA} {u:Nat->Nat} {ps:List (List aA)} (h:o5 r hs s u ps): (ps.map (fun p=>(aK p).length)).sum<=(aK s).length:=by
 have h1:=D7 h.bI (fun _=>1)
 have one: ∀l:List aG,(l.map (fun _=>1)).sum=l.length:=fun l=>by
  induction l with
  | nil=>rfl
  | cons x l ih=>simp only [eF,List.sum_cons,ih,kK];omega
 simp only [one] at h1
 rw [<-h1]
 refine vM (by simp [h.pt.len]) fun j x y hx hy=>?_
 rw [gZ,Option.map_eq_some_iff] at hx hy
 obtain⟨p,hp,rfl⟩:=hx
 obtain⟨k,hk,rfl⟩:=hy
 have hs:=h.pt.each j k p hk hp
 exact wK h.dr.can hs.can (fun x hx=>by
  obtain⟨i,_,_,hi⟩:=jA.1 hx
  exact dV hi) hs.cover
theorem uh {ps:List (List aA)} {x y:Int}:kz (ps.flatMap aK) x y=true↔∃p∈ps,kz (aK p) x y=true:=by
 rw [fF]
 constructor
 ·rintro⟨r,hr,h⟩
  obtain⟨p,hp,hrp⟩:=List.mem_flatMap.1 hr
  exact⟨p,hp,fF.2 ⟨r,hrp,h⟩⟩
 ·rintro⟨p,hp,h⟩
  obtain⟨r,hr,h⟩:=fF.1 h
  exact⟨r,List.mem_flatMap.2 ⟨p,hp,hr⟩,h⟩
theorem o5.cover {r hs:List aG} {s:List aA} {u:Nat->Nat} {ps:List (List aA)} (h:o5 r hs s u ps) (x y:Int):kz (ps.flatMap aK) x y=nC (s.map aW) x y:=by
 rw [<-ja h.dr.can,f9,uh]
 constructor
 ·rintro⟨p,hp,hc⟩
  obtain⟨j,hj⟩:=eG hp
  have hjl:=(aT.1 hj).1
  have hk: (Gk.bI (aK s).length u)[j]? =some ((Gk.bI (aK s).length u)[j]'(by rw [<-h.pt.len];exact hjl)):=aL _
  have hs:=h.pt.each j _ _ hk hj
  rw [ja hs.can,hs.cover] at hc
  obtain⟨q,hq,h2⟩:=fF.1 hc
  obtain⟨i,_,_,hi⟩:=jA.1 hq
  exact fF.2 ⟨q,dV hi,h2⟩
 ·intro hc
  obtain⟨q,hq,h2⟩:=fF.1 hc
  obtain⟨i,hi⟩:=eG hq
  have hil:=(aT.1 hi).1
  obtain⟨j,hj⟩:=eG (h.bI i hil)
  have hjl:j<ps.length:=by rw [h.pt.len];exact(aT.1 hj).1
  have hs:=h.pt.each j _ _ hj (aL hjl)
  refine⟨_,cT hjl,?_⟩
  rw [ja hs.can,hs.cover]
  exact fF.2 ⟨q,jA.2 ⟨i,hil,rfl,hi⟩,h2⟩
section
variable {a:eL} {jw:List (List aA)} {dM:List (List (List aA))} {r:Nat->Nat} {gs:List cL} {ofP ofB l3:List Int} {mf:List iN}
theorem qw (b:gY a jw dM r gs ofP ofB l3 mf) {i:Nat} (hi:i<a.aH.length): ∃s ps u,jw[i]? =some s/\dM[i]? =some ps/\o5 a.aH[i] (lx a.aU ((i:Nat):Int)) s u ps:=by
 have hd:jw[i]? =some (jw[i]'(by rw [b.dr.len];exact hi)):=aL _
 have hp:dM[i]? =some (dM[i]'(by rw [b.dr.xF];exact hi)):=aL _
 have hdr:=b.dr.dr i _ _ hi (aL hi) hd
 obtain⟨u,hu⟩:=b.dr.pt i _ _ hi hd hp
 have hreg:=qp.1 (b.zQ.Ii _ (cT hi))
 exact⟨_,_,u,hd,hp,fun x hx=>((nT.1 hreg.1).2 x hx).1,fun x hx=>(tf b.zQ.gb _ x hx).2,(xE hreg.1).2,fun x hx=>(tf b.zQ.gb _ x hx).1,hdr,hu,b.BM.1 _ (dV hd)⟩
end
end
end Go.Gk
namespace Go.Gk
open Go Classical
def xJ (f:Int->Int->Bool) (x y:Int):Prop:=f x y=true/\∀x' y',f x' y'=true->y<y'\/(y=y'/\x<=x')
theorem xJ.unique {f:Int->Int->Bool} {x y x' y':Int} (h:xJ f x y) (h':xJ f x' y'):x=x'/\y=y':=by
 have h1:=h.2 _ _ h'.1
 have h2:=h'.2 _ _ h.1
 omega
section
variable {N:Nat}
structure BI (all:List aG) (u:Nat->Nat) (i:Nat) (q:List Nat) (done:List Bool) (own:List aG):Prop where
 len:done.length=all.length
 nd:q.Nodup
 lt: ∀k∈q,k<all.length/\u k=i
 hd:i∈q
 dn: ∀k,k<all.length->done[k]? =some (decide (u k<i\/k∈q))
 ow:own.map some=q.map (fun k=>all[k]?)
theorem BI.BM {all:List aG} {u:Nat->Nat} {i:Nat} {q:List Nat} {done:List Bool} {own:List aG} (h:BI all u i q done own):q.length<=all.length:=by
 have:=dT h.nd (m:=List.range all.length) (fun k hk=>by rw [mh];exact(h.lt k hk).1)
 rwa [List.length_range] at this
theorem BI.at_ {all:List aG} {u:Nat->Nat} {i:Nat} {q:List Nat} {done:List Bool} {own:List aG} (h:BI all u i q done own) {p k:Nat} (hk:q[p]? =some k):own[p]? =all[k]? :=by
 have e:=congrArg (fun l=>l[p]?) h.ow
 simp only [gZ,hk,Option.map_some] at e
 cases ho:own[p]? with
 | none=>rw [ho] at e;cases e
 | some x=>rw [ho] at e;injection e
theorem BI.mem {all:List aG} {u:Nat->Nat} {i:Nat} {q:List Nat} {done:List Bool} {own:List aG} (h:BI all u i q done own) {r:aG}:r∈own↔∃k∈q,all[k]? =some r:=by
 have:r∈own↔some r∈own.map some:=by simp
 rw [this,h.ow,bV]
end
end Go.Gk
namespace Go.Gk
open Go Classical
section
variable {α β:Type}
theorem Dd {N:Nat} {l:List α} {s:β} {φ:α->β->Option Int} (c:α->Int) (hφ: ∀x,φ x s=some (c x)) (hs: ∀(i j:Nat) (x y:α),i<j->l[i]? =some x->l[j]? =some y->0<=c x->0<c y)
  (hl:l.length<=1048576) (hN:4194304<=N): ∃r,CH N l s φ=some r/\r.2=l.any (fun x=>c x==0)/\(r.2=true->r.1=Bn l (fun x=>c x==0)):=by
 show Ok (CH N l s φ) (fun r=>r.2=l.any (fun x=>c x==0)/\(r.2=true->r.1=Bn l (fun x=>c x==0)))
 unfold CH
 refine Ok.bind (Ok.mC (Go:=fun st:Int×Int=>∃a:Nat,st.1= ((a:Nat):Int)/\a<=l.length/\(∀j x,j<a->l[j]? =some x->c x<0)/\(∀j x,a<=j->l[j]? =some x->0<=c x)) (Rt:=fun _=>True)
  (fun st=>∃a b:Nat,st= (((a:Nat):Int),((b:Nat):Int))/\a<=b/\b<=l.length/\(∀j x,j<a->l[j]? =some x->c x<0)/\(∀j x,b<=j->l[j]? =some x->0<=c x))
  (fun st=>(st.2 - st.1).toNat) ?_ ⟨0,l.length,rfl,by omega,bJ _,fun j x hj=>by omega,fun j x hj hx=>by have:=(aT.1 hx).1;omega⟩ (by simp only;omega)) ?_
 ·rintro st ⟨a,b,rfl,hab,hb,h1,h2⟩
  dsimp only
  by_cases hlt:a<b
  ·have hm: (a+b) / 2<l.length:=by omega
   have hx:l[(a+b) / 2]? =some l[(a+b) / 2]:=aL hm
   rw [show decide (((a:Nat):Int)< ((b:Nat):Int))=true by rw [bT];omega,aV,Bo hlt (by omega:b<=4611686018427387904)]
   refine Ok.ix hx (Ok.eq (hφ _) ?_)
   by_cases hc:c l[(a+b) / 2]<0
   ·rw [cJ hc,aV,aB]
    refine Ok.nx ⟨⟨(a+b) / 2+1,b,?_,by omega,hb,fun j x hj hx'=>?_,h2⟩,?_⟩
    ·rw [gW (by omega)]
    ·by_cases e:j= (a+b) / 2
     ·subst e;rw [hx] at hx';injection hx' with hx';rw [<-hx'];exact hc
     ·by_cases h0:c x<0
      ·exact h0
      ·have:=hs j _ x _ (by omega) hx' hx (by omega)
       omega
    ·rw [gW (by omega)];simp only;omega
   ·rw [bU hc,bA,aB]
    refine Ok.nx ⟨⟨a,(a+b) / 2,rfl,by omega,by omega,h1,fun j x hj hx'=>?_⟩,by simp only;omega⟩
    by_cases e:j= (a+b) / 2
    ·subst e;rw [hx] at hx';injection hx' with hx';rw [<-hx'];omega
    ·have:=hs _ j _ x (by omega) hx hx' (by omega)
     omega
  ·rw [show decide (((a:Nat):Int)< ((b:Nat):Int))=false by rw [decide_eq_false_iff_not];omega,bA]
   exact Ok.br ⟨a,rfl,by omega,h1,fun j x hj hx=>h2 j x (by omega) hx⟩
 intro o ho
 refine Ok.cs ho ?_ (fun r hr=>r.elim)
 rintro⟨st1,st2⟩ ⟨a,ha,hle,h1,h2⟩
 dsimp only at ha ⊢
 subst ha
 by_cases hlt:a<l.length
 ·have hx:l[a]? =some l[a]:=aL hlt
  rw [show decide (((a:Nat):Int)< ((l.length:Nat):Int))=true by rw [bT];omega,aV,iL hx,aB,hφ,aB,aB]
  refine Ok.ret ?_
  by_cases he:c l[a]=0
  ·have hb: (c l[a]==0)=true:=by rw [beq_iff_eq];exact he
   rw [hb]
   refine⟨(jh.2 ⟨_,cT hlt,hb⟩).symm,fun _=>?_⟩
   rw [CF hx hb (fun j y hj hy=>by have:=h1 j y hj hy;rw [beq_eq_false_iff_ne];omega)]
  ·have hb: (c l[a]==0)=false:=by rw [beq_eq_false_iff_ne];exact he
   rw [hb]
   refine⟨?_,fun h=>by cases h⟩
   symm
   rw [List.any_eq_false]
   intro x hx'
   obtain⟨j,hj⟩:=eG hx'
   rw [nc,beq_eq_false_iff_ne]
   by_cases hja:j<a
   ·have:=h1 j x hja hj;omega
   ·by_cases e:j=a
    ·subst e;rw [hx] at hj;injection hj with hj;rw [<-hj];exact he
    ·have h3:=h2 a _ (bJ _) hx
     have:=hs a j _ x (by omega) hx hj h3
     omega
 ·rw [show decide (((a:Nat):Int)< ((l.length:Nat):Int))=false by rw [decide_eq_false_iff_not];omega,bA,aB]
  refine Ok.ret ⟨?_,fun h=>by cases h⟩
  symm
  rw [List.any_eq_false]
  intro x hx'
  obtain⟨j,hj⟩:=eG hx'
  have:=(aT.1 hj).1
  have:=h1 j x (by omega) hj
  rw [nc,beq_eq_false_iff_ne];omega
end
def uy (p q:fH):Prop:=dA.lt p.Part q.Part\/(p.Part=q.Part/\dA.lt p.fH q.fH)
theorem AL {p q:fH} (h1:p.Part=q.Part) (h2:p.fH=q.fH):p=q:=by cases p;cases q;simp at h1 h2;subst h1;subst h2;rfl
theorem uy.irrefl (p:fH): ¬uy p p:=fun h=>by
 rcases h with h | ⟨_,h⟩
 ·exact dA.lt_irrefl _ h
 ·exact dA.lt_irrefl _ h
theorem uy.trans {p q r:fH} (h1:uy p q) (h2:uy q r):uy p r:=by
 rcases h1 with h1 | ⟨e1,h1⟩ <;> rcases h2 with h2 | ⟨e2,h2⟩
 ·exact .inl (dA.lt_trans h1 h2)
 ·exact .inl (by rw [<-e2];exact h1)
 ·exact .inl (by rw [e1];exact h2)
 ·exact .inr ⟨e1.trans e2,dA.lt_trans h1 h2⟩
theorem uy.total (p q:fH):uy p q\/p=q\/uy q p:=by
 rcases dA.yB p.Part q.Part with h | h | h
 ·exact .inl (.inl h)
 ·rcases dA.yB p.fH q.fH with h' | h' | h'
  ·exact .inl (.inr ⟨h,h'⟩)
  ·exact .inr (.inl (AL h h'))
  ·exact .inr (.inr (.inr ⟨h.symm,h'⟩))
 ·exact .inr (.inr (.inl h))
theorem uy.asymm {p q:fH} (h:uy p q): ¬uy q p:=fun h'=>uy.irrefl p (h.trans h')
theorem uy.ne {p q:fH} (h:uy p q):p≠q:=fun e=>by subst e;exact uy.irrefl _ h
theorem oE {a b:dA}:Lib.compareBytes a.bY b.bY=0↔a=b:=⟨fun h=>dA.ext' ((rK _ _).1 h),fun h=>(rK _ _).2 (by rw [h])⟩
theorem mx {p q:fH}:iD p q=0↔p=q:=by
 unfold iD
 by_cases h:Lib.compareBytes p.Part.bY q.Part.bY=0
 ·rw [aF (by simpa using h),oE]
  exact⟨fun h'=>AL (oE.1 h) h',fun h'=>by rw [h']⟩
 ·rw [aC h]
  exact⟨fun h'=>absurd h' h,fun h'=>absurd (oE.2 (by rw [h'])) h⟩
theorem vN {p q:fH}:iD p q<0↔uy p q:=by
 unfold iD uy
 by_cases h:Lib.compareBytes p.Part.bY q.Part.bY=0
 ·rw [aF (by simpa using h),rJ]
  have e:=oE.1 h
  constructor
  ·exact fun h'=> .inr ⟨e,h'⟩
  ·rintro(h' | ⟨_,h'⟩)
   ·rw [e] at h';exact absurd h' (dA.lt_irrefl _)
   ·exact h'
 ·rw [aC h,rJ]
  constructor
  ·exact fun h'=> .inl h'
  ·rintro(h' | ⟨e,_⟩)
   ·exact h'
   ·exact absurd (oE.2 e) h
theorem rW {p q:fH}:0<iD p q↔uy q p:=by
 constructor
 ·intro h
  rcases uy.total p q with h' | h' | h'
  ·have:=vN.2 h';omega
  ·have:=mx.2 h';omega
  ·exact h'
 ·intro h
  by_cases h1:iD p q<0
  ·exact absurd (vN.1 h1) h.asymm
  ·by_cases h2:iD p q=0
   ·exact absurd (mx.1 h2).symm h.ne
   ·omega
section
variable {N:Nat}
structure zS (a:eL) (x:bW):Prop where
 name:nS x.Part=true/\isWord x.fH=true
 Db:0<=x.cY/\x.cY< ((a.aH.length:Nat):Int)
 at_:rq x.At=true
structure oF (a:eL):Prop where
 BM:a.bC.length<=1000
 each: ∀x∈a.bC,zS a x
 up:a.bC.Pairwise (fun x y=>uy (kx x) (kx y))
theorem xK {a:eL} {k:Nat} {x:bW} (hx:a.bC[k]? =some x) (h:lu a k=none):zS a x/\∀y,0<k->a.bC[k - 1]? =some y->uy (kx y) (kx x):=by
 unfold lu at h
 rw [hx,Option.bind_some] at h
 split at h
 ·rename_i h1
  split at h
  ·rename_i h2
   split at h
   ·cases h
   ·rename_i h3
    rw [bE] at h1 h2
    unfold gA at h2
    rw [bE,bT,bT] at h2
    refine⟨⟨h1,⟨by omega,by omega⟩,h2.2⟩,fun y hk hy=>?_⟩
    have h4: ¬iD (kx x) (kx y)<=0:=fun h4=>h3 ⟨hk,y,hy,h4⟩
    exact rW.1 (by omega)
  ·cases h
 ·cases h
theorem zT {a:eL} {k:Nat} {e:Int} (h:lu a k=some e):e≠0:=by
 unfold lu at h
 cases hx:a.bC[k]? with
 | none=>rw [hx] at h;cases h
 | some x=>
  rw [hx,Option.bind_some] at h
  repeat' split at h
  all_goals first | (injection h with h;omega) | cases h
theorem BU {a:eL} (h:lv a=0):oF a:=by
 unfold lv at h
 split at h
 ·omega
 rename_i hl
 have hn:sF a.bC.length (lu a)=none:=by
  cases hf:sF a.bC.length (lu a) with
  | none=>rfl
  | some e=>
   rw [hf] at h
   obtain⟨k,_,hk,_⟩:=mz.1 hf
   exact absurd h (zT hk)
 rw [lH] at hn
 have hg: ∀(k:Nat) x,a.bC[k]? =some x->zS a x/\∀y,0<k->a.bC[k - 1]? =some y->uy (kx y) (kx x):=fun k x hx=>xK hx (hn k (aT.1 hx).1)
 refine⟨by omega,fun x hx=>?_,?_⟩
 ·obtain⟨k,hk⟩:=eG hx
  exact(hg k x hk).1
 ·have hstep: ∀(n i:Nat) x y,a.bC[i]? =some x->a.bC[i+n+1]? =some y->uy (kx x) (kx y):=by
   intro n
   induction n with
   | zero=>intro i x y hx hy;exact(hg (i+1) y hy).2 x (by omega) hx
   | succ n ih=>
    intro i x y hx hy
    have hz:i+n+1<a.bC.length:=by have:=(aT.1 hy).1;omega
    have h1:=ih i x _ hx (aL hz)
    exact h1.trans ((hg (i+ (n+1)+1) y hy).2 _ (by omega) (by rw [show i+ (n+1)+1 - 1=i+n+1 by omega];exact aL hz))
  rw [kL]
  intro i j hi hj hij
  exact hstep (j - i - 1) i _ _ (aL hi) (by rw [show i+ (j - i - 1)+1=j by omega];exact aL hj)
theorem oF.inj {a:eL} (h:oF a) {i j:Nat} {x y:bW} (hx:a.bC[i]? =some x) (hy:a.bC[j]? =some y) (e:kx x=kx y):i=j:=by
 obtain⟨h1,rfl⟩:=aT.1 hx
 obtain⟨h2,rfl⟩:=aT.1 hy
 have hp:=kL.1 h.up
 rcases Nat.lt_trichotomy i j with h3 | h3 | h3
 ·exact absurd e (hp i j h1 h2 h3).ne
 ·exact h3
 ·exact absurd e.symm (hp j i h2 h1 h3).ne
theorem yT {l:List bW} {p:fH} (hu:l.Pairwise (fun x y=>uy (kx x) (kx y))) (hl:l.length<=1048576) (hN:4194304<=N) {φ:bW->fH->Option Int} (hφ: ∀x,φ x p=some (iD (kx x) p)):
  ∃r,CH N l p φ=some r/\(bif (!r.2) then (some (-1)) else (some r.1))=some (Bn l (fun x=>decide (kx x=p))):=by
 obtain⟨r,h1,h2,h3⟩:=Dd (N:=N) (l:=l) (s:=p) (φ:=φ) (fun x=>iD (kx x) p) hφ (fun i j x y hij hx hy hc=>by
  obtain⟨g1,rfl⟩:=aT.1 hx
  obtain⟨g2,rfl⟩:=aT.1 hy
  have hlt:=kL.1 hu i j g1 g2 hij
  refine rW.2 ?_
  by_cases h0:iD (kx l[i]) p=0
  ·rw [<-mx.1 h0];exact hlt
  ·exact(rW.1 (by omega)).trans hlt) hl hN
 have e: (fun x=>iD (kx x) p==0)= (fun x=>decide (kx x=p)):=by
  funext x
  rw [f9,beq_iff_eq,bT,mx]
 rw [e] at h2 h3
 refine⟨r,h1,?_⟩
 cases hr:r.2 with
 | true=>simp only [nj,bA];rw [h3 hr]
 | false=>
  simp only [qy,aV]
  rw [hr] at h2
  rw [CE h2.symm]
def wL (a:eL) (p:fH):Int:=Bn a.bC (fun x=>decide (kx x=p))
theorem qx (a:eL) (p:fH): (wL a p = -1/\∀x∈a.bC,kx x≠p)\/∃(k:Nat) (x:bW),wL a p= ((k:Nat):Int)/\a.bC[k]? =some x/\kx x=p:=by
 rcases qG a.bC (fun x=>decide (kx x=p)) with ⟨h1,h2⟩ | ⟨k,x,h1,h2,h3,_⟩
 ·exact .inl ⟨h1,fun x hx=>of_decide_eq_false (h2 x hx)⟩
 ·exact .inr ⟨k,x,h1,h2,of_decide_eq_true h3⟩
end
end Go.Gk
namespace Go.Gk
open Go Classical
section
variable {N:Nat}
theorem sq_pos {b:bH} (h:po b=true): (rY b).X0< (rY b).X1/\(rY b).Y0< (rY b).Y1:=by
 obtain⟨h1,_,_⟩:=nF h
 simp only [rY];omega
end
end Go.Gk
namespace Go.Gk
open Go Classical
section
variable {N:Nat}
theorem t5 (r:List aG) (p:iU):vG r p=kz r p.X p.Y:=by
 unfold vG kz
 congr 1
 funext x
 rw [f9]
 simp only [bE,bT,ge_iff_le,and_assoc]
end
section
variable {N:Nat} {a:eL} {jw:List (List aA)} {dM:List (List (List aA))} {r:Nat->Nat} {gs:List cL} {ofP ofB l3:List Int} {mf:List iN}
theorem vO (b:gY a jw dM r gs ofP ofB l3 mf) {p:aI} (hp:p∈bB 0 dM):p.gk.length<=2000/\(∀q∈p.gk,eB q=true/\q.X0<q.X1/\q.Y0<q.Y1)/\∃i:Nat,p.cY= ((i:Nat):Int)/\∀x y,kz p.gk x y=true->kz (lx a.aU ((i:Nat):Int)) x y=false:=by
 obtain⟨i,ps,q,h1,h2,rfl⟩:=oD hp
 have hil:i<a.aH.length:=by have:=(aT.1 h1).1;rw [b.dr.xF] at this;exact this
 obtain⟨s,ps',u,g1,g2,L⟩:=qw b hil
 rw [h1] at g2;injection g2 with g2;subst g2
 obtain⟨k1,k2,k3⟩:=L.part h2
 refine⟨k2,k3,i,by simp,fun x y h=>?_⟩
 have h3:kz (ps.flatMap aK) x y=true:=uh.2 ⟨q,h2,h⟩
 rw [L.cover,L.dr.cover,bE,Bool.not_eq_true'] at h3
 exact h3.2
end
end Go.Gk
namespace Go.Gk
open Go Classical
structure PS (n:Nat) (r:Nat->Nat) (h:Nat) (q:List Nat) (seen:List Bool) (pieces todo:List Int):Prop where
 sl:seen.length=n
 sn: ∀p,p<n->seen[p]? =some (decide (r p<h\/p∈q))
 qn:q.Nodup
 qi: ∀p∈q,p<n/\r p=h
 q0:h∈q
 td:todo=ints q
 pi:kX pieces
 pm: ∀x,x∈pieces↔∃p∈q,x= ((p:Nat):Int)
structure QS (n m:Nat) (tch:List (List Int)) (r:Nat->Nat) (h:Nat) (q qb:List Nat) (tk:List Int) (used:List Bool):Prop where
 ul:used.length=m
 un: ∀k,k<m->used[k]? =some (decide (k∈qb))
 bi:kX tk
 bm: ∀x,x∈tk↔∃k∈qb,x= ((k:Nat):Int)
 bk: ∀k∈qb,k<m/\r (n+k)=h/\∀l,tch[k]? =some l->∀p:Nat,((p:Nat):Int)∈l->p∈q
theorem PS.BM {n:Nat} {r:Nat->Nat} {h:Nat} {q:List Nat} {seen:List Bool} {pieces todo:List Int} (H:PS n r h q seen pieces todo):q.length<=n/\pieces.length<=n:=by
 have h1:=dT H.qn (m:=List.range n) (fun k hk=>by rw [mh];exact(H.qi k hk).1)
 rw [List.length_range] at h1
 have h2:=dT H.pi.nodup (m:=ints q) (fun x hx=>qs.2 ((H.pm x).1 hx))
 rw [ly] at h2
 exact⟨h1,by omega⟩
theorem QS.BM {n m:Nat} {tch:List (List Int)} {r:Nat->Nat} {h:Nat} {q qb:List Nat} {tk:List Int} {used:List Bool} (H:QS n m tch r h q qb tk used):tk.length<=m:=by
 have h2:=dT H.bi.nodup (m:=ints (List.range m)) (fun x hx=>by
  obtain⟨k,hk,e⟩:=(H.bm x).1 hx
  exact qs.2 ⟨k,mh.2 (H.bk k hk).1,e⟩)
 rwa [ly,List.length_range] at h2
section
variable {N:Nat}
end
end Go.Gk
namespace Go.Gk
open Go Classical
structure IC (G G':List cL):Prop where
 len:G'.length=G.length
 each: ∀(g:Nat) x,G[g]? =some x->∃y,G'[g]? =some y/\y.l5=x.l5/\y.aU=x.aU
section
variable {N:Nat}
end
section
variable {N:Nat} {a:eL} {jw:List (List aA)} {dM:List (List (List aA))} {r:Nat->Nat} {gs:List cL} {ofP ofB l3:List Int} {mf:List iN}
theorem gY.AH (b:gY a jw dM r gs ofP ofB l3 mf):oF a:=BU b.zQ.AH
end
end Go.Gk
namespace Go.Gk
open Go Classical
theorem xL (i:Int) {n:Nat} (hn:n<=1048576) {W:Option Bool} (hW:W=some (decide (i>=0)&&decide (i<=IntKind.wrap .i64 (((n:Nat):Int) - 1)))):
  (W=some false/\¬(0<=i/\i<n))\/(W=some true/\∃k:Nat,i= ((k:Nat):Int)/\k<n):=by
 rw [eH (by omega) (by omega)] at hW
 by_cases h:0<=i/\i<n
 ·exact .inr ⟨by rw [hW,cJ (show i>=0 from h.1),cJ (show i<=((n:Nat):Int) - 1 by omega)];rfl,i.toNat,by omega,by omega⟩
 ·refine .inl ⟨?_,h⟩
  rw [hW]
  by_cases h0:i>=0
  ·rw [bU (show ¬i<=((n:Nat):Int) - 1 by omega),Bool.and_false]
  ·rw [bU h0,Bool.false_and]
section
variable {N:Nat} {a:eL} {jw:List (List aA)} {dM:List (List (List aA))} {r:Nat->Nat} {gs:List cL} {ofP ofB l3:List Int} {mf:List iN}
end
section
variable {N:Nat}
end
end Go.Gk
namespace Go.Gk
open Go Classical
section
variable {bs:List bH} {ls:List bW} {pcs:List aI} {r:Nat->Nat} {gs:List cL} {ofP ofB l3:List Int} {mf:List iN}
end
section
variable {N:Nat} {a:eL} {jw:List (List aA)} {dM:List (List (List aA))} {r:Nat->Nat} {gs:List cL} {ofP ofB l3:List Int} {mf:List iN}
end
section
variable {N:Nat}
end
end Go.Gk
namespace Go.Gk
open Go Classical
section
variable {N:Nat} {a:eL} {jw:List (List aA)} {dM:List (List (List aA))} {r:Nat->Nat} {gs:List cL} {ofP ofB l3:List Int} {mf:List iN}
theorem wM (g:oF a) (p:fH) (hN:4398046511104<=N):jF N a p=some (wL a p):=by
 obtain⟨r,h1,h2⟩:=yT (N:=N) (p:=p) g.up (by have:=g.BM;omega) (by omega) (φ:=fX N) (fun x=>by unfold fX;rw [tX,aB,pq,aB])
 unfold jF
 have e:eA N a.bC p (fX N)=CH N a.bC p (fX N):=rfl
 rw [e,h1,aB];exact h2
end
section
variable {N:Nat}
end
end Go.Gk
namespace Go.Gk
open Go Classical
theorem zN.uniq {n m:Nat} {tch:List (List Int)} {r1 r2:Nat->Nat} (h1:zN n m tch r1) (h2:zN n m tch r2) {i j:Nat} (hi:i<n+m) (hj:j<n+m):r1 i=r1 j↔r2 i=r2 j:=by
 have key: ∀{r1 r2:Nat->Nat},zN n m tch r1->zN n m tch r2->r1 i=r1 j->r2 i=r2 j:=fun{r1 r2} h1 h2 e=>
  (h1.fi (fun x=>r2 i=r2 x) (fun a b hab=>by rw [h2.co a b hab]) i j hi hj e) rfl
 exact⟨key h1 h2,key h2 h1⟩
section
variable {N:Nat} {a:eL} {jw:List (List aA)} {dM:List (List (List aA))} {r:Nat->Nat} {gs:List cL} {ofP ofB l3:List Int} {mf:List iN}
structure ID (bs:List bH) (pcs:List aI) (ls:List bW) (r2:Nat->Nat) (j:Nat) (up:List Int) (fm:List (Int×Int)) (out:List Int):Prop where
 uf:UF (pcs.length+bs.length) up r2
 len:out.length=ls.length
 no: ∀i l,i<j->ls[i]? =some l->mV bs pcs l=none->out[i]? =some (-1)
 yes: ∀i l h,i<j->ls[i]? =some l->mV bs pcs l=some h->mY fm ((r2 (iO pcs.length h):Nat):Int)=true/\out[i]? =some (fT fm ((r2 (iO pcs.length h):Nat):Int) 0)
 low: ∀x,mY fm x=true->∃v:Nat,fT fm x 0= ((v:Nat):Int)/\v<j
 inj: ∀x y,mY fm x=true->mY fm y=true->fT fm x 0=fT fm y 0->x=y
theorem o6 (b:gY a jw dM r gs ofP ofB l3 mf) (h1:eJ N a=some (some (a.aH,a.cI,a.aU,a.bC,jw,bB 0 dM,kJ a.aU (bB 0 dM),gs,ofP,ofB,l3,mf),0)) {p:fH} {k:Nat} {x:bW} (e:wL a p= ((k:Nat):Int)) (hx:a.bC[k]? =some x) (hN:4398046511104<=N):
  cE N a p=some (match ri a.aU (bB 0 dM) r x with | some g=>(((g:Nat):Int),true,0) | none=>(0,false,0)):=by
 have ho:l3[k]? =some (Er a.aU (bB 0 dM) r x):=by rw [b.GI.l3,gZ,hx];rfl
 unfold cE
 rw [h1,aB,wM b.AH p hN]
 simp only [DF,bne_self_eq_false,bA,aB]
 rw [e,show decide (((k:Nat):Int)<0)=false from bU (by omega),bA,iL ho,aB]
 unfold Er
 cases ri a.aU (bB 0 dM) r x with
 | none=>rfl
 | some g=>
  dsimp only
  rw [show decide (((g:Nat):Int)<0)=false from bU (by omega),bA,aB]
theorem AM (b:gY a jw dM r gs ofP ofB l3 mf) {x y:bW} {h h':iN} (hx:mV a.aU (bB 0 dM) x=some h) (hy:mV a.aU (bB 0 dM) y=some h'): (ri a.aU (bB 0 dM) r x=ri a.aU (bB 0 dM) r y)↔r (iO (bB 0 dM).length h)=r (iO (bB 0 dM).length h'):=by
 have gp: ∀{z:bW} {h:iN},mV a.aU (bB 0 dM) z=some h->(live a.aU (bB 0 dM).length ((bB 0 dM).length+a.aU.length) r (bI ((bB 0 dM).length+a.aU.length) r))[gi a.aU (bB 0 dM).length ((bB 0 dM).length+a.aU.length) r (r (iO (bB 0 dM).length h))]? =some (r (iO (bB 0 dM).length h)):=by
  intro z h hz
  obtain⟨k,e,g1,g2⟩:=(C9 hz).num
  have hle:=b.GI.conn.le
  have hrr:=b.GI.conn.rr
  have hd: ∀i,i< (bB 0 dM).length+a.aU.length->r i∈bI ((bB 0 dM).length+a.aU.length) r:=fun i hi=>il.2 ⟨mh.2 (by have:=hle i hi;omega),by rw [bT];exact hrr i hi⟩
  unfold iO
  cases hB:h.bH with
  | true=>
   obtain⟨k1,k2⟩:=g1 hB
   rw [aC rfl,e,bR]
   exact(C8 (hd _ (by omega)) (Et k2 (by omega))).2
  | false=>
   have k1:=g2 hB
   rw [aF oH,e,bR]
   exact(C8 (hd _ (by omega)) (Es k1 (by omega))).2
 unfold ri
 rw [hx,hy]
 constructor
 ·intro e
  simp only [Option.map_some,Option.some.injEq] at e
  have h1:=gp hx
  have h2:=gp hy
  rw [e,h2] at h1
  injection h1 with h1;exact h1.symm
 ·intro e
  simp only [Option.map_some,Option.some.injEq]
  rw [e]
end
section
variable {N:Nat}
end
end Go.Gk
namespace Go.Gk
open Go Classical
theorem De {α:Type} {R:α->α->Prop} {l:List α} (h:l.Pairwise R) {a b:α} (ha:a∈l) (hb:b∈l):a=b\/R a b\/R b a:=by
 induction h with
 | nil=>cases ha
 | cons h1 _ ih=>
  rcases eV.1 ha with ea | ha1
  ·rcases eV.1 hb with eb | hb1
   ·exact .inl (by rw [ea,eb])
   ·rw [ea];exact .inr (.inl (h1 _ hb1))
  ·rcases eV.1 hb with eb | hb1
   ·rw [eb];exact .inr (.inr (h1 _ ha1))
   ·exact ih ha1 hb1
def atR (t:List aA) (j:Nat) (x y:Int):Prop:=∃R:aG,(aK t)[j]? =some R/\R.X0<=x/\x<R.X1/\R.Y0<=y/\y<R.Y1
section
variable {s t:List aA} {x y:Int} {i j:Nat} {u:Nat->Nat}
theorem lA (h:cW (t.map aW)):nC (t.map aW) x y=true↔∃j,atR t j x y:=by
 rw [<-ja h,fF]
 constructor
 ·rintro⟨R,hR,⟨h1,h2⟩,h3,h4⟩
  obtain⟨j,hj⟩:=eG hR
  exact⟨j,R,hj,h1,h2,h3,h4⟩
 ·rintro⟨j,R,hj,h1,h2,h3,h4⟩
  exact⟨R,dV hj,⟨h1,h2⟩,h3,h4⟩
theorem oG (h:atR t j x y): ∃b∈t,∃q∈uE b.Xs,(aK t)[j]? =some ⟨q.1,b.Y0,q.2,b.Y1⟩/\q.1<=x/\x<q.2/\b.Y0<=y/\y<b.Y1:=by
 obtain⟨R,hj,h1,h2,h3,h4⟩:=h
 obtain⟨b,hb,q,hq,rfl⟩:=ku (dV hj)
 exact⟨b,hb,q,hq,hj,h1,h2,h3,h4⟩
theorem xM (h:cW (t.map aW)) {b c:aA} (hb:b∈t) (hc:c∈t):b=c\/b.Y1<=c.Y0\/c.Y1<=b.Y0:=by
 have h1:t.Pairwise (fun b c=>b.Y1<=c.Y0):=(List.pairwise_map.1 h.ord).imp fun h=>h.1
 exact De h1 hb hc
theorem xN (h:cW (t.map aW)) {b:aA} (hb:b∈t) {p q:Int×Int} (hp:p∈uE b.Xs) (hq:q∈uE b.Xs):p=q\/p.2<q.1\/q.2<p.1:=
 De (o4 (h.each (aW b) (bV.2 ⟨b,hb,rfl⟩)).2.2.1) hp hq
theorem tn (h:cW (t.map aW)) (h1:atR t i x y) (h2:atR t j x y):i=j:=by
 obtain⟨b,hb,p,hp,e1,a1,a2,a3,a4⟩:=oG h1
 obtain⟨c,hc,q,hq,e2,b1,b2,b3,b4⟩:=oG h2
 have e:b=c:=by rcases xM h hb hc with e | e | e;exact e;omega;omega
 subst e
 have e:p=q:=by rcases xN h hb hp hq with e | e | e;exact e;omega;omega
 subst e
 have hi:=(aT.1 e1).1
 have hj:=(aT.1 e2).1
 have:=(List.getElem_inj (h₀:=hi) (h₁:=hj) (ug h)).1 (by rw [(aT.1 e1).2,(aT.1 e2).2])
 exact this
theorem BV (h:cW (t.map aW)) (h1:atR t j x y) (h2:nC (t.map aW) (x+1) y=true):atR t j (x+1) y:=by
 obtain⟨k,hk⟩:=(lA h).1 h2
 obtain⟨b,hb,p,hp,e1,a1,a2,a3,a4⟩:=oG h1
 obtain⟨c,hc,q,hq,e2,b1,b2,b3,b4⟩:=oG hk
 have e:b=c:=by rcases xM h hb hc with e | e | e;exact e;omega;omega
 subst e
 have e:p=q:=by rcases xN h hb hp hq with e | e | e;exact e;omega;omega
 subst e
 exact⟨_,e1,b1,b2,a3,a4⟩
theorem yU (h:cW (t.map aW)) (hu:Joined (aK t) u) (h1:atR t i x y) (h2:atR t j x (y+1)):u i=u j:=by
 obtain⟨b,hb,p,hp,e1,a1,a2,a3,a4⟩:=oG h1
 obtain⟨c,hc,q,hq,e2,b1,b2,b3,b4⟩:=oG h2
 rcases xM h hb hc with e | e | e
 ·subst e
  have e:p=q:=by rcases xN h hb hp hq with e | e | e;exact e;omega;omega
  subst e
  rw [tn h (x:=x) (y:=y) ⟨_,e1,a1,a2,a3,a4⟩ ⟨_,e2,b1,b2,a3,a4⟩]
 ·exact hu.co i j ⟨_,_,e1,e2,by show b.Y1=c.Y0;omega,by show p.1<q.2;omega,by show q.1<p.2;omega⟩
 ·omega
theorem AO (h:cW (t.map aW)) (h1:atR t j x y): ∀(n:Nat),(∀m:Nat,m<=n->nC (t.map aW) (x+m) y=true)->atR t j (x+n) y
 | 0,_=>by simpa using h1
 | n+1,hm=>by
  have h2:=AO h h1 n fun m hm'=>hm m (by omega)
  have h3:=hm (n+1) (by omega)
  have e:x+ ((n+1:Nat):Int)=x+ ((n:Nat):Int)+1:=by omega
  rw [e] at h3 ⊢
  exact BV h h2 h3
theorem Df (h:cW (t.map aW)) (hu:Joined (aK t) u) {X0 Y0 X1 Y1:Int} (hc: ∀x y,X0<=x->x<X1->Y0<=y->y<Y1->nC (t.map aW) x y=true) {x' y':Int} (hx:X0<=x/\x<X1/\Y0<=y/\y<Y1) (hx':X0<=x'/\x'<X1/\Y0<=y'/\y'<Y1) (h1:atR t i x y) (h2:atR t j x' y'):u i=u j:=by
 have row: ∀{x y:Int} {i k:Nat},X0<=x->x<X1->Y0<=y->y<Y1->atR t i x y->atR t k X0 y->i=k:=fun{x y i k} g1 g2 g3 g4 ha hb=>by
  have:=AO h hb (x - X0).toNat fun m hm=>hc _ _ (by omega) (by omega) g3 g4
  rw [show X0+ (((x - X0).toNat:Nat):Int)=x by omega] at this
  exact tn h ha this
 have col: ∀(n:Nat) {k l:Nat},Y0+n<Y1->atR t k X0 Y0->atR t l X0 (Y0+n)->u k=u l:=by
  intro n
  induction n with
  | zero=>intro k l _ ha hb;rw [tn h ha (by simpa using hb)]
  | succ n ih=>
   intro k l hn ha hb
   obtain⟨m,hm⟩:=(lA h).1 (hc X0 (Y0+n) (by omega) (by omega) (by omega) (by omega))
   rw [ih (by omega) ha hm]
   have e:Y0+ ((n+1:Nat):Int)=Y0+ ((n:Nat):Int)+1:=by omega
   rw [e] at hb
   exact yU h hu hm hb
 obtain⟨k0,h0⟩:=(lA h).1 (hc X0 Y0 (by omega) (by omega) (by omega) (by omega))
 have one: ∀{x y:Int} {i:Nat},X0<=x->x<X1->Y0<=y->y<Y1->atR t i x y->u k0=u i:=fun{x y i} g1 g2 g3 g4 ha=>by
  obtain⟨k,hk⟩:=(lA h).1 (hc X0 y (by omega) (by omega) g3 g4)
  rw [row g1 g2 g3 g4 ha hk]
  have e:Y0+ (((y - Y0).toNat:Nat):Int)=y:=by omega
  exact col (y - Y0).toNat (by omega) h0 (by rw [e];exact hk)
 rw [<-one hx.1 hx.2.1 hx.2.2.1 hx.2.2.2 h1,one hx'.1 hx'.2.1 hx'.2.2.1 hx'.2.2.2 h2]
theorem yV (hs:cW (s.map aW)) (ht:cW (t.map aW)) (hsub: ∀x y,nC (s.map aW) x y=true->nC (t.map aW) x y=true) {v:Nat->Nat} (hu:Joined (aK s) u) (hv:Joined (aK t) v)
  {i' j':Nat} {x' y':Int} (h1:atR s i x y) (h2:atR s i' x' y') (he:u i=u i') (g1:atR t j x y) (g2:atR t j' x' y'):v j=v j':=by
 have cov_in: ∀{k:Nat} {R:aG},(aK s)[k]? =some R->∀x y,R.X0<=x->x<R.X1->R.Y0<=y->y<R.Y1->nC (t.map aW) x y=true:=fun{k R} hk x y a1 a2 a3 a4=>hsub x y ((lA hs).2 ⟨k,R,hk,a1,a2,a3,a4⟩)
 have same: ∀{k:Nat} {R:aG} {x y x' y':Int} {a b:Nat},(aK s)[k]? =some R->(R.X0<=x/\x<R.X1/\R.Y0<=y/\y<R.Y1)->(R.X0<=x'/\x'<R.X1/\R.Y0<=y'/\y'<R.Y1)->atR t a x y->atR t b x' y'->v a=v b:=fun{k R x y x' y' a b} hk hx hx' ha hb=>
  Df ht hv (cov_in hk) hx hx' ha hb
 obtain⟨R,hR,r1,r2,r3,r4⟩:=h1
 obtain⟨R',hR',r1',r2',r3',r4'⟩:=h2
 have hi:=(aT.1 hR).1
 have hi':=(aT.1 hR').1
 refine hu.fi (fun k=>∀(Q:aG) (x' y':Int) (b:Nat),(aK s)[k]? =some Q->(Q.X0<=x'/\x'<Q.X1/\Q.Y0<=y'/\y'<Q.Y1)->atR t b x' y'->v j=v b) (fun k l hkl=>?_) i i' hi hi' he (fun Q x' y' b hQ hx hb=>?_) R' x' y' j' hR' ⟨r1',r2',r3',r4'⟩ g2
 ·obtain⟨a,c,ha,hc,ht1,ht2,ht3⟩:=hkl
  obtain⟨b1,hb1,p1,hp1,ea⟩:=ku (dV ha)
  obtain⟨b2,hb2,p2,hp2,ec⟩:=ku (dV hc)
  have k1:=(hs.each (aW b1) (bV.2 ⟨b1,hb1,rfl⟩))
  have k2:=(hs.each (aW b2) (bV.2 ⟨b2,hb2,rfl⟩))
  have l1:=vl k1.2.2.1 p1 hp1
  have l2:=vl k2.2.2.1 p2 hp2
  have y1:b1.Y0<b1.Y1:=k1.1
  have y2:b2.Y0<b2.Y1:=k2.1
  have za:a.X0<a.X1/\a.Y0<a.Y1:=by rw [ea];exact⟨l1,y1⟩
  have zc:c.X0<c.X1/\c.Y0<c.Y1:=by rw [ec];exact⟨l2,y2⟩
  have hx0: ∃z:Int,a.X0<=z/\z<a.X1/\c.X0<=z/\z<c.X1:=by
   by_cases h:a.X0<=c.X0
   ·exact⟨c.X0,by omega,by omega,by omega,by omega⟩
   ·exact⟨a.X0,by omega,by omega,by omega,by omega⟩
  obtain⟨z,z1,z2,z3,z4⟩:=hx0
  obtain⟨m1,n1⟩:=(lA ht).1 (cov_in ha z (a.Y1 - 1) z1 z2 (by omega) (by omega))
  obtain⟨m2,n2⟩:=(lA ht).1 (cov_in hc z c.Y0 z3 z4 (by omega) (by omega))
  have hm:v m1=v m2:=yU ht hv n1 (by rw [show a.Y1 - 1+1=c.Y0 by omega];exact n2)
  constructor
  ·intro hS Q x' y' b hQ hx hb
   rw [hc] at hQ;injection hQ with hQ;subst hQ
   rw [hS a z (a.Y1 - 1) m1 ha ⟨z1,z2,by omega,by omega⟩ n1,hm]
   exact same hc ⟨z3,z4,by omega,by omega⟩ hx n2 hb
  ·intro hS Q x' y' b hQ hx hb
   rw [ha] at hQ;injection hQ with hQ;subst hQ
   rw [hS c z c.Y0 m2 hc ⟨z3,z4,by omega,by omega⟩ n2,<-hm]
   exact same ha ⟨z1,z2,by omega,by omega⟩ hx n1 hb
 ·rw [hR] at hQ;injection hQ with hQ;subst hQ
  exact same hR ⟨r1,r2,r3,r4⟩ hx g1 hb
end
end Go.Gk
namespace Go.Gk
open Go Classical
theorem zU {s:List aA} (hs:cW (s.map aW)) {u:Nat->Nat} {ps:List (List aA)} (h:nE s u ps):ps.Pairwise (fun p q=>∀x y,kz (aK p) x y=true->kz (aK q) x y=false):=by
 rw [kL]
 intro i j hi hj hij x y hx
 have e1:ps[i]? =some ps[i]:=aL hi
 have e2:ps[j]? =some ps[j]:=aL hj
 have g1: (bI (aK s).length u)[i]? =some ((bI (aK s).length u)[i]'(by rw [<-h.len];exact hi)):=aL _
 have g2: (bI (aK s).length u)[j]? =some ((bI (aK s).length u)[j]'(by rw [<-h.len];exact hj)):=aL _
 have k1:=h.each i _ _ g1 e1
 have k2:=h.each j _ _ g2 e2
 rw [Bool.eq_false_iff]
 intro hy
 rw [ja k1.can,k1.cover,fF] at hx
 rw [ja k2.can,k2.cover,fF] at hy
 obtain⟨R,hR,⟨a1,a2⟩,a3,a4⟩:=hx
 obtain⟨R',hR',⟨b1,b2⟩,b3,b4⟩:=hy
 obtain⟨m,m1,m2,m3⟩:=jA.1 hR
 obtain⟨m',n1,n2,n3⟩:=jA.1 hR'
 have:m=m':=tn hs ⟨R,m3,a1,a2,a3,a4⟩ ⟨R',n3,b1,b2,b3,b4⟩
 subst this
 have hne:=(kL.1 (kd (aK s).length u)) i j (by rw [<-h.len];exact hi) (by rw [<-h.len];exact hj) hij
 exact hne (by rw [<-m2,<-n2])
theorem vP: ∀(dM:List (List (List aA))) (k:Nat),(∀ps∈dM,ps.Pairwise (fun p q=>∀x y,kz (aK p) x y=true->kz (aK q) x y=false))->(bB k dM).Pairwise (fun p q=>p.cY=q.cY->∀x y,kz p.gk x y=true->kz q.gk x y=false)
 | [],_,_=>kg
 | ps::r,k,h=>by
  show (ps.map (fun p=>(⟨((k:Nat):Int),p,aK p⟩:aI))++bB (k+1) r).Pairwise _
  rw [List.pairwise_append]
  refine⟨?_,vP r (k+1) (fun q hq=>h q (jg _ hq)),fun p hp q hq e=>?_⟩
  ·rw [List.pairwise_map]
   exact(h ps (by simp)).imp (fun{p q} h (_: ((k:Nat):Int)= ((k:Nat):Int))=>h)
  ·obtain⟨p',_,rfl⟩:=bV.1 hp
   obtain⟨i,_,_,_,_,rfl⟩:=oD hq
   have e: ((k:Nat):Int)= ((k+1+i:Nat):Int):=e
   omega
theorem vQ: ∀{dM:List (List (List aA))} {k i:Nat} {ps:List (List aA)} {q:List aA},dM[i]? =some ps->q∈ps->(⟨((k+i:Nat):Int),q,aK q⟩:aI)∈bB k dM
 | [],_,i,_,_,h,_=>by simp at h
 | ps0::r,k,0,ps,q,h,hq=>by
  injection h with h;subst h
  show _∈ps0.map _++_
  exact List.mem_append_left _ (bV.2 ⟨q,hq,rfl⟩)
 | ps0::r,k,i+1,ps,q,h,hq=>by
  have:=vQ (k:=k+1) (dM:=r) (i:=i) (by simpa using h) hq
  show _∈ps0.map _++bB (k+1) r
  rw [show k+ (i+1)=k+1+i by omega]
  exact List.mem_append_right _ this
section
variable {N:Nat} {a:eL} {jw:List (List aA)} {dM:List (List (List aA))} {r:Nat->Nat} {gs:List cL} {ofP ofB l3:List Int} {mf:List iN}
theorem zV (b:gY a jw dM r gs ofP ofB l3 mf): (bB 0 dM).Pairwise (fun p q=>p.cY=q.cY->∀x y,kz p.gk x y=true->kz q.gk x y=false):=
 vP dM 0 fun ps hps=>by
  obtain⟨i,hi⟩:=eG hps
  have hil:i<a.aH.length:=by have:=(aT.1 hi).1;rw [b.dr.xF] at this;exact this
  obtain⟨s,ps',u,g1,g2,L⟩:=qw b hil
  rw [hi] at g2;injection g2 with g2;subst g2
  exact zU L.dr.can L.pt
theorem zW (b:gY a jw dM r gs ofP ofB l3 mf) {k k':Nat} {p q:aI} (hp: (bB 0 dM)[k]? =some p) (hq: (bB 0 dM)[k']? =some q) (hl:p.cY=q.cY) {x y:Int} (hx:kz p.gk x y=true) (hy:kz q.gk x y=true):k=k':=by
 have hk:=aT.1 hp
 have hk':=aT.1 hq
 have h:=kL.1 (zV b)
 rcases Nat.lt_trichotomy k k' with e | e | e
 ·have:=h k k' hk.1 hk'.1 e (by rw [hk.2,hk'.2];exact hl) x y (by rw [hk.2];exact hx)
  rw [hk'.2,hy] at this;cases this
 ·exact e
 ·have:=h k' k hk'.1 hk.1 e (by rw [hk.2,hk'.2];exact hl.symm) x y (by rw [hk'.2];exact hy)
  rw [hk.2,hx] at this;cases this
theorem ui (b:gY a jw dM r gs ofP ofB l3 mf) {i:Nat} (hi:i<a.aH.length): ∃s u,jw[i]? =some s/\cW (s.map aW)/\Joined (aK s) u/\
  (∀x y m,atR s m x y->∃(k:Nat) (p:aI),(bB 0 dM)[k]? =some p/\p.cY= ((i:Nat):Int)/\(∀x' y',kz p.gk x' y'=true↔∃m',atR s m' x' y'/\u m'=u m))/\
  ∀(k:Nat) (p:aI),(bB 0 dM)[k]? =some p->p.cY= ((i:Nat):Int)->∃h,∀x y,kz p.gk x y=true↔∃m,atR s m x y/\u m=h:=by
 obtain⟨s,ps,u,g1,g2,L⟩:=qw b hi
 have one: ∀(j h:Nat) (q:List aA),(bI (aK s).length u)[j]? =some h->ps[j]? =some q->∀x y,kz (aK q) x y=true↔∃m,atR s m x y/\u m=h:=fun j h q hj hq x y=>by
  have k1:=L.pt.each j h q hj hq
  rw [ja k1.can,k1.cover,fF]
  constructor
  ·rintro⟨R,hR,⟨a1,a2⟩,a3,a4⟩
   obtain⟨m,m1,m2,m3⟩:=jA.1 hR
   exact⟨m,⟨R,m3,a1,a2,a3,a4⟩,m2⟩
  ·rintro⟨m,⟨R,m3,a1,a2,a3,a4⟩,m2⟩
   exact⟨R,jA.2 ⟨m,(aT.1 m3).1,m2,m3⟩,⟨a1,a2⟩,a3,a4⟩
 refine⟨s,u,g1,L.dr.can,L.pt.join,fun x y m hm=>?_,fun k p hk hl=>?_⟩
 ·obtain⟨R,hR,_⟩:=hm
  have hml:=(aT.1 hR).1
  have hle:=L.pt.join.le m hml
  have hh:u m∈bI (aK s).length u:=gK.2 ⟨by omega,L.pt.join.rr m hml⟩
  obtain⟨j,hj⟩:=eG hh
  have hjl:j<ps.length:=by rw [L.pt.len];exact(aT.1 hj).1
  have hq:ps[j]? =some ps[j]:=aL hjl
  have hmem:=vQ (k:=0) g2 (cT hjl)
  obtain⟨k,hk⟩:=eG hmem
  exact⟨k,_,hk,by show ((0+i:Nat):Int)=_;rw [fD],fun x' y'=>one j _ _ hj hq x' y'⟩
 ·obtain⟨i',ps',q,h1,h2,rfl⟩:=oD (dV hk)
  have e:i'=i:=by have: ((0+i':Nat):Int)= ((i:Nat):Int):=hl;omega
  subst e
  rw [g2] at h1;injection h1 with h1;subst h1
  obtain⟨j,hj⟩:=eG h2
  have hjl:=(aT.1 hj).1
  have g: (bI (aK s).length u)[j]? =some ((bI (aK s).length u)[j]'(by rw [<-L.pt.len];exact hjl)):=aL _
  exact⟨_,fun x y=>one j _ _ g hj x y⟩
end
end Go.Gk
namespace Go.Gk
open Go Classical
theorem yW {R S:aG} {l:List aG} (hS:S.X0<S.X1/\S.Y0<S.Y1) (hR:R.X0<R.X1/\R.Y0<R.Y1) (h:o0 R S=true) (hc: ∀x y,R.X0<=x->x<R.X1->R.Y0<=y->y<R.Y1->kz l x y=true)
  (hno: ∀x y,kz l x y=true->¬(S.X0<=x/\x<S.X1/\S.Y0<=y/\y<S.Y1)):l.any (fun r=>o0 r S)=true:=by
 rw [jh]
 have pick: ∀x y,R.X0<=x->x<R.X1->R.Y0<=y->y<R.Y1->∃Q∈l,Q.X0<=x/\x<Q.X1/\Q.Y0<=y/\y<Q.Y1:=fun x y h1 h2 h3 h4=>by
  obtain⟨Q,hQ,⟨a1,a2⟩,a3,a4⟩:=fF.1 (hc x y h1 h2 h3 h4)
  exact⟨Q,hQ,a1,a2,a3,a4⟩
 have out: ∀{Q:aG},Q∈l->∀x y,Q.X0<=x->x<Q.X1->Q.Y0<=y->y<Q.Y1->¬(S.X0<=x/\x<S.X1/\S.Y0<=y/\y<S.Y1):=fun{Q} hQ x y h1 h2 h3 h4=>hno x y (fF.2 ⟨Q,hQ,⟨h1,h2⟩,h3,h4⟩)
 unfold o0 at h
 simp only [dC,bE,bT,beq_iff_eq] at h
 have fin: ∀{Q:aG},Q∈l->(((Q.X0<S.X1/\S.X0<Q.X1)/\(Q.Y1=S.Y0\/S.Y1=Q.Y0))\/((Q.Y0<S.Y1/\S.Y0<Q.Y1)/\(Q.X1=S.X0\/S.X1=Q.X0)))->∃r∈l,o0 r S=true:=fun{Q} hQ h=>⟨Q,hQ,by
  unfold o0
  simp only [dC,bE,bT,beq_iff_eq]
  exact h⟩
 rcases h with ⟨⟨h1,h2⟩,h3⟩ | ⟨⟨h1,h2⟩,h3⟩
 ·obtain⟨z,z1,z2,z3,z4⟩: ∃z:Int,R.X0<=z/\z<R.X1/\S.X0<=z/\z<S.X1:=by
   by_cases h:R.X0<=S.X0
   ·exact⟨S.X0,by omega,by omega,by omega,by omega⟩
   ·exact⟨R.X0,by omega,by omega,by omega,by omega⟩
  rcases h3 with h3 | h3
  ·obtain⟨Q,hQ,a1,a2,a3,a4⟩:=pick z (S.Y0 - 1) z1 z2 (by omega) (by omega)
   refine fin hQ (.inl ⟨⟨by omega,by omega⟩, .inl ?_⟩)
   by_cases e:Q.Y1=S.Y0
   ·exact e
   ·exact absurd ⟨z3,z4,by omega,by omega⟩ (out hQ z S.Y0 a1 a2 (by omega) (by omega))
  ·obtain⟨Q,hQ,a1,a2,a3,a4⟩:=pick z S.Y1 z1 z2 (by omega) (by omega)
   refine fin hQ (.inl ⟨⟨by omega,by omega⟩, .inr ?_⟩)
   by_cases e:S.Y1=Q.Y0
   ·exact e
   ·exact absurd ⟨z3,z4,by omega,by omega⟩ (out hQ z (S.Y1 - 1) a1 a2 (by omega) (by omega))
 ·obtain⟨z,z1,z2,z3,z4⟩: ∃z:Int,R.Y0<=z/\z<R.Y1/\S.Y0<=z/\z<S.Y1:=by
   by_cases h:R.Y0<=S.Y0
   ·exact⟨S.Y0,by omega,by omega,by omega,by omega⟩
   ·exact⟨R.Y0,by omega,by omega,by omega,by omega⟩
  rcases h3 with h3 | h3
  ·obtain⟨Q,hQ,a1,a2,a3,a4⟩:=pick (S.X0 - 1) z (by omega) (by omega) z1 z2
   refine fin hQ (.inr ⟨⟨by omega,by omega⟩, .inl ?_⟩)
   by_cases e:Q.X1=S.X0
   ·exact e
   ·exact absurd ⟨by omega,by omega,z3,z4⟩ (out hQ S.X0 z (by omega) (by omega) a3 a4)
  ·obtain⟨Q,hQ,a1,a2,a3,a4⟩:=pick S.X1 z (by omega) (by omega) z1 z2
   refine fin hQ (.inr ⟨⟨by omega,by omega⟩, .inr ?_⟩)
   by_cases e:S.X1=Q.X0
   ·exact e
   ·exact absurd ⟨by omega,by omega,z3,z4⟩ (out hQ (S.X1 - 1) z (by omega) (by omega) a3 a4)
section
variable {N:Nat} {cs cs':List (List aG)} {o:List aG} {bs:List bH} {ls:List bW} {jw drl':List (List aA)} {dM pss':List (List (List aA))} {r r':Nat->Nat} {gs gs':List cL} {ofP ofB l3 ofP' ofB' ofL':List Int} {mf atL':List iN}
theorem yX (b:gY ⟨cs,o,bs,ls⟩ jw dM r gs ofP ofB l3 mf) (b':gY ⟨cs',o,bs,ls⟩ drl' pss' r' gs' ofP' ofB' ofL' atL') (hlen:cs'.length=cs.length)
  (hsub: ∀(i:Nat) s t,jw[i]? =some s->drl'[i]? =some t->∀x y,nC (s.map aW) x y=true->nC (t.map aW) x y=true) {k:Nat} {p:aI} (hk: (bB 0 dM)[k]? =some p):
  ∃(k':Nat) (q:aI),(bB 0 pss')[k']? =some q/\q.cY=p.cY/\∀x y,kz p.gk x y=true->kz q.gk x y=true:=by
 obtain⟨i,_,_,_,_,_,_,hP⟩:=yQ b.zQ b.dr (dV hk)
 have hi:i<cs.length:=(aT.1 hP.Ij).1
 obtain⟨s,u,d1,d2,d3,_,d5⟩:=ui b (i:=i) hi
 obtain⟨t,v,e1,e2,e3,e4,_⟩:=ui b' (i:=i) (by show i<cs'.length;omega)
 obtain⟨h,hh⟩:=d5 k p hk hP.Db
 obtain⟨q0,l0,f1,_⟩: ∃q0 l0,p.gk=q0::l0/\True:=by
  cases hr:p.gk with
  | nil=>
   exfalso
   have hne:=hP.ne
   have hm:=hP.Eu
   rw [hr] at hm
   obtain⟨b0,hb0⟩:=List.exists_mem_of_ne_nil _ hne
   have hx:=(hP.set.can.each (aW b0) (bV.2 ⟨b0,hb0,rfl⟩))
   have hcv:=ja hP.set.can
   have hev:=lZ hP.set.can b0 hb0
   have hxs:b0.Xs≠[]:=hx.2.1
   cases hbx:b0.Xs with
   | nil=>exact hxs hbx
   | cons x xs=>
    cases xs with
    | nil=>rw [hbx] at hev;cases hev
    | cons y ys=>
     have: (⟨x,b0.Y0,y,b0.Y1⟩:aG)∈aK p.Set:=by
      unfold aK kF
      refine List.mem_flatMap.2 ⟨b0,hb0,bV.2 ⟨(x,y),by rw [hbx];unfold uE;simp,rfl⟩⟩
     rw [<-hm] at this;cases this
  | cons q0 l0=>exact⟨q0,l0,rfl,trivial⟩
 have hq0:q0∈p.gk:=by rw [f1];simp
 obtain⟨_,hpos,_⟩:=vO b (dV hk)
 obtain⟨_,w1,w2⟩:=hpos q0 hq0
 have hcov:kz p.gk q0.X0 q0.Y0=true:=fF.2 ⟨q0,hq0,⟨Int.le_refl _,w1⟩,Int.le_refl _,w2⟩
 obtain⟨m0,m1,m2⟩:=(hh _ _).1 hcov
 obtain⟨n0,n1⟩:=(lA e2).1 (hsub i s t d1 e1 _ _ ((lA d2).2 ⟨m0,m1⟩))
 obtain⟨k',q,g1,g2,g3⟩:=e4 _ _ _ n1
 refine⟨k',q,g1,by rw [g2,hP.Db],fun x y hx=>?_⟩
 obtain⟨m,a1,a2⟩:=(hh x y).1 hx
 obtain⟨n,c1⟩:=(lA e2).1 (hsub i s t d1 e1 _ _ ((lA d2).2 ⟨m,a1⟩))
 exact(g3 x y).2 ⟨n,c1,(yV d2 e2 (hsub i s t d1 e1) d3 e3 m1 a1 (by rw [m2,a2]) n1 c1).symm⟩
theorem BW (b:gY ⟨cs,o,bs,ls⟩ jw dM r gs ofP ofB l3 mf) (b':gY ⟨cs',o,bs,ls⟩ drl' pss' r' gs' ofP' ofB' ofL' atL') (hlen:cs'.length=cs.length)
  (hsub: ∀(i:Nat) s t,jw[i]? =some s->drl'[i]? =some t->∀x y,nC (s.map aW) x y=true->nC (t.map aW) x y=true) {l l':bW} {h h':iN} (hl:mV bs (bB 0 dM) l=some h) (hl':mV bs (bB 0 dM) l'=some h') (he:r (iO (bB 0 dM).length h)=r (iO (bB 0 dM).length h')):
  ∃g g',mV bs (bB 0 pss') l=some g/\mV bs (bB 0 pss') l'=some g'/\r' (iO (bB 0 pss').length g)=r' (iO (bB 0 pss').length g'):=by
 have hφ: ∃φ:Nat->Nat,(∀k,k< (bB 0 dM).length->∃(p q:aI),(bB 0 dM)[k]? =some p/\(bB 0 pss')[φ k]? =some q/\q.cY=p.cY/\∀x y,kz p.gk x y=true->kz q.gk x y=true)/\∀k,φ ((bB 0 dM).length+k)= (bB 0 pss').length+k:=by
  refine⟨fun k=>if hk:k< (bB 0 dM).length then Classical.choose (yX b b' hlen hsub (aL hk)) else (bB 0 pss').length+ (k - (bB 0 dM).length),fun k hk=>?_,fun k=>?_⟩
  ·dsimp only
   rw [dif_pos hk]
   obtain⟨q,h1,h2,h3⟩:=Classical.choose_spec (yX b b' hlen hsub (aL hk))
   exact⟨_,q,aL hk,h1,h2,h3⟩
  ·dsimp only
   rw [dif_neg (by omega)];omega
 obtain⟨φ,f1,f2⟩:=hφ
 have lk: ∀i j,Lk (bB 0 dM).length (kJ bs (bB 0 dM)) i j->Lk (bB 0 pss').length (kJ bs (bB 0 pss')) (φ i) (φ j):=by
  rintro i j ⟨k,t,h1,h2,rfl⟩
  unfold kJ at h1
  rw [gZ] at h1
  cases hb:bs[k]? with
  | none=>rw [hb] at h1;cases h1
  | some x=>
   rw [hb] at h1;injection h1 with h1;subst h1
   obtain⟨i2,h3,h4⟩:=qs.1 h2
   have:i2=i:=by omega
   subst this
   obtain⟨h5,h6⟩:=tZ.1 h3
   obtain⟨p,q,g1,g2,g3,g4⟩:=f1 i2 h5
   rw [g1] at h6
   have h6:jd x p=true:=h6
   suffices key:jd x q=true by
    exact⟨k,ints (pr (jd x) (bB 0 pss') (bB 0 pss').length),by unfold kJ;rw [gZ,hb];rfl,qs.2 ⟨φ i2,tZ.2 ⟨(aT.1 g2).1,by rw [g2];exact key⟩,rfl⟩,f2 k⟩
   unfold jd at h6 ⊢
   rw [bE,bE] at h6
   rw [g3,h6.1,h6.2.1,Bool.true_and,Bool.true_and]
   obtain⟨R,hR,hbs⟩:=jh.1 h6.2.2
   have hx:x∈bs:=dV hb
   have hfine:=(b.zQ.gb.ok x hx).1
   obtain⟨_,hpos,_⟩:=vO b (dV g1)
   obtain⟨_,w1,w2⟩:=hpos R hR
   obtain⟨_,_,i3,e3,hno⟩:=vO b' (dV g2)
   refine yW (sq_pos hfine) ⟨w1,w2⟩ hbs (fun z y a1 a2 a3 a4=>g4 z y (fF.2 ⟨R,hR,⟨a1,a2⟩,a3,a4⟩)) (fun z y hz hin=>?_)
   have hh:kz (lx bs ((i3:Nat):Int)) z y=true:=by
    refine fF.2 ⟨rY x,?_,⟨hin.1,hin.2.1⟩,hin.2.2.1,hin.2.2.2⟩
    unfold lx
    refine bV.2 ⟨x,il.2 ⟨hx,?_⟩,rfl⟩
    rw [<-e3,g3];exact h6.2.1
   have:=hno z y hz
   rw [hh] at this;cases this
 have root: ∀i j,i< (bB 0 dM).length+bs.length->j< (bB 0 dM).length+bs.length->r i=r j->r' (φ i)=r' (φ j):=fun i j hi hj e=>
  (b.GI.conn.fi (fun x=>r' (φ i)=r' (φ x)) (fun c d hcd=>by rw [b'.GI.conn.co _ _ (lk c d hcd)]) i j hi hj e) rfl
 have land: ∀{l:bW} {h:iN},mV bs (bB 0 dM) l=some h->∃g,mV bs (bB 0 pss') l=some g/\iO (bB 0 pss').length g=φ (iO (bB 0 dM).length h)/\iO (bB 0 dM).length h< (bB 0 dM).length+bs.length:=by
  intro l h hh
  unfold mV at hh ⊢
  cases hf:bs.findIdx? (qt l) with
  | some k=>
   rw [hf] at hh;injection hh with hh;subst hh
   have hk:=(List.findIdx?_eq_some_iff_getElem.1 hf).1
   refine⟨_,rfl,?_,?_⟩
   ·unfold iO
    rw [aC rfl,aC rfl,bR,f2]
   ·unfold iO
    rw [aC rfl,bR];omega
  | none=>
   rw [hf] at hh
   dsimp only at hh ⊢
   rw [Option.map_eq_some_iff] at hh
   obtain⟨k,hk,rfl⟩:=hh
   obtain⟨k1,k2,_⟩:=List.findIdx?_eq_some_iff_getElem.1 hk
   obtain⟨p,q,g1,g2,g3,g4⟩:=f1 k k1
   have ep: (bB 0 dM)[k]=p:=(aT.1 g1).2
   rw [ep] at k2
   unfold lP at k2
   rw [bE,beq_iff_eq,t5] at k2
   have hq:lP l q=true:=by
    unfold lP
    rw [bE,beq_iff_eq,t5]
    exact⟨by rw [g3,k2.1],g4 _ _ k2.2⟩
   have hql:=(aT.1 g2)
   cases hf2: (bB 0 pss').findIdx? (lP l) with
   | none=>
    have:=List.findIdx?_eq_none_iff.1 hf2 q (dV g2)
    rw [hq] at this;cases this
   | some k'=>
    obtain⟨m1,m2,_⟩:=List.findIdx?_eq_some_iff_getElem.1 hf2
    unfold lP at m2 hq
    rw [bE,beq_iff_eq,t5] at m2 hq
    have e:k'=φ k:=zW b' (aL m1) g2 (by rw [m2.1,hq.1]) m2.2 hq.2
    refine⟨_,rfl,?_,?_⟩
    ·unfold iO
     rw [aF oH,aF oH,bR,bR,e]
    ·unfold iO
     rw [aF oH,bR];omega
 obtain⟨g,q1,q2,q3⟩:=land hl
 obtain⟨g',s1,s2,s3⟩:=land hl'
 exact⟨g,g',q1,s1,by rw [q2,s2];exact root _ _ q3 s3 he⟩
end
end Go.Gk
namespace Go.Gk
open Go Classical
section
variable {N:Nat} {a:eL} {jw:List (List aA)} {dM:List (List (List aA))} {r:Nat->Nat} {gs:List cL} {ofP ofB l3:List Int} {mf:List iN}
end
section
variable {N:Nat}
end
end Go.Gk
namespace Go.Gk
open Go Classical
section
variable {N:Nat}
theorem BX {a:eL} (ha:lz a) (hN:4398046511104<=N):kT N a=some (a.aH,a.cI,a.aU,a.bC):=by
 have h1:=ha.cs
 have h2:=ha.out
 have h3:=ha.bs
 have h4:=ha.ls
 refine Ok.get ?_
 unfold kT
 refine Ok.eq (x:=a.aH) (show (app 24 ([]:List (List aG)) a.aH).bind (fun x=>some x)=some a.aH from by rw [gr (by simp;omega),aB,List.nil_append]) ?_
 refine Ok.bind (Ok.kM (fun k s=>s=a.aH) (by omega) rfl (fun k s hk e=>?_)) ?_
 ·subst e
  have hx:a.aH[k]? =some a.aH[k]:=aL hk
  have hc:=ha.each _ (cT hk)
  refine Ok.ix hx (Ok.eq (nR (by omega)) (Ok.ix hx (Ok.ret ?_)))
  rw [bR];exact List.set_getElem_self hk
 rintro s rfl
 refine Ok.eq (nR (by omega)) (Ok.eq (x:=a.aU) (by unfold jN;rw [gr (by simp;omega),aB,List.nil_append]) (Ok.eq (x:=a.bC) (by unfold jO;rw [gr (by simp;omega),aB,List.nil_append]) (Ok.ret rfl)))
def D9 (a:eL) (k:Nat) (l:List aG):eL:=⟨a.aH.set k l,a.cI,a.aU,a.bC⟩
theorem zX {a:eL} (ha:lz a) {k:Nat} {l:List aG} (hl:l.length<=1048576):lz (D9 a k l):=by
 refine⟨?_,fun r hr=>?_,ha.out,ha.bs,ha.ls,ha.nm⟩
 ·show (a.aH.set k l).length<=_;rw [gw];exact ha.cs
 ·rcases List.mem_or_eq_of_mem_set hr with h | h
  ·exact ha.each r h
  ·rw [h];exact hl
def wN:eL:=⟨[],[],[],[]⟩
noncomputable def Il (N:Nat) (op:List aA->List aA->Option (List aA)) (a:eL) (i:Int) (r:List aG):Option (eL×Int):=
 (dH N a).bind fun f=>bif (f != 0) then (some (wN,f)) else ((dL N i 0 (IntKind.wrap .i64 ((a.aH.length:Int) - 1))).bind fun b=>bif (!b) then (some (wN,9)) else ((dZ N r).bind fun f=>bif (f != 0) then (some (wN,f)) else
  ((idx a.aH i).bind fun c=>(cO N c).bind fun x=>(cO N r).bind fun y=>(op x y).bind fun s=>(gS N s).bind fun t=>bif (t.2 != 0) then (some (wN,t.2)) else
  ((kT N a).bind fun o=>(idx o.1 i).bind fun _=>(dH N (⟨o.1.set (Int.toNat i) t.1,o.2.1,o.2.2.1,o.2.2.2⟩:eL)).bind fun f=>bif (f != 0) then (some (wN,f)) else
  (some ((⟨o.1.set (Int.toNat i) t.1,o.2.1,o.2.2.1,o.2.2.2⟩:eL),0))))))
end
end Go.Gk
namespace Go.Gk
open Go Classical
section
variable {N:Nat}
theorem Ia {φ:Bool->Bool->Option Bool} {gD:Bool->Bool->Bool} (hφ: ∀p q,φ p q=some (gD p q)) (hk:gD false false=false) {cp r:List aG} (h1:cp.length<=2000) (h2: ∀x∈cp,xv x)
  (h3:r.length<=2000) (h4: ∀x∈r,xv x) (hN:4398046511104<=N): ∃x y s,cO N cp=some x/\cO N r=some y/\jf N x y φ=some s/\cW (s.map aW)/\(∀x y,nC (s.map aW) x y=gD (kz cp x y) (kz r x y))/\
   gS N s=some (if 2000< (aK s).length then ([],2) else (aK s,0)):=by
 obtain⟨x,hx,sx⟩:=lK (N:=N) (l:=cp) (by omega) h2 (by omega)
 obtain⟨y,hy,sy⟩:=lK (N:=N) (l:=r) (by omega) h4 (by omega)
 have hz: ∀c∈jT cp++jT r,small c:=by
  intro c hc
  rcases cP.1 hc with h | h
  ·obtain⟨x,hx,rfl | rfl⟩:=i9.1 h
   ·exact(h2 x hx).s3
   ·exact(h2 x hx).s4
  ·obtain⟨x,hx,rfl | rfl⟩:=i9.1 h
   ·exact(h4 x hx).s3
   ·exact(h4 x hx).s4
 obtain⟨s,hs,ms⟩:=vr (N:=N) (X:=na cp++na r) (Y:=jT cp++jT r) hφ hk sx.can sy.can (sx.lim.mono (fun c h=>List.mem_append_left _ h) (fun c h=>List.mem_append_left _ h)) (sy.lim.mono (fun c h=>List.mem_append_right _ h) (fun c h=>List.mem_append_right _ h))
  (by rw [dI,iB,iB];omega) (by rw [dI,gu,gu];omega) hz hN
 obtain⟨z1,z2,z3⟩:=qO (A:=8000) ms.can ms.lim (by rw [dI,iB,iB];omega) (by rw [dI,gu,gu];omega)
 refine⟨x,y,s,hx,hy,hs,ms.can,fun x y=>by rw [ms.cover,sx.cover,sy.cover],?_⟩
 unfold gS
 rw [Az (by omega) (fun b hb=>by have:=z2 b hb;omega) (by omega),aB]
 by_cases h:2000< (aK s).length
 ·rw [aC h,cJ (show (((aK s).length:Nat):Int)>2000 by omega),aV]
 ·rw [aF h,bU (show ¬(((aK s).length:Nat):Int)>2000 by omega),bA,sY (lZ ms.can) (by omega) (fun b hb=>by have:=z2 b hb;omega) (by omega),aB]
inductive zY (N:Nat) (a:eL):Int->Prop
 | err (e:Int) (he:e≠0) (h:eJ N a=some (none,e)):zY N a e
 | ok {jw:List (List aA)} {dM:List (List (List aA))} {r:Nat->Nat} {gs:List cL} {ofP ofB l3:List Int} {mf:List iN} (b:gY a jw dM r gs ofP ofB l3 mf)
  (h:eJ N a=some (some (a.aH,a.cI,a.aU,a.bC,jw,bB 0 dM,kJ a.aU (bB 0 dM),gs,ofP,ofB,l3,mf),0)):zY N a 0
theorem GK {a:eL} (ha:lz a) (hN:4398046511104<=N): ∃f,dH N a=some f/\zY N a f:=by
 rcases opened (N:=N) ha hN with ⟨e,he,h⟩ | ⟨b,h⟩
 ·exact⟨e,by unfold dH;rw [h];rfl, .err e he h⟩
 ·exact⟨0,by unfold dH;rw [h];rfl, .ok b h⟩
def Ib (N:Nat) (gD:Bool->Bool->Bool) (a:eL) (r:List aG) (x:eL×Int):Prop:=
 (x.2≠0/\x.1=wN)\/(x.2=0/\zY N a 0/\zY N x.1 0/\lz x.1/\∃k s c,a.aH[k]? =some c/\cW (s.map aW)/\(∀x y,nC (s.map aW) x y=gD (kz c x y) (kz r x y))/\x.1=D9 a k (aK s))
theorem yY {a:eL} (ha:lz a) {i:Int} {r:List aG} (hr:r.length<=1048576) {op:List aA->List aA->Option (List aA)} {φ:Bool->Bool->Option Bool} {gD:Bool->Bool->Bool}
  (hop: ∀x y,op x y= (jf N x y φ).bind some) (hφ: ∀p q,φ p q=some (gD p q)) (hk:gD false false=false) (hN:4398046511104<=N): ∃x,Il N op a i r=some x/\Ib N gD a r x:=by
 obtain⟨f,c1,c2⟩:=GK (N:=N) ha hN
 unfold Il
 rw [c1,aB]
 by_cases hf:f=0
 rotate_left
 ·rw [show (f != 0)=true by simpa using hf,aV]
  exact⟨_,rfl, .inl ⟨hf,rfl⟩⟩
 subst hf
 simp only [bne_self_eq_false,bA]
 have hc:=ha.cs
 rcases xL (n:=a.aH.length) i (by omega) (W:=dL N i 0 (IntKind.wrap .i64 ((a.aH.length:Int) - 1))) rfl with ⟨e1,hi⟩ | ⟨e1,k,rfl,hkl⟩
 ·rw [e1,aB,qy,aV]
  exact⟨_,rfl, .inl ⟨by decide,rfl⟩⟩
 rw [e1,aB,nj,bA,mU (by omega) hN,aB]
 by_cases hg:jc r=0
 rotate_left
 ·rw [show (jc r != 0)=true by simpa using hg,aV]
  exact⟨_,rfl, .inl ⟨hg,rfl⟩⟩
 rw [hg]
 simp only [bne_self_eq_false,bA]
 obtain⟨r1,r2⟩:=xE (qp.1 hg).1
 have hx:a.aH[k]? =some a.aH[k]:=aL hkl
 have hcs: ∀c∈a.aH,c.length<=2000/\∀x∈c,xv x:=by
  cases c2 with
  | err _ he _=>exact absurd rfl he
  | ok b _=>exact b.zQ.cs
 obtain⟨q1,q2⟩:=hcs _ (cT hkl)
 obtain⟨x,y,s,m1,m2,m3,m4,m5,m6⟩:=Ia (N:=N) hφ hk q1 q2 r1 r2 hN
 rw [iL hx,aB,m1,aB,m2,aB,hop,m3,aB,aB,m6,aB]
 by_cases hl:2000< (aK s).length
 ·rw [aC hl]
  exact⟨_,rfl, .inl ⟨by decide,rfl⟩⟩
 rw [aF hl]
 simp only [bne_self_eq_false,bA]
 rw [BX ha hN,aB]
 simp only [iL hx,aB,bR]
 have hso:=zX ha (k:=k) (l:=aK s) (by omega)
 obtain⟨f,d1,d2⟩:=GK (N:=N) hso hN
 have hd1:dH N (⟨a.aH.set k (aK s),a.cI,a.aU,a.bC⟩:eL)=some f:=d1
 rw [hd1,aB]
 by_cases hf:f=0
 ·subst hf
  exact⟨_,rfl, .inr ⟨rfl,c2,d2,hso,k,s,_,hx,m4,m5,rfl⟩⟩
 ·rw [show (f != 0)=true by simpa using hf,aV]
  exact⟨_,rfl, .inl ⟨hf,rfl⟩⟩
theorem BZ {a a':eL} {jw drl':List (List aA)} {dM pss':List (List (List aA))} {r r':Nat->Nat} {gs gs':List cL} {ofP ofB l3 ofP' ofB' ofL':List Int} {mf atL':List iN} (b:gY a jw dM r gs ofP ofB l3 mf) (b':gY a' drl' pss' r' gs' ofP' ofB' ofL' atL')
  (hbs:a'.aU=a.aU) (hsub: ∀(i:Nat) c c',a.aH[i]? =some c->a'.aH[i]? =some c'->∀x y,kz c x y=true->kz c' x y=true):
  ∀(i:Nat) s t,jw[i]? =some s->drl'[i]? =some t->∀x y,nC (s.map aW) x y=true->nC (t.map aW) x y=true:=by
 intro i s t hs ht x y hx
 have h1:i<a.aH.length:=by have:=(aT.1 hs).1;rw [b.dr.len] at this;exact this
 have h2:i<a'.aH.length:=by have:=(aT.1 ht).1;rw [b'.dr.len] at this;exact this
 have g1:=b.dr.dr i _ s h1 (aL h1) hs
 have g2:=b'.dr.dr i _ t h2 (aL h2) ht
 rw [g1.cover,bE] at hx
 rw [g2.cover,bE,hbs]
 exact⟨hsub i _ _ (aL h1) (aL h2) x y hx.1,hx.2⟩
end
end Go.Gk
namespace Go.Gk
open Go Classical
section
variable {N:Nat} {cs cs':List (List aG)} {o:List aG} {bs:List bH} {ls:List bW} {jw drl':List (List aA)} {dM pss':List (List (List aA))} {r r':Nat->Nat} {gs gs':List cL} {ofP ofB l3 ofP' ofB' ofL':List Int} {mf atL':List iN}
theorem Dg (b:gY ⟨cs,o,bs,ls⟩ jw dM r gs ofP ofB l3 mf) (b':gY ⟨cs',o,bs,ls⟩ drl' pss' r' gs' ofP' ofB' ofL' atL') (hlen:cs'.length=cs.length)
  (hsub: ∀(i:Nat) c c',cs[i]? =some c->cs'[i]? =some c'->∀x y,kz c x y=true->kz c' x y=true) {x y:bW} {g:Nat} (hx:ri bs (bB 0 dM) r x=some g) (hy:ri bs (bB 0 dM) r y=some g):
  ∃g',ri bs (bB 0 pss') r' x=some g'/\ri bs (bB 0 pss') r' y=some g':=by
 have hop: ∀{z:bW},ri bs (bB 0 dM) r z=some g->∃h,mV bs (bB 0 dM) z=some h:=fun{z} h=>by
  unfold ri at h
  cases hh:mV bs (bB 0 dM) z with
  | none=>rw [hh] at h;cases h
  | some h=>exact⟨h,rfl⟩
 obtain⟨h,hh⟩:=hop hx
 obtain⟨h',hh'⟩:=hop hy
 have he:=(AM b hh hh').1 (by show ri bs (bB 0 dM) r x=ri bs (bB 0 dM) r y;rw [hx,hy])
 obtain⟨k,k',q1,q2,q3⟩:=BW b b' hlen (BZ b b' rfl hsub) hh hh' he
 have e:=(AM b' q1 q2).2 q3
 have e:ri bs (bB 0 pss') r' x=ri bs (bB 0 pss') r' y:=e
 cases hg:ri bs (bB 0 pss') r' x with
 | none=>unfold ri at hg;rw [q1] at hg;cases hg
 | some g'=>exact⟨g',rfl,by rw [<-e,hg]⟩
end
end Go.Gk
namespace Go.Gk
open Go Classical
def tB (g g':Int×Bool×Int):Bool:=(g.2.2==0)&&((g'.2.2==0)&&(g.2.1&&(g'.2.1&&(g.1==g'.1))))
def uG (a:eL) (p:fH) (x:bW):Prop:=∃i:Nat,wL a p= ((i:Nat):Int)/\a.bC[i]? =some x
section
variable {N:Nat} {a:eL} {jw:List (List aA)} {dM:List (List (List aA))} {r:Nat->Nat} {gs:List cL} {ofP ofB l3:List Int} {mf:List iN}
theorem o7 (b:gY a jw dM r gs ofP ofB l3 mf) (h1:eJ N a=some (some (a.aH,a.cI,a.aU,a.bC,jw,bB 0 dM,kJ a.aU (bB 0 dM),gs,ofP,ofB,l3,mf),0)) {p:fH} (e:wL a p = -1) (hN:4398046511104<=N):cE N a p=some (0,false,9):=by
 unfold cE
 rw [h1,aB,wM b.AH p hN]
 simp only [DF,bne_self_eq_false,bA,aB]
 rw [e];rfl
theorem AP (b:gY a jw dM r gs ofP ofB l3 mf) (h1:eJ N a=some (some (a.aH,a.cI,a.aU,a.bC,jw,bB 0 dM,kJ a.aU (bB 0 dM),gs,ofP,ofB,l3,mf),0)) (p q:fH) (hN:4398046511104<=N):
  ∃g g',cE N a p=some g/\cE N a q=some g'/\(tB g g'=true↔∃x y n,uG a p x/\uG a q y/\ri a.aU (bB 0 dM) r x=some n/\ri a.aU (bB 0 dM) r y=some n):=by
 have one: ∀{p:fH} {x y:bW},uG a p x->uG a p y->x=y:=fun{p x y} ⟨i,h1,h2⟩ ⟨k,h3,h4⟩=>by
  have:i=k:=by rw [h1] at h3;omega
  subst this;rw [h2] at h4;injection h4
 rcases qx a p with ⟨ep,_⟩ | ⟨i,x,ep,hx,_⟩
 ·obtain⟨g',hg'⟩: ∃g',cE N a q=some g':=by
   rcases qx a q with ⟨eq,_⟩ | ⟨k,y,eq,hy,_⟩
   ·exact⟨_,o7 b h1 eq hN⟩
   ·exact⟨_,o6 b h1 eq hy hN⟩
  refine⟨_,_,o7 b h1 ep hN,hg',fun h=>(by cases h),fun⟨x,y,n,⟨i,hi,_⟩,_⟩=>?_⟩
  rw [ep] at hi;omega
 ·rcases qx a q with ⟨eq,_⟩ | ⟨k,y,eq,hy,_⟩
  ·refine⟨_,_,o6 b h1 ep hx hN,o7 b h1 eq hN,fun h=>?_,fun⟨x,y,n,_,⟨i,hi,_⟩,_⟩=>?_⟩
   ·unfold tB at h
    simp at h
   ·rw [eq] at hi;omega
  ·refine⟨_,_,o6 b h1 ep hx hN,o6 b h1 eq hy hN,?_⟩
   constructor
   ·intro h
    cases hX:ri a.aU (bB 0 dM) r x with
    | none=>rw [hX] at h;unfold tB at h;simp at h
    | some n=>
     cases hY:ri a.aU (bB 0 dM) r y with
     | none=>rw [hX,hY] at h;unfold tB at h;simp at h
     | some m=>
      rw [hX,hY] at h
      unfold tB at h
      simp at h
      exact⟨x,y,n,⟨i,ep,hx⟩,⟨k,eq,hy⟩,hX,by rw [hY];congr 1;omega⟩
   ·rintro⟨x',y',n,hx',hy',e1,e2⟩
    have ex:=one hx' ⟨i,ep,hx⟩
    have ey:=one hy' ⟨k,eq,hy⟩
    subst ex;subst ey
    rw [e1,e2]
    unfold tB
    simp
end
section
variable {N:Nat} {cs cs':List (List aG)} {o:List aG} {bs:List bH} {ls:List bW} {jw drl':List (List aA)} {dM pss':List (List (List aA))} {r r':Nat->Nat} {gs gs':List cL} {ofP ofB l3 ofP' ofB' ofL':List Int} {mf atL':List iN}
theorem Dh (b:gY ⟨cs,o,bs,ls⟩ jw dM r gs ofP ofB l3 mf) (b':gY ⟨cs',o,bs,ls⟩ drl' pss' r' gs' ofP' ofB' ofL' atL')
  (h1:eJ N ⟨cs,o,bs,ls⟩=some (some (cs,o,bs,ls,jw,bB 0 dM,kJ bs (bB 0 dM),gs,ofP,ofB,l3,mf),0)) (h2:eJ N ⟨cs',o,bs,ls⟩=some (some (cs',o,bs,ls,drl',bB 0 pss',kJ bs (bB 0 pss'),gs',ofP',ofB',ofL',atL'),0))
  (hlen:cs'.length=cs.length) (hsub: ∀(i:Nat) c c',cs[i]? =some c->cs'[i]? =some c'->∀x y,kz c x y=true->kz c' x y=true) (p q:fH) (hN:4398046511104<=N):
  ∃g1 g2 k1 k2,cE N ⟨cs,o,bs,ls⟩ p=some g1/\cE N ⟨cs,o,bs,ls⟩ q=some g2/\cE N ⟨cs',o,bs,ls⟩ p=some k1/\cE N ⟨cs',o,bs,ls⟩ q=some k2/\(tB g1 g2=true->tB k1 k2=true):=by
 obtain⟨g1,g2,e1,e2,e3⟩:=AP (N:=N) b h1 p q hN
 obtain⟨k1,k2,f1,f2,f3⟩:=AP (N:=N) b' h2 p q hN
 refine⟨g1,g2,k1,k2,e1,e2,f1,f2,fun h=>?_⟩
 obtain⟨x,y,n,hx,hy,l1,l2⟩:=e3.1 h
 obtain⟨m,m1,m2⟩:=Dg b b' hlen hsub l1 l2
 exact f3.2 ⟨x,y,m,hx,hy,m1,m2⟩
end
end Go.Gk
namespace Go.Gk
open Go Classical
section
variable {N:Nat}
theorem uj {a:eL} {p q:fH} {g g':Int×Bool×Int} (h1:cE N a p=some g) (h2:cE N a q=some g'):cN N a p q=some (tB g g'):=by
 unfold cN tB
 rw [h1,aB,h2,aB]
 simp only [Bool.and_assoc]
theorem AQ {a a':eL} (h:zY N a 0) (h':zY N a' 0) (ho:a'.cI=a.cI) (hb:a'.aU=a.aU) (hl:a'.bC=a.bC) (hlen:a'.aH.length=a.aH.length)
  (hsub: ∀(i:Nat) c c',a.aH[i]? =some c->a'.aH[i]? =some c'->∀x y,kz c x y=true->kz c' x y=true) (p q:fH) (hN:4398046511104<=N):
  ∃t t',cN N a p q=some t/\cN N a' p q=some t'/\(t=true->t'=true):=by
 obtain⟨cs,o,bs,ls⟩:=a
 obtain⟨cs',o',bs',ls'⟩:=a'
 dsimp only at ho hb hl hlen hsub
 subst ho;subst hb;subst hl
 cases h with
 | err _ he _=>exact absurd rfl he
 | ok b h1=>
  cases h' with
  | err _ he _=>exact absurd rfl he
  | ok b' h2=>
   obtain⟨g1,g2,k1,k2,e1,e2,f1,f2,hh⟩:=Dh b b' h1 h2 hlen hsub p q hN
   exact⟨_,_,uj e1 e2,uj f1 f2,hh⟩
theorem Di {a:eL} {k:Nat} {l c:List aG} (hk:a.aH[k]? =some c) (hl: ∀x y,kz c x y=true->kz l x y=true): ∀(i:Nat) c c',a.aH[i]? =some c->(D9 a k l).aH[i]? =some c'->∀x y,kz c x y=true->kz c' x y=true:=by
 intro i d d' h1 h2 x y hx
 have h2: (a.aH.set k l)[i]? =some d':=h2
 by_cases e:k=i
 ·subst e
  rw [List.getElem?_set_self (aT.1 hk).1] at h2
  injection h2 with h2;subst h2
  rw [hk] at h1;injection h1 with h1;subst h1
  exact hl x y hx
 ·rw [List.getElem?_set_ne e,h1] at h2
  injection h2 with h2;subst h2;exact hx
theorem Dj {a:eL} {k:Nat} {l c:List aG} (hk:a.aH[k]? =some c) (hl: ∀x y,kz l x y=true->kz c x y=true): ∀(i:Nat) c c',(D9 a k l).aH[i]? =some c->a.aH[i]? =some c'->∀x y,kz c x y=true->kz c' x y=true:=by
 intro i d d' h2 h1 x y hx
 have h2: (a.aH.set k l)[i]? =some d:=h2
 by_cases e:k=i
 ·subst e
  rw [List.getElem?_set_self (aT.1 hk).1] at h2
  injection h2 with h2;subst h2
  rw [hk] at h1;injection h1 with h1;subst h1
  exact hl x y hx
 ·rw [List.getElem?_set_ne e,h1] at h2
  injection h2 with h2;subst h2;exact hx
theorem nb {a:eL} {i:Int} {r:List aG} {p q:fH} (ha:bk a<=1048576) (_hi:bk i<=1048576) (hr:bk r<=1048576) (_hp:bk p<=1048576) (_hq:bk q<=1048576) (hN:4398046511104<=N):dG N a i r p q=some true:=by
 have hs:=yR ha
 have hrl:r.length<=1048576:=by have:=rL r;omega
 obtain⟨x,x1,x2⟩:=yY (N:=N) hs (i:=i) (r:=r) hrl (op:=ml N) (φ:=kO N) (gD:=fun p q=>p||q) (fun _ _=>rfl) (fun p q=>by cases p <;> rfl) rfl hN
 obtain⟨y,y1,y2⟩:=yY (N:=N) hs (i:=i) (r:=r) hrl (op:=gq N) (φ:=jM N) (gD:=fun p q=>p&& !q) (fun _ _=>rfl) (fun p q=>by cases p <;> rfl) rfl hN
 have w1:lQ N a i r=some x:=by
  have e:iQ N a i r=some x:=x1
  unfold lQ;rw [e,aB]
 have w2:j4 N a i r=some y:=by
  have e:iw N a i r=some y:=y1
  unfold j4;rw [e,aB]
 have aw:cU N=some true:=D6 (by omega)
 unfold dG
 rw [w1,aB]
 rcases x2 with ⟨e0,e1⟩ | ⟨e0,ca,cx,_,k,s,c,hc,hcs,hin,ex⟩
 ·rw [show (x.2 != 0)=true by simpa using e0,aV,e1,aw];rfl
 rw [e0,w2,aw]
 simp only [bne_self_eq_false,bA,aB]
 obtain⟨t,t',t1,t2,t3⟩:=AQ ca cx (by rw [ex];rfl) (by rw [ex];rfl) (by rw [ex];rfl) (by rw [ex];exact gw) (by
  rw [ex]
  exact Di hc (fun x y h=>by rw [ja hcs,hin,h];rfl)) p q hN
 rw [t1,aB]
 cases t with
 | true=>
  rw [aV,t2,aB,t3 rfl]
  rw [Bool.or_true];rfl
 | false=>
  rw [bA,aB,bA,Bool.or_false]
  rcases y2 with ⟨e0,e1⟩ | ⟨e0,_,cy,_,k,s,c,hc,hcs,hin,ey⟩
  ·rw [show (y.2 != 0)=true by simpa using e0];rfl
  rw [e0]
  simp only [bne_self_eq_false,bA]
  by_cases hpq:p=q
  ·rw [cJ hpq];rfl
  rw [bU hpq,bA]
  obtain⟨u,u',u1,u2,u3⟩:=AQ cy ca (by rw [ey];rfl) (by rw [ey];rfl) (by rw [ey];rfl) (by rw [ey];exact gw.symm) (by
   rw [ey]
   exact Dj hc (fun x y h=>by
    rw [ja hcs,hin,bE] at h;exact h.1)) p q hN
  rw [t1] at u2;injection u2 with u2;subst u2
  have hu:u=false:=by cases u with | false=>rfl | true=>exact absurd (u3 rfl) (by decide)
  rw [u1,aB,hu];rfl
end
end Go.Gk
