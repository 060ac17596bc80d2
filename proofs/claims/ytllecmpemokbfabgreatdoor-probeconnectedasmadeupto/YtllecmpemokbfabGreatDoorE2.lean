/-
  Helping texts: plain functions and plain laws. No statement of the seed is proved here.
-/
import Derived.Test.YtllecmpemokbfabGreatDoorE1
import Derived.Test.YtllecmpemokbfabGreatDoorA2
set_option linter.unusedVariables false
set_option linter.unusedSimpArgs false
set_option linter.unusedSectionVars false
namespace Go.Gk
open Go Classical
theorem vz (n:Nat) (g:Nat->Nat): ((List.range (n+1)).map g).sum= ((List.range n).map g).sum+g n:=by
 rw [List.range_succ,eY,List.sum_append];simp
def Gf (r:aI) (x y:Int):Bool:=(decide (r.X0<=x)&&decide (x<r.X1))&&(decide (r.Y0<=y)&&decide (y<r.Y1))
def F8 (a b:aI):Prop:=∀x y,¬(Gf a x y=true/\Gf b x y=true)
theorem Dy {r:aI} {x y:Int}:Gf r x y=true↔(r.X0<=x/\x<r.X1)/\r.Y0<=y/\y<r.Y1:=by unfold Gf;simp
theorem sX: ∀{xs:List Int},kD xs->(wz xs).Pairwise (fun p q=>p.2<q.1)
 | [],_=>kn
 | [a],_=>kn
 | a::b::l,h=>by
  unfold wz
  rw [List.pairwise_cons]
  exact⟨fun q hq=>h.tail.head q.1 (xo q hq).1,sX h.tail.tail⟩
def zI (a b:aI):Prop:=a.Y1<=b.Y0\/(a.Y0=b.Y0/\a.Y1=b.Y1/\a.X1<b.X0)
theorem zI.apart {a b:aI} (h:zI a b):F8 a b:=fun x y ⟨h1,h2⟩=>by
 rw [Dy] at h1 h2
 rcases h with h | h <;> omega
theorem sY: ∀{s:List aA},dL (s.map bD)->(aK s).Pairwise zI
 | [],_=>kn
 | b::s,h=>by
  rw [kJ,List.pairwise_append]
  refine⟨?_,sY h.tail,fun x hx y hy=>?_⟩
  ·unfold kI
   rw [List.pairwise_map]
   exact List.Pairwise.imp (fun hpq=> .inr ⟨rfl,rfl,hpq⟩) (sX (h.each (bD b) (by simp)).2.2.1)
  ·unfold kI at hx
   obtain⟨p,_,rfl⟩:=cH.1 hx
   obtain⟨c,hc,q,_,rfl⟩:=ml hy
   exact .inl (h.uZ (bD c) (cH.2 ⟨c,hc,rfl⟩))
theorem wI {s:List aA} (h:dL (s.map bD)): ∀r∈aK s,r.X0<r.X1/\r.Y0<r.Y1:=fun r hr=>by
 obtain⟨b,hb,p,hp,rfl⟩:=ml hr
 have hc:=h.each (bD b) (cH.2 ⟨b,hb,rfl⟩)
 exact⟨zv hc.2.2.1 p hp,hc.1⟩
theorem yK {s:List aA} (h:dL (s.map bD)): (aK s).Nodup:=by
 have h1:=sY h
 have h2:=wI h
 refine List.Pairwise.imp_of_mem (fun{a b} ha hb hab e=>?_) h1
 subst e
 have:=h2 a ha
 rcases hab with h | h <;> omega
def lU (s:List Bd):Nat:=(s.map (fun b=>b.xs.length / 2)).sum
theorem pT (s t:List Bd):lU (s++t)=lU s+lU t:=by unfold lU;rw [eY,List.sum_append]
theorem Bp (s:List Bd) (b:Bd):lU (kH s b)<=lU s+b.xs.length / 2:=by
 unfold kH
 split
 ·omega
 ·split
  ·rename_i c hc
   have hsp:=ox hc
   have e:lU s=lU s.dropLast+c.xs.length / 2:=by
    conv=>lhs;rw [hsp,pT]
    simp [lU]
   split
   ·rw [pT,e];simp [lU]
   ·rw [pT];simp [lU]
  ·simp [lU]
structure HW (t:List Bd):Prop where
 each: ∀b∈t,b.y0<b.y1/\kD b.xs/\b.xs.length % 2=0
 ord:t.Pairwise (fun b c=>b.y1<=c.y0)
theorem fold_push: ∀(t out:List Bd),HW t->dL out->(∀c∈out,∀b∈t,c.y1<=b.y0)->dL (t.foldl kH out)/\lU (t.foldl kH out)<=lU out+lU t/\
  ∀y,rowAt (t.foldl kH out) y=if (∃b∈t,b.y0<=y/\y<b.y1) then rowAt t y else rowAt out y
 | [],out,_,hc,_=>⟨hc,by simp [lU],fun y=>by simp⟩
 | b::t,out,hl,hc,ho=>by
  have hb:=hl.each b (by simp)
  have hord:=List.pairwise_cons.1 hl.ord
  have ho1: ∀c∈out,c.y1<=b.y0:=fun c h=>ho c h b (by simp)
  have h1:=tE hc ho1 hb.2.1 hb.2.2
  have htop:=tF ho1 (show b.y0<=b.y1 by omega)
  obtain⟨f1,f2,f3⟩:=fold_push t (kH out b) ⟨fun c hcm=>hl.each c (jk _ hcm),hord.2⟩ h1 (fun c hcm d hd=>by have:=htop c hcm;have:=hord.1 d hd;omega)
  refine⟨f1,?_,fun y=>?_⟩
  ·have:=Bp out b
   have e:lU (b::t)=b.xs.length / 2+lU t:=by simp [lU]
   rw [List.foldl_cons,e];omega
  ·rw [List.foldl_cons,f3 y,tD ho1 (fun c hcm=>(hc.each c hcm).1) (fun h=>absurd h (by omega)),jJ]
   by_cases hy:b.y0<=y/\y<b.y1
   ·have hn: ¬∃c∈t,c.y0<=y/\y<c.y1:=fun⟨c,hcm,h⟩=>by have:=hord.1 c hcm;omega
    rw [aD hn,aC hy,aC ⟨b,by simp,hy⟩,aC hy]
   ·rw [aD hy]
    by_cases h: ∃c∈t,c.y0<=y/\y<c.y1
    ·obtain⟨c,hcm,h⟩:=h
     rw [aC ⟨c,hcm,h⟩,aC ⟨c,jk _ hcm,h⟩,aD hy]
    ·rw [aD h,aD hy,aD (show ¬∃c∈b::t,c.y0<=y/\y<c.y1 from fun⟨c,hcm,h2⟩=>by
      rcases fG.1 hcm with rfl | hcm
      ·exact hy h2
      ·exact h ⟨c,hcm,h2⟩)]
noncomputable def l3 (C:List aI) (b:aA):Bd:=⟨b.Y0,b.Y1,m5 ((wz b.Xs).filter (fun p=>decide ((⟨p.1,b.Y0,p.2,b.Y1⟩:aI)∈C)))⟩
theorem Bq {l m:List (Int×Int)} (h:l.Sublist m): (m5 l).Sublist (m5 m):=by
 induction h with
 | slnil=>exact List.Sublist.refl _
 | cons a _ ih=>rw [lu];exact(ih.cons _).cons _
 | cons_cons a _ ih=>rw [lu,lu];exact(ih.cons_cons _).cons_cons _
theorem vA (l:List (Int×Int)): (m5 l).length % 2=0/\(m5 l).length / 2=l.length:=by rw [A7];omega
theorem wJ {s p:List aA} {C:List aI} (hs:dL (s.map bD)) (hp:dL (p.map bD)) (hC: ∀r∈C,r∈aK s) (hcov: ∀x y,sG (p.map bD) x y=u5 C x y): (aK p).length<=C.length:=by
 have hinc: ∀b∈s,kD (l3 C b).xs:=fun b hb=>by
  have h1:=Ak hs b hb
  have h2:=Bq (List.filter_sublist (l:=wz b.Xs) (p:=fun p=>decide ((⟨p.1,b.Y0,p.2,b.Y1⟩:aI)∈C)))
  rw [sJ (nS hs b hb)] at h2
  exact List.Pairwise.sublist h2 h1
 have hlow:HW (s.map (l3 C)):=by
  refine⟨fun b hb=>?_,?_⟩
  ·obtain⟨c,hc,rfl⟩:=cH.1 hb
   exact⟨(hs.each (bD c) (cH.2 ⟨c,hc,rfl⟩)).1,hinc c hc,(vA _).1⟩
  ·have:=hs.ord
   rw [List.pairwise_map] at this ⊢
   exact List.Pairwise.imp (fun h=>h.1) this
 obtain⟨f1,f2,f3⟩:=fold_push (s.map (l3 C)) [] hlow dL.nil (fun c hc=>by cases hc)
 have hrow: ∀{t:List aA},(∀b∈t,b∈s)->∀x y,k7 (rowAt (t.map (l3 C)) y) x=true->u5 C x y=true:=by
  intro t ht x y h
  induction t with
  | nil=>cases h
  | cons b t ih=>
   rw [dW,jJ] at h
   split at h
   ·rename_i hy
    have hbm:=ht b (by simp)
    have h1:=hinc b hbm
    have h:k7 (m5 ((wz b.Xs).filter (fun p=>decide ((⟨p.1,b.Y0,p.2,b.Y1⟩:aI)∈C)))) x=true:=h
    rw [sH h1,u7] at h
    obtain⟨q,hq,h2⟩:=h
    have hq:=iz.1 hq
    exact iZ.2 ⟨_,of_decide_eq_true hq.2,h2,hy⟩
   ·exact ih (fun c hc=>ht c (jk _ hc)) h
 have hrow2: ∀x y,u5 C x y=true->k7 (rowAt (s.map (l3 C)) y) x=true:=by
  intro x y h
  obtain⟨r,hr,h1,h2⟩:=iZ.1 h
  obtain⟨b,hb,q,hq,rfl⟩:=ml (hC r hr)
  dsimp only at h1 h2
  have key: ∀{t:List aA},(∀c∈t,c∈s)->dL (t.map bD)->b∈t->rowAt (t.map (l3 C)) y= (l3 C b).xs:=by
   intro t ht hc hbt
   induction t with
   | nil=>cases hbt
   | cons c t ih=>
    rw [dW,jJ]
    by_cases hy:c.Y0<=y/\y<c.Y1
    ·rw [aC (show (l3 C c).y0<=y/\y< (l3 C c).y1 from hy)]
     rcases fG.1 hbt with rfl | hbt
     ·rfl
     ·have:=hc.uZ (bD b) (cH.2 ⟨b,hbt,rfl⟩)
      have e1: (bD c).y1=c.Y1:=rfl
      have e2: (bD b).y0=b.Y0:=rfl
      omega
    ·rw [aD (show ¬((l3 C c).y0<=y/\y< (l3 C c).y1) from hy)]
     rcases fG.1 hbt with rfl | hbt
     ·exact absurd h2 hy
     ·exact ih (fun d hd=>ht d (jk _ hd)) hc.tail hbt
  rw [key (fun c hc=>hc) hs hb]
  have h1':=hinc b hb
  show k7 (m5 ((wz b.Xs).filter (fun p=>decide ((⟨p.1,b.Y0,p.2,b.Y1⟩:aI)∈C)))) x=true
  rw [sH h1',u7]
  exact⟨q,iz.2 ⟨hq,cG hr⟩,h1⟩
 have hsame:p.map bD= (s.map (l3 C)).foldl kH []:=u4 hp f1 fun x y=>by
  rw [hcov,fH]
  have e:rowAt ((s.map (l3 C)).foldl kH []) y=rowAt (s.map (l3 C)) y:=by
   rw [f3]
   by_cases h: ∃b∈s.map (l3 C),b.y0<=y/\y<b.y1
   ·rw [aC h]
   ·rw [aD h]
    exact(iY fun b hb=>by
     have: ¬(b.y0<=y/\y<b.y1):=fun h2=>h ⟨b,hb,h2⟩
     omega).symm
  unfold sG
  rw [e]
  exact⟨hrow2 x y,hrow (fun b hb=>hb) x y⟩
 have hc1: (aK p).length=lU (p.map bD):=by
  have: ∀p:List aA,(aK p).length=lU (p.map bD):=fun p=>by
   induction p with
   | nil=>rfl
   | cons b p ih=>rw [kJ,dR,j5,ih];unfold lU;rw [dW,dW,List.sum_cons];rfl
  exact this p
 have hc2: ∀s:List aA,lU (s.map (l3 C))= ((aK s).filter (fun r=>decide (r∈C))).length:=fun s=>by
  induction s with
  | nil=>rfl
  | cons b s ih=>
   rw [kJ,iA,dR,<-ih]
   unfold lU
   rw [dW,dW,List.sum_cons]
   congr 1
   show (m5 _).length / 2=_
   rw [(vA _).2]
   unfold kI
   rw [List.filter_map,gU];rfl
 have hc3: ((aK s).filter (fun r=>decide (r∈C))).length<=C.length:=dN (List.Nodup.sublist List.filter_sublist (yK hs)) fun r hr=>of_decide_eq_true (iz.1 hr).2
 rw [hc1,hsame]
 have e0:lU ([]:List Bd)=0:=rfl
 have:=hc2 s
 omega
end Go.Gk
namespace Go.Gk
open Go Classical
section
variable {N:Nat}
theorem qW {all:List aI} (w:aI->Nat): ∀(c:List Nat),((c.filterMap (fun i=>all[i]?)).map w).sum= (c.map (fun i=>(all[i]?).elim 0 w)).sum
 | []=>rfl
 | i::c=>by
  rw [dW,List.sum_cons,<-qW w c]
  cases h:all[i]? with
  | none=>rw [List.filterMap_cons_none (f:=fun i=>all[i]?) h];simp
  | some x=>rw [List.filterMap_cons_some (f:=fun i=>all[i]?) h,dW,List.sum_cons];rfl
theorem Dz {all:List aI} {u:Nat->Nat} (h: ∀i,i<all.length->u i∈bL all.length u) (w:aI->Nat): ((bL all.length u).map (fun k=>((kO all all.length u k).map w).sum)).sum= (all.map w).sum:=by
 have e: (fun k=>((kO all all.length u k).map w).sum)=fun k=>(((List.range all.length).filter (fun x=>decide (u x=k))).map (fun i=>(all[i]?).elim 0 w)).sum:=by
  funext k;unfold kO;rw [qW];rfl
 rw [e,yJ (kK _ _) u _ (fun x hx=>h x (l4.1 hx))]
 have: ∀m,m<=all.length->((List.range m).map (fun i=>(all[i]?).elim 0 w)).sum= ((all.take m).map w).sum:=by
  intro m
  induction m with
  | zero=>intro _;rfl
  | succ m ih=>
   intro hm
   rw [vz,ih (by omega),fS (by omega),eY,List.sum_append,aN (by omega)]
   simp
 rw [this _ (bG _),fW]
theorem vB: ∀{l m:List Nat},l.length=m.length->(∀(j x y:Nat),l[j]? =some x->m[j]? =some y->x<=y)->l.sum<=m.sum
 | [],[],_,_=>bG _
 | [],_::_,h,_=>by simp at h
 | _::_,[],h,_=>by simp at h
 | a::l,b::m,h,hle=>by
  have h1:=hle 0 a b rfl rfl
  have h2:=vB (l:=l) (m:=m) (by simpa using h) fun j x y hx hy=>hle (j+1) x y (by simpa using hx) (by simpa using hy)
  rw [List.sum_cons,List.sum_cons];omega
theorem DA {r hs:List aI} {s:List aA} (h1: ∀x∈r,dX x=true) (h2: ∀x∈hs,dX x=true) (hc:dL (s.map bD)) (hl:rH (nP r++nP hs) (kf r++kf hs) (s.map bD)): ∀q∈aK s,dX q=true/\q.X0<q.X1/\q.Y0<q.Y1:=by
 intro q hq
 have hp:=wI hc q hq
 obtain⟨b,hb,p,hpm,rfl⟩:=ml hq
 have hll:=hl (bD b) (cH.2 ⟨b,hb,rfl⟩)
 have hm:=xo p hpm
 have bx: ∀c∈nP r++nP hs,-1000000<=c/\c<=1000000:=fun c hcm=>by
  rcases cO.1 hcm with h | h
  ·obtain⟨x,hx,h⟩:=nQ.1 h
   have:=jM (h1 x hx)
   rcases h with rfl | rfl <;> omega
  ·obtain⟨x,hx,h⟩:=nQ.1 h
   have:=jM (h2 x hx)
   rcases h with rfl | rfl <;> omega
 have by': ∀c∈kf r++kf hs,-1000000<=c/\c<=1000000:=fun c hcm=>by
  rcases cO.1 hcm with h | h
  ·obtain⟨x,hx,h⟩:=jL.1 h
   have:=jM (h1 x hx)
   rcases h with rfl | rfl <;> omega
  ·obtain⟨x,hx,h⟩:=jL.1 h
   have:=jM (h2 x hx)
   rcases h with rfl | rfl <;> omega
 have g1:=bx _ (hll.2.2 p.1 hm.1)
 have g2:=bx _ (hll.2.2 p.2 hm.2)
 have g3:=by' _ hll.1
 have g4:=by' _ hll.2.1
 exact⟨vo ⟨g1,g3,g2,g4⟩,hp⟩
structure pU (r hs:List aI) (s:List aA) (u:Nat->Nat) (ps:List (List aA)):Prop where
 r1: ∀x∈r,dX x=true
 r2: ∀x∈hs,dX x=true
 k1: ∀x∈r,yR x
 k2: ∀x∈hs,yR x
 dr:qu r hs s
 pt:oz s u ps
 Al: (aK s).length<=2000
theorem pU.part {r hs:List aI} {s:List aA} {u:Nat->Nat} {ps:List (List aA)} (h:pU r hs s u ps) {p:List aA} (hp:p∈ps):dL (p.map bD)/\(aK p).length<=2000/\∀q∈aK p,dX q=true/\q.X0<q.X1/\q.Y0<q.Y1:=by
 obtain⟨sx,sy⟩:=h.dr.small h.k1 h.k2
 obtain⟨j,k,g1,g2,g3,g4⟩:=vt h.pt h.dr.can h.dr.lim sx sy hp
 have:=wJ h.dr.can g3.can (fun x hx=>by
  obtain⟨i,_,_,hi⟩:=lL.1 hx
  exact ga hi) g3.cover
 have h2:=vk (aK s) (aK s).length u k
 have:=h.Al
 exact⟨g3.can,by omega,DA h.r1 h.r2 g3.can g4⟩
theorem pU.bL {r hs:List aI} {s:List aA} {u:Nat->Nat} {ps:List (List aA)} (h:pU r hs s u ps): ∀i,i< (aK s).length->u i∈Gk.bL (aK s).length u:=fun i hi=>hG.2 ⟨by have:=h.pt.join.le i hi;omega,h.pt.join.rr i hi⟩
theorem pU.total {r hs:List aI} {s:List aA} {u:Nat->Nat} {ps:List (List aA)} (h:pU r hs s u ps): (ps.map (fun p=>(aK p).length)).sum<=(aK s).length:=by
 have h1:=Dz h.bL (fun _=>1)
 have one: ∀l:List aI,(l.map (fun _=>1)).sum=l.length:=fun l=>by
  induction l with
  | nil=>rfl
  | cons x l ih=>simp only [dW,List.sum_cons,ih,km];omega
 simp only [one] at h1
 rw [<-h1]
 refine vB (by simp [h.pt.len]) fun j x y hx hy=>?_
 rw [gR,Option.map_eq_some_iff] at hx hy
 obtain⟨p,hp,rfl⟩:=hx
 obtain⟨k,hk,rfl⟩:=hy
 have hs:=h.pt.each j k p hk hp
 exact wJ h.dr.can hs.can (fun x hx=>by
  obtain⟨i,_,_,hi⟩:=lL.1 hx
  exact ga hi) hs.cover
theorem yL {ps:List (List aA)} {x y:Int}:u5 (ps.flatMap aK) x y=true↔∃p∈ps,u5 (aK p) x y=true:=by
 rw [iZ]
 constructor
 ·rintro⟨r,hr,h⟩
  obtain⟨p,hp,hrp⟩:=List.mem_flatMap.1 hr
  exact⟨p,hp,iZ.2 ⟨r,hrp,h⟩⟩
 ·rintro⟨p,hp,h⟩
  obtain⟨r,hr,h⟩:=iZ.1 h
  exact⟨r,List.mem_flatMap.2 ⟨p,hp,hr⟩,h⟩
theorem pU.cover {r hs:List aI} {s:List aA} {u:Nat->Nat} {ps:List (List aA)} (h:pU r hs s u ps) (x y:Int):u5 (ps.flatMap aK) x y=sG (s.map bD) x y:=by
 rw [<-qm h.dr.can,fH,yL]
 constructor
 ·rintro⟨p,hp,hc⟩
  obtain⟨j,hj⟩:=fw hp
  have hjl:=(aW.1 hj).1
  have hk: (Gk.bL (aK s).length u)[j]? =some ((Gk.bL (aK s).length u)[j]'(by rw [<-h.pt.len];exact hjl)):=aN _
  have hs:=h.pt.each j _ _ hk hj
  rw [qm hs.can,hs.cover] at hc
  obtain⟨q,hq,h2⟩:=iZ.1 hc
  obtain⟨i,_,_,hi⟩:=lL.1 hq
  exact iZ.2 ⟨q,ga hi,h2⟩
 ·intro hc
  obtain⟨q,hq,h2⟩:=iZ.1 hc
  obtain⟨i,hi⟩:=fw hq
  have hil:=(aW.1 hi).1
  obtain⟨j,hj⟩:=fw (h.bL i hil)
  have hjl:j<ps.length:=by rw [h.pt.len];exact(aW.1 hj).1
  have hs:=h.pt.each j _ _ hj (aN hjl)
  refine⟨_,dB hjl,?_⟩
  rw [qm hs.can,hs.cover]
  exact iZ.2 ⟨q,lL.2 ⟨i,hil,rfl,hi⟩,h2⟩
section
variable {a:jS} {lh:List (List aA)} {fO:List (List (List aA))} {r:Nat->Nat} {gs:List cP} {ofP ofB nX:List Int} {oD:List eZ}
end
end
end Go.Gk
namespace Go.Gk
open Go Classical
def xz (f:Int->Int->Bool) (x y:Int):Prop:=f x y=true/\∀x' y',f x' y'=true->y<y'\/(y=y'/\x<=x')
theorem xz.unique {f:Int->Int->Bool} {x y x' y':Int} (h:xz f x y) (h':xz f x' y'):x=x'/\y=y':=by
 have h1:=h.2 _ _ h'.1
 have h2:=h'.2 _ _ h.1
 omega
section
variable {N:Nat}
structure BI (all:List aI) (u:Nat->Nat) (i:Nat) (q:List Nat) (done:List Bool) (own:List aI):Prop where
 len:done.length=all.length
 nd:q.Nodup
 lt: ∀k∈q,k<all.length/\u k=i
 hd:i∈q
 dn: ∀k,k<all.length->done[k]? =some (decide (u k<i\/k∈q))
 ow:own.map some=q.map (fun k=>all[k]?)
theorem BI.Al {all:List aI} {u:Nat->Nat} {i:Nat} {q:List Nat} {done:List Bool} {own:List aI} (h:BI all u i q done own):q.length<=all.length:=by
 have:=dN h.nd (m:=List.range all.length) (fun k hk=>by rw [l4];exact(h.lt k hk).1)
 rwa [List.length_range] at this
theorem BI.at_ {all:List aI} {u:Nat->Nat} {i:Nat} {q:List Nat} {done:List Bool} {own:List aI} (h:BI all u i q done own) {p k:Nat} (hk:q[p]? =some k):own[p]? =all[k]? :=by
 have e:=congrArg (fun l=>l[p]?) h.ow
 simp only [gR,hk,Option.map_some] at e
 cases ho:own[p]? with
 | none=>rw [ho] at e;cases e
 | some x=>rw [ho] at e;injection e
theorem BI.mem {all:List aI} {u:Nat->Nat} {i:Nat} {q:List Nat} {done:List Bool} {own:List aI} (h:BI all u i q done own) {r:aI}:r∈own↔∃k∈q,all[k]? =some r:=by
 have:r∈own↔some r∈own.map some:=by simp
 rw [this,h.ow,cH]
end
end Go.Gk
namespace Go.Gk
open Go Classical
section
variable {α β:Type}
theorem CN {N:Nat} {l:List α} {s:β} {φ:α->β->Option Int} (c:α->Int) (hφ: ∀x,φ x s=some (c x)) (hs: ∀(i j:Nat) (x y:α),i<j->l[i]? =some x->l[j]? =some y->0<=c x->0<c y)
  (hl:l.length<=1048576) (hN:4194304<=N): ∃r,Ck N l s φ=some r/\r.2=l.any (fun x=>c x==0)/\(r.2=true->r.1=A0 l (fun x=>c x==0)):=by
 show Ok (Ck N l s φ) (fun r=>r.2=l.any (fun x=>c x==0)/\(r.2=true->r.1=A0 l (fun x=>c x==0)))
 unfold Ck
 refine Ok.bind (Ok.mn (Go:=fun st:Int×Int=>∃a:Nat,st.1= ((a:Nat):Int)/\a<=l.length/\(∀j x,j<a->l[j]? =some x->c x<0)/\(∀j x,a<=j->l[j]? =some x->0<=c x)) (Rt:=fun _=>True)
  (fun st=>∃a b:Nat,st= (((a:Nat):Int),((b:Nat):Int))/\a<=b/\b<=l.length/\(∀j x,j<a->l[j]? =some x->c x<0)/\(∀j x,b<=j->l[j]? =some x->0<=c x))
  (fun st=>(st.2 - st.1).toNat) ?_ ⟨0,l.length,rfl,by omega,bG _,fun j x hj=>by omega,fun j x hj hx=>by have:=(aW.1 hx).1;omega⟩ (by simp only;omega)) ?_
 ·rintro st ⟨a,b,rfl,hab,hb,h1,h2⟩
  dsimp only
  by_cases hlt:a<b
  ·have hm: (a+b) / 2<l.length:=by omega
   have hx:l[(a+b) / 2]? =some l[(a+b) / 2]:=aN hm
   rw [show decide (((a:Nat):Int)< ((b:Nat):Int))=true by rw [bW];omega,aU,A1 hlt (by omega:b<=4611686018427387904)]
   refine Ok.ix hx (Ok.eq (hφ _) ?_)
   by_cases hc:c l[(a+b) / 2]<0
   ·rw [cG hc,aU,aB]
    refine Ok.nx ⟨⟨(a+b) / 2+1,b,?_,by omega,hb,fun j x hj hx'=>?_,h2⟩,?_⟩
    ·rw [gO (by omega)]
    ·by_cases e:j= (a+b) / 2
     ·subst e;rw [hx] at hx';injection hx' with hx';rw [<-hx'];exact hc
     ·by_cases h0:c x<0
      ·exact h0
      ·have:=hs j _ x _ (by omega) hx' hx (by omega)
       omega
    ·rw [gO (by omega)];simp only;omega
   ·rw [bP hc,aY,aB]
    refine Ok.nx ⟨⟨a,(a+b) / 2,rfl,by omega,by omega,h1,fun j x hj hx'=>?_⟩,by simp only;omega⟩
    by_cases e:j= (a+b) / 2
    ·subst e;rw [hx] at hx';injection hx' with hx';rw [<-hx'];omega
    ·have:=hs _ j _ x (by omega) hx hx' (by omega)
     omega
  ·rw [show decide (((a:Nat):Int)< ((b:Nat):Int))=false by rw [decide_eq_false_iff_not];omega,aY]
   exact Ok.br ⟨a,rfl,by omega,h1,fun j x hj hx=>h2 j x (by omega) hx⟩
 intro o ho
 refine Ok.cs ho ?_ (fun r hr=>r.elim)
 rintro⟨st1,st2⟩ ⟨a,ha,hle,h1,h2⟩
 dsimp only at ha ⊢
 subst ha
 by_cases hlt:a<l.length
 ·have hx:l[a]? =some l[a]:=aN hlt
  rw [show decide (((a:Nat):Int)< ((l.length:Nat):Int))=true by rw [bW];omega,aU,gl hx,aB,hφ,aB,aB]
  refine Ok.ret ?_
  by_cases he:c l[a]=0
  ·have hb: (c l[a]==0)=true:=by rw [beq_iff_eq];exact he
   rw [hb]
   refine⟨(jQ.2 ⟨_,dB hlt,hb⟩).symm,fun _=>?_⟩
   rw [Ci hx hb (fun j y hj hy=>by have:=h1 j y hj hy;rw [beq_eq_false_iff_ne];omega)]
  ·have hb: (c l[a]==0)=false:=by rw [beq_eq_false_iff_ne];exact he
   rw [hb]
   refine⟨?_,fun h=>by cases h⟩
   symm
   rw [List.any_eq_false]
   intro x hx'
   obtain⟨j,hj⟩:=fw hx'
   rw [mR,beq_eq_false_iff_ne]
   by_cases hja:j<a
   ·have:=h1 j x hja hj;omega
   ·by_cases e:j=a
    ·subst e;rw [hx] at hj;injection hj with hj;rw [<-hj];exact he
    ·have h3:=h2 a _ (bG _) hx
     have:=hs a j _ x (by omega) hx hj h3
     omega
 ·rw [show decide (((a:Nat):Int)< ((l.length:Nat):Int))=false by rw [decide_eq_false_iff_not];omega,aY,aB]
  refine Ok.ret ⟨?_,fun h=>by cases h⟩
  symm
  rw [List.any_eq_false]
  intro x hx'
  obtain⟨j,hj⟩:=fw hx'
  have:=(aW.1 hj).1
  have:=h1 j x (by omega) hj
  rw [mR,beq_eq_false_iff_ne];omega
end
def ue (p q:eK):Prop:=cS.lt p.Part q.Part\/(p.Part=q.Part/\cS.lt p.eK q.eK)
theorem As {p q:eK} (h1:p.Part=q.Part) (h2:p.eK=q.eK):p=q:=by cases p;cases q;simp at h1 h2;subst h1;subst h2;rfl
theorem ue.irrefl (p:eK): ¬ue p p:=fun h=>by
 rcases h with h | ⟨_,h⟩
 ·exact cS.lt_irrefl _ h
 ·exact cS.lt_irrefl _ h
theorem ue.trans {p q r:eK} (h1:ue p q) (h2:ue q r):ue p r:=by
 rcases h1 with h1 | ⟨e1,h1⟩ <;> rcases h2 with h2 | ⟨e2,h2⟩
 ·exact .inl (cS.lt_trans h1 h2)
 ·exact .inl (by rw [<-e2];exact h1)
 ·exact .inl (by rw [e1];exact h2)
 ·exact .inr ⟨e1.trans e2,cS.lt_trans h1 h2⟩
theorem ue.total (p q:eK):ue p q\/p=q\/ue q p:=by
 rcases cS.yq p.Part q.Part with h | h | h
 ·exact .inl (.inl h)
 ·rcases cS.yq p.eK q.eK with h' | h' | h'
  ·exact .inl (.inr ⟨h,h'⟩)
  ·exact .inr (.inl (As h h'))
  ·exact .inr (.inr (.inr ⟨h.symm,h'⟩))
 ·exact .inr (.inr (.inl h))
theorem ue.asymm {p q:eK} (h:ue p q): ¬ue q p:=fun h'=>ue.irrefl p (h.trans h')
theorem ue.ne {p q:eK} (h:ue p q):p≠q:=fun e=>by subst e;exact ue.irrefl _ h
theorem nT {a b:cS}:Lib.compareBytes a.cA b.cA=0↔a=b:=⟨fun h=>cS.ext' ((rj _ _).1 h),fun h=>(rj _ _).2 (by rw [h])⟩
theorem mf {p q:eK}:il p q=0↔p=q:=by
 unfold il
 by_cases h:Lib.compareBytes p.Part.cA q.Part.cA=0
 ·rw [aD (by simpa using h),nT]
  exact⟨fun h'=>As (nT.1 h) h',fun h'=>by rw [h']⟩
 ·rw [aC h]
  exact⟨fun h'=>absurd h' h,fun h'=>absurd (nT.2 (by rw [h'])) h⟩
theorem vC {p q:eK}:il p q<0↔ue p q:=by
 unfold il ue
 by_cases h:Lib.compareBytes p.Part.cA q.Part.cA=0
 ·rw [aD (by simpa using h),ri]
  have e:=nT.1 h
  constructor
  ·exact fun h'=> .inr ⟨e,h'⟩
  ·rintro(h' | ⟨_,h'⟩)
   ·rw [e] at h';exact absurd h' (cS.lt_irrefl _)
   ·exact h'
 ·rw [aC h,ri]
  constructor
  ·exact fun h'=> .inl h'
  ·rintro(h' | ⟨e,_⟩)
   ·exact h'
   ·exact absurd (nT.2 e) h
theorem rE {p q:eK}:0<il p q↔ue q p:=by
 constructor
 ·intro h
  rcases ue.total p q with h' | h' | h'
  ·have:=vC.2 h';omega
  ·have:=mf.2 h';omega
  ·exact h'
 ·intro h
  by_cases h1:il p q<0
  ·exact absurd (vC.1 h1) h.asymm
  ·by_cases h2:il p q=0
   ·exact absurd (mf.1 h2).symm h.ne
   ·omega
section
variable {N:Nat}
structure zJ (a:jS) (x:cT):Prop where
 name:nu x.Part=true/\isWord x.eK=true
 F5:0<=x.dY/\x.dY< ((a.aJ.length:Nat):Int)
 at_:qT x.At=true
structure nU (a:jS):Prop where
 Al:a.bE.length<=1000
 each: ∀x∈a.bE,zJ a x
 up:a.bE.Pairwise (fun x y=>ue (j6 x) (j6 y))
theorem xA {a:jS} {k:Nat} {x:cT} (hx:a.bE[k]? =some x) (h:j7 a k=none):zJ a x/\∀y,0<k->a.bE[k - 1]? =some y->ue (j6 y) (j6 x):=by
 unfold j7 at h
 rw [hx,Option.bind_some] at h
 split at h
 ·rename_i h1
  split at h
  ·rename_i h2
   split at h
   ·cases h
   ·rename_i h3
    rw [bM] at h1 h2
    unfold f9 at h2
    rw [bM,bW,bW] at h2
    refine⟨⟨h1,⟨by omega,by omega⟩,h2.2⟩,fun y hk hy=>?_⟩
    have h4: ¬il (j6 x) (j6 y)<=0:=fun h4=>h3 ⟨hk,y,hy,h4⟩
    exact rE.1 (by omega)
  ·cases h
 ·cases h
theorem zK {a:jS} {k:Nat} {e:Int} (h:j7 a k=some e):e≠0:=by
 unfold j7 at h
 cases hx:a.bE[k]? with
 | none=>rw [hx] at h;cases h
 | some x=>
  rw [hx,Option.bind_some] at h
  repeat' split at h
  all_goals first | (injection h with h;omega) | cases h
theorem Bs {a:jS} (h:jN a=0):nU a:=by
 unfold jN at h
 split at h
 ·omega
 rename_i hl
 have hn:rh a.bE.length (j7 a)=none:=by
  cases hf:rh a.bE.length (j7 a) with
  | none=>rfl
  | some e=>
   rw [hf] at h
   obtain⟨k,_,hk,_⟩:=mi.1 hf
   exact absurd h (zK hk)
 rw [kF] at hn
 have hg: ∀(k:Nat) x,a.bE[k]? =some x->zJ a x/\∀y,0<k->a.bE[k - 1]? =some y->ue (j6 y) (j6 x):=fun k x hx=>xA hx (hn k (aW.1 hx).1)
 refine⟨by omega,fun x hx=>?_,?_⟩
 ·obtain⟨k,hk⟩:=fw hx
  exact(hg k x hk).1
 ·have hstep: ∀(n i:Nat) x y,a.bE[i]? =some x->a.bE[i+n+1]? =some y->ue (j6 x) (j6 y):=by
   intro n
   induction n with
   | zero=>intro i x y hx hy;exact(hg (i+1) y hy).2 x (by omega) hx
   | succ n ih=>
    intro i x y hx hy
    have hz:i+n+1<a.bE.length:=by have:=(aW.1 hy).1;omega
    have h1:=ih i x _ hx (aN hz)
    exact h1.trans ((hg (i+ (n+1)+1) y hy).2 _ (by omega) (by rw [show i+ (n+1)+1 - 1=i+n+1 by omega];exact aN hz))
  rw [l5]
  intro i j hi hj hij
  exact hstep (j - i - 1) i _ _ (aN hi) (by rw [show i+ (j - i - 1)+1=j by omega];exact aN hj)
theorem nU.inj {a:jS} (h:nU a) {i j:Nat} {x y:cT} (hx:a.bE[i]? =some x) (hy:a.bE[j]? =some y) (e:j6 x=j6 y):i=j:=by
 obtain⟨h1,rfl⟩:=aW.1 hx
 obtain⟨h2,rfl⟩:=aW.1 hy
 have hp:=l5.1 h.up
 rcases Nat.lt_trichotomy i j with h3 | h3 | h3
 ·exact absurd e (hp i j h1 h2 h3).ne
 ·exact h3
 ·exact absurd e.symm (hp j i h2 h1 h3).ne
theorem yM {l:List cT} {p:eK} (hu:l.Pairwise (fun x y=>ue (j6 x) (j6 y))) (hl:l.length<=1048576) (hN:4194304<=N) {φ:cT->eK->Option Int} (hφ: ∀x,φ x p=some (il (j6 x) p)):
  ∃r,Ck N l p φ=some r/\(bif (!r.2) then (some (-1)) else (some r.1))=some (A0 l (fun x=>decide (j6 x=p))):=by
 obtain⟨r,h1,h2,h3⟩:=CN (N:=N) (l:=l) (s:=p) (φ:=φ) (fun x=>il (j6 x) p) hφ (fun i j x y hij hx hy hc=>by
  obtain⟨g1,rfl⟩:=aW.1 hx
  obtain⟨g2,rfl⟩:=aW.1 hy
  have hlt:=l5.1 hu i j g1 g2 hij
  refine rE.2 ?_
  by_cases h0:il (j6 l[i]) p=0
  ·rw [<-mf.1 h0];exact hlt
  ·exact(rE.1 (by omega)).trans hlt) hl hN
 have e: (fun x=>il (j6 x) p==0)= (fun x=>decide (j6 x=p)):=by
  funext x
  rw [fH,beq_iff_eq,bW,mf]
 rw [e] at h2 h3
 refine⟨r,h1,?_⟩
 cases hr:r.2 with
 | true=>simp only [mU,aY];rw [h3 hr]
 | false=>
  simp only [nY,aU]
  rw [hr] at h2
  rw [Ch h2.symm]
def pV (a:jS) (p:eK):Int:=A0 a.bE (fun x=>decide (j6 x=p))
theorem pW (a:jS) (p:eK): (pV a p = -1/\∀x∈a.bE,j6 x≠p)\/∃(k:Nat) (x:cT),pV a p= ((k:Nat):Int)/\a.bE[k]? =some x/\j6 x=p:=by
 rcases qj a.bE (fun x=>decide (j6 x=p)) with ⟨h1,h2⟩ | ⟨k,x,h1,h2,h3,_⟩
 ·exact .inl ⟨h1,fun x hx=>of_decide_eq_false (h2 x hx)⟩
 ·exact .inr ⟨k,x,h1,h2,of_decide_eq_true h3⟩
end
end Go.Gk
namespace Go.Gk
open Go Classical
section
variable {N:Nat}
end
end Go.Gk
namespace Go.Gk
open Go Classical
section
variable {N:Nat}
end
section
variable {N:Nat} {a:jS} {lh:List (List aA)} {fO:List (List (List aA))} {r:Nat->Nat} {gs:List cP} {ofP ofB nX:List Int} {oD:List eZ}
end
end Go.Gk
namespace Go.Gk
open Go Classical
structure PS (n:Nat) (r:Nat->Nat) (h:Nat) (q:List Nat) (seen:List Bool) (pieces todo:List Int):Prop where
 sl:seen.length=n
 sn: ∀p,p<n->seen[p]? =some (decide (r p<h\/p∈q))
 qn:q.Nodup
 qi: ∀p∈q,p<n/\r p=h
 q0:h∈q
 td:todo=ints q
 pi:kD pieces
 pm: ∀x,x∈pieces↔∃p∈q,x= ((p:Nat):Int)
structure QS (n m:Nat) (tch:List (List Int)) (r:Nat->Nat) (h:Nat) (q qb:List Nat) (sU:List Int) (used:List Bool):Prop where
 ul:used.length=m
 un: ∀k,k<m->used[k]? =some (decide (k∈qb))
 bi:kD sU
 bm: ∀x,x∈sU↔∃k∈qb,x= ((k:Nat):Int)
 bk: ∀k∈qb,k<m/\r (n+k)=h/\∀l,tch[k]? =some l->∀p:Nat,((p:Nat):Int)∈l->p∈q
theorem PS.Al {n:Nat} {r:Nat->Nat} {h:Nat} {q:List Nat} {seen:List Bool} {pieces todo:List Int} (H:PS n r h q seen pieces todo):q.length<=n/\pieces.length<=n:=by
 have h1:=dN H.qn (m:=List.range n) (fun k hk=>by rw [l4];exact(H.qi k hk).1)
 rw [List.length_range] at h1
 have h2:=dN H.pi.nodup (m:=ints q) (fun x hx=>vu.2 ((H.pm x).1 hx))
 rw [kY] at h2
 exact⟨h1,by omega⟩
theorem QS.Al {n m:Nat} {tch:List (List Int)} {r:Nat->Nat} {h:Nat} {q qb:List Nat} {sU:List Int} {used:List Bool} (H:QS n m tch r h q qb sU used):sU.length<=m:=by
 have h2:=dN H.bi.nodup (m:=ints (List.range m)) (fun x hx=>by
  obtain⟨k,hk,e⟩:=(H.bm x).1 hx
  exact vu.2 ⟨k,l4.2 (H.bk k hk).1,e⟩)
 rwa [kY,List.length_range] at h2
section
variable {N:Nat}
end
end Go.Gk
namespace Go.Gk
open Go Classical
structure Ic (G G':List cP):Prop where
 len:G'.length=G.length
 each: ∀(g:Nat) x,G[g]? =some x->∃y,G'[g]? =some y/\y.lO=x.lO/\y.aS=x.aS
section
variable {N:Nat}
end
section
variable {N:Nat} {a:jS} {lh:List (List aA)} {fO:List (List (List aA))} {r:Nat->Nat} {gs:List cP} {ofP ofB nX:List Int} {oD:List eZ}
theorem pS.tX (b:pS a lh fO r gs ofP ofB nX oD):nU a:=Bs b.F7.tX
end
end Go.Gk
namespace Go.Gk
open Go Classical
section
variable {N:Nat} {a:jS} {lh:List (List aA)} {fO:List (List (List aA))} {r:Nat->Nat} {gs:List cP} {ofP ofB nX:List Int} {oD:List eZ}
end
section
variable {N:Nat}
end
end Go.Gk
namespace Go.Gk
open Go Classical
section
variable {bs:List bU} {ls:List cT} {pcs:List aH} {r:Nat->Nat} {gs:List cP} {ofP ofB nX:List Int} {oD:List eZ}
end
section
variable {N:Nat} {a:jS} {lh:List (List aA)} {fO:List (List (List aA))} {r:Nat->Nat} {gs:List cP} {ofP ofB nX:List Int} {oD:List eZ}
end
section
variable {N:Nat}
end
end Go.Gk
namespace Go.Gk
open Go Classical
section
variable {N:Nat} {a:jS} {lh:List (List aA)} {fO:List (List (List aA))} {r:Nat->Nat} {gs:List cP} {ofP ofB nX:List Int} {oD:List eZ}
theorem nV (g:nU a) (p:eK) (hN:4398046511104<=N):gw N a p=some (pV a p):=by
 obtain⟨r,h1,h2⟩:=yM (N:=N) (p:=p) g.up (by have:=g.Al;omega) (by omega) (φ:=fM N) (fun x=>by unfold fM;rw [tM,aB,oM,aB])
 unfold gw
 have e:dV N a.bE p (fM N)=Ck N a.bE p (fM N):=rfl
 rw [e,h1,aB];exact h2
end
section
variable {N:Nat}
end
end Go.Gk
namespace Go.Gk
open Go Classical
theorem vT.uniq {n m:Nat} {tch:List (List Int)} {r1 r2:Nat->Nat} (h1:vT n m tch r1) (h2:vT n m tch r2) {i j:Nat} (hi:i<n+m) (hj:j<n+m):r1 i=r1 j↔r2 i=r2 j:=by
 have key: ∀{r1 r2:Nat->Nat},vT n m tch r1->vT n m tch r2->r1 i=r1 j->r2 i=r2 j:=fun{r1 r2} h1 h2 e=>
  (h1.fi (fun x=>r2 i=r2 x) (fun a b hab=>by rw [h2.co a b hab]) i j hi hj e) rfl
 exact⟨key h1 h2,key h2 h1⟩
section
variable {N:Nat} {a:jS} {lh:List (List aA)} {fO:List (List (List aA))} {r:Nat->Nat} {gs:List cP} {ofP ofB nX:List Int} {oD:List eZ}
theorem EF (x y:Int) (u:List Int):iJ N x y [] u=cQ N u x y:=by
 show (((cQ N u x y).bind fun x38=>some x38).bind fun s36=>some s36)=_
 cases cQ N u x y <;> rfl
theorem zL {bs:List bU} {pcs:List aH} {l:cT} {h:eZ} (hh:ny bs pcs l=some h) (hn:pcs.length+bs.length<=1000000000):
  gA N h ((pcs.length:Nat):Int)=some ((iq pcs.length h:Nat):Int)/\iq pcs.length h<pcs.length+bs.length:=by
 obtain⟨k,e,h1,h2⟩:=(zG hh).num
 unfold gA iq
 cases hB:h.bU with
 | true=>
  have:=(h1 hB).1
  rw [aU,aC rfl,e,bS,wrap_add (by omega)]
  exact⟨rfl,by omega⟩
 | false=>
  have:=h2 hB
  rw [aY,aD rI,e,bS]
  exact⟨rfl,by omega⟩
structure DB (bs:List bU) (pcs:List aH) (ls:List cT) (r2:Nat->Nat) (j:Nat) (up:List Int) (fm:List (Int×Int)) (out:List Int):Prop where
 uf:UF (pcs.length+bs.length) up r2
 len:out.length=ls.length
 no: ∀i l,i<j->ls[i]? =some l->ny bs pcs l=none->out[i]? =some (-1)
 yes: ∀i l h,i<j->ls[i]? =some l->ny bs pcs l=some h->jy fm ((r2 (iq pcs.length h):Nat):Int)=true/\out[i]? =some (dQ fm ((r2 (iq pcs.length h):Nat):Int) 0)
 low: ∀x,jy fm x=true->∃v:Nat,dQ fm x 0= ((v:Nat):Int)/\v<j
 inj: ∀x y,jy fm x=true->jy fm y=true->dQ fm x 0=dQ fm y 0->x=y
theorem zM {bs:List bU} {pcs:List aH} {ls:List cT} (hn:pcs.length+bs.length<=1000000000) (hp:pcs.length<=1073741824) (hbl:bs.length<=1073741824) (hl:ls.length<=1073741824) (hof:nX=ls.map (Ap bs pcs r)) (hat:oD=ls.map (fun l=>(ny bs pcs l).getD ⟨false,0⟩)) (hN:4398046511104<=N):
  ∃r2 c up fm,je N bs ls pcs (k6 bs pcs) nX oD []=some c/\vT pcs.length bs.length (k6 bs pcs) r2/\DB bs pcs ls r2 ls.length up fm c:=by
 suffices h:Ok (je N bs ls pcs (k6 bs pcs) nX oD []) (fun c=>∃r2 up fm,vT pcs.length bs.length (k6 bs pcs) r2/\DB bs pcs ls r2 ls.length up fm c) by
  obtain⟨c,h1,r2,up,fm,h2,h3⟩:=h
  exact⟨r2,c,up,fm,h1,h2,h3⟩
 unfold je
 refine Ok.eq (x:=[]) rfl ?_
 rw [wrap_add (by omega)]
 obtain⟨up0,u1,u2⟩:=tV (N:=N) (n:=pcs.length+bs.length) (by omega)
 refine Ok.eq u1 ?_
 simp only [EF]
 refine Ok.bind (wE (n:=pcs.length) (m:=bs.length) (by unfold k6;simp) (yH (by omega)) (by omega) (by omega) u2 hN) ?_
 rintro up1 ⟨r2,v1,v2⟩
 refine Ok.eq (x:=up1) rfl (Ok.eq (qh 0 (by omega)) ?_)
 have jO:oD.length=ls.length:=by rw [hat,gU]
 refine Ok.bind (Ok.ko (fun j (st:List Int×List (Int×Int)×List Int)=>DB bs pcs ls r2 j st.1 st.2.1 st.2.2) (by omega) ⟨v1,by simp,fun i l h=>by omega,fun i l h h1=>by omega,fun x hx=>(by cases hx),fun x y hx=>(by cases hx)⟩ ?_) (fun st I=>Ok.ret ⟨r2,st.1,st.2.1,v2,by rw [<-jO];exact I⟩)
 rintro j ⟨up,fm,out⟩ hj I
 rw [jO] at hj
 dsimp only at I ⊢
 have hx:ls[j]? =some ls[j]:=aN hj
 have h1:oD[j]? =some ((ny bs pcs ls[j]).getD ⟨false,0⟩):=by rw [hat,gR,hx];rfl
 have h2:nX[j]? =some (Ap bs pcs r ls[j]):=by rw [hof,gR,hx];rfl
 have h3:out[j]? =some (out[j]'(by rw [I.len];exact hj)):=aN _
 have hjo:j<out.length:=by rw [I.len];exact hj
 refine Ok.ix h1 ?_
 cases hh:ny bs pcs ls[j] with
 | none=>
  have e1:Ap bs pcs r ls[j] = -1:=by unfold Ap qx;rw [hh];rfl
  refine Ok.eq (x:=0) rfl (Ok.eq (x:=true) (by rw [gl h2,aB,e1];rfl) ?_)
  refine Ok.ix h3 (Ok.ret ?_)
  dsimp only
  rw [bS]
  refine⟨I.uf,by rw [gu];exact I.len,fun i l hi hil hn=>?_,fun i l h hi hil hs=>?_,fun x hx=>?_,I.inj⟩
  ·by_cases e:i=j
   ·subst e;rw [List.getElem?_set_self hjo]
   ·rw [List.getElem?_set_ne (Ne.symm e)];exact I.no i l (by omega) hil hn
  ·by_cases e:i=j
   ·subst e;rw [hx] at hil;injection hil with hil;subst hil;rw [hh] at hs;cases hs
   ·rw [List.getElem?_set_ne (Ne.symm e)];exact I.yes i l h (by omega) hil hs
  ·obtain⟨v,q1,q2⟩:=I.low x hx;exact⟨v,q1,by omega⟩
 | some h=>
  obtain⟨c1,c2⟩:=zL (N:=N) hh hn
  have e1: ∃g:Nat,Ap bs pcs r ls[j]= ((g:Nat):Int):=by unfold Ap qx;rw [hh];exact⟨_,rfl⟩
  obtain⟨g,e1⟩:=e1
  refine Ok.eq c1 (Ok.eq (x:=false) (by rw [gl h2,aB,e1,bP (show ¬((g:Nat):Int)<0 by omega),aY];rfl) ?_)
  rw [aY]
  obtain⟨up2,t1,t2⟩:=pI (N:=N) I.uf c2 (by omega)
  refine Ok.eq t1 ?_
  dsimp only
  have fin: ∀(up3:List Int) (fm2:List (Int×Int)),UF (pcs.length+bs.length) up3 r2->(∀x,jy fm x=true->jy fm2 x=true/\dQ fm2 x 0=dQ fm x 0)->jy fm2 ((r2 (iq pcs.length h):Nat):Int)=true->(∀x,jy fm2 x=true->∃v:Nat,dQ fm2 x 0= ((v:Nat):Int)/\v<j+1)->(∀x y,jy fm2 x=true->jy fm2 y=true->dQ fm2 x 0=dQ fm2 y 0->x=y)->
    DB bs pcs ls r2 (j+1) up3 fm2 (out.set j (dQ fm2 ((r2 (iq pcs.length h):Nat):Int) 0)):=fun up3 fm2 g1 g2 g3 g4 g5=>by
   refine⟨g1,by rw [gu];exact I.len,fun i l hi hil hn=>?_,fun i l h' hi hil hs=>?_,g4,g5⟩
   ·by_cases e:i=j
    ·subst e;rw [hx] at hil;injection hil with hil;subst hil;rw [hh] at hn;cases hn
    ·rw [List.getElem?_set_ne (Ne.symm e)];exact I.no i l (by omega) hil hn
   ·by_cases e:i=j
    ·subst e;rw [hx] at hil;injection hil with hil;subst hil;rw [hh] at hs;injection hs with hs;subst hs
     exact⟨g3,by rw [List.getElem?_set_self hjo]⟩
    ·obtain⟨q1,q2⟩:=I.yes i l h' (by omega) hil hs
     rw [List.getElem?_set_ne (Ne.symm e),q2,(g2 _ q1).2]
     exact⟨(g2 _ q1).1,rfl⟩
  cases hm:jy fm ((r2 (iq pcs.length h):Nat):Int) with
  | true=>
   rw [mU,aY]
   obtain⟨up3,t3,t4⟩:=pI (N:=N) t2 c2 (by omega)
   refine Ok.eq (x:=(up2,fm)) rfl (Ok.eq t3 (Ok.ix h3 (Ok.ret ?_)))
   dsimp only
   rw [bS]
   exact fin up3 fm t4 (fun x hx=>⟨hx,rfl⟩) hm (fun x hx=>by obtain⟨v,q1,q2⟩:=I.low x hx;exact⟨v,q1,by omega⟩) I.inj
  | false=>
   rw [nY,aU]
   obtain⟨up3,t3,t4⟩:=pI (N:=N) t2 c2 (by omega)
   obtain⟨up4,t5,t6⟩:=pI (N:=N) t4 c2 (by omega)
   refine Ok.eq (x:=(up3,n9 fm ((r2 (iq pcs.length h):Nat):Int) ((j:Nat):Int))) (by rw [t3,aB]) (Ok.eq t5 (Ok.ix h3 (Ok.ret ?_)))
   dsimp only
   rw [bS]
   refine fin up4 _ t6 (fun x hx=>?_) (by rw [nO];simp) (fun x hx=>?_) (fun x y hx hy e=>?_)
   ·have hne:x≠((r2 (iq pcs.length h):Nat):Int):=fun e=>by rw [e,hm] at hx;cases hx
    rw [nO,lv,aD hne,hx]
    exact⟨by simp,rfl⟩
   ·rw [lv]
    by_cases e:x= ((r2 (iq pcs.length h):Nat):Int)
    ·rw [aC e];exact⟨j,rfl,by omega⟩
    ·rw [aD e]
     rw [nO,bP e,Bool.false_or] at hx
     obtain⟨v,q1,q2⟩:=I.low x hx;exact⟨v,q1,by omega⟩
   ·rw [lv,lv] at e
    rw [nO] at hx hy
    by_cases ex:x= ((r2 (iq pcs.length h):Nat):Int)
    ·by_cases ey:y= ((r2 (iq pcs.length h):Nat):Int)
     ·rw [ex,ey]
     ·rw [aC ex,aD ey] at e
      rw [bP ey,Bool.false_or] at hy
      obtain⟨v,q1,q2⟩:=I.low y hy
      omega
    ·rw [bP ex,Bool.false_or] at hx
     by_cases ey:y= ((r2 (iq pcs.length h):Nat):Int)
     ·rw [aD ex,aC ey] at e
      obtain⟨v,q1,q2⟩:=I.low x hx
      omega
     ·rw [aD ex,aD ey] at e
      rw [bP ey,Bool.false_or] at hy
      exact I.inj x y hx hy e
theorem vD (b:pS a lh fO r gs ofP ofB nX oD) (h1:fV N a=some (some (a.aJ,a.dJ,a.aS,a.bE,lh,cM 0 fO,k6 a.aS (cM 0 fO),gs,ofP,ofB,nX,oD),0)) {p:eK} {k:Nat} {x:cT} (e:pV a p= ((k:Nat):Int)) (hx:a.bE[k]? =some x) (hN:4398046511104<=N):
  iK N a p=some (match qx a.aS (cM 0 fO) r x with | some g=>(((g:Nat):Int),true,0) | none=>(0,false,0)):=by
 have ho:nX[k]? =some (Ap a.aS (cM 0 fO) r x):=by rw [b.EK.nX,gR,hx];rfl
 unfold iK
 rw [h1,aB,nV b.tX p hN]
 simp only [BK,bne_self_eq_false,aY,aB]
 rw [e,show decide (((k:Nat):Int)<0)=false from bP (by omega),aY,gl ho,aB]
 unfold Ap
 cases qx a.aS (cM 0 fO) r x with
 | none=>rfl
 | some g=>
  dsimp only
  rw [show decide (((g:Nat):Int)<0)=false from bP (by omega),aY,aB]
theorem DC (b:pS a lh fO r gs ofP ofB nX oD) {x y:cT} {h h':eZ} (hx:ny a.aS (cM 0 fO) x=some h) (hy:ny a.aS (cM 0 fO) y=some h'): (qx a.aS (cM 0 fO) r x=qx a.aS (cM 0 fO) r y)↔r (iq (cM 0 fO).length h)=r (iq (cM 0 fO).length h'):=by
 have gp: ∀{z:cT} {h:eZ},ny a.aS (cM 0 fO) z=some h->(live a.aS (cM 0 fO).length ((cM 0 fO).length+a.aS.length) r (bL ((cM 0 fO).length+a.aS.length) r))[gi a.aS (cM 0 fO).length ((cM 0 fO).length+a.aS.length) r (r (iq (cM 0 fO).length h))]? =some (r (iq (cM 0 fO).length h)):=by
  intro z h hz
  obtain⟨k,e,g1,g2⟩:=(zG hz).num
  have hle:=b.EK.conn.le
  have hrr:=b.EK.conn.rr
  have hd: ∀i,i< (cM 0 fO).length+a.aS.length->r i∈bL ((cM 0 fO).length+a.aS.length) r:=fun i hi=>iz.2 ⟨l4.2 (by have:=hle i hi;omega),by rw [bW];exact hrr i hi⟩
  unfold iq
  cases hB:h.bU with
  | true=>
   obtain⟨k1,k2⟩:=g1 hB
   rw [aC rfl,e,bS]
   exact(CJ (hd _ (by omega)) (DU k2 (by omega))).2
  | false=>
   have k1:=g2 hB
   rw [aD rI,e,bS]
   exact(CJ (hd _ (by omega)) (DT k1 (by omega))).2
 unfold qx
 rw [hx,hy]
 constructor
 ·intro e
  simp only [Option.map_some,Option.some.injEq] at e
  have h1:=gp hx
  have h2:=gp hy
  rw [e,h2] at h1
  injection h1 with h1;exact h1.symm
 ·intro e
  simp only [Option.map_some,Option.some.injEq]
  rw [e]
theorem sZ (b:pS a lh fO r gs ofP ofB nX oD) (h1:fV N a=some (some (a.aJ,a.dJ,a.aS,a.bE,lh,cM 0 fO,k6 a.aS (cM 0 fO),gs,ofP,ofB,nX,oD),0)) {p q:eK} {i k:Nat} {x y:cT} (ep:pV a p= ((i:Nat):Int)) (hx:a.bE[i]? =some x) (eq:pV a q= ((k:Nat):Int)) (hy:a.bE[k]? =some y) (hN:4398046511104<=N):
  dE N a [] p q=some ((qx a.aS (cM 0 fO) r x).isSome&&decide (qx a.aS (cM 0 fO) r x=qx a.aS (cM 0 fO) r y),0):=by
 have hf:=b.Al.2
 have hbl:=b.F7.gb.len
 have hlf:=b.tX.Al
 obtain⟨r2,c,up,fm,c1,c2,c3⟩:=zM (N:=N) (r:=r) (nX:=nX) (oD:=oD) (bs:=a.aS) (pcs:=cM 0 fO) (ls:=a.bE) (by omega) (by omega) (by omega) (by omega) b.EK.nX b.EK.oD hN
 have hil:=(aW.1 hx).1
 have hkl:=(aW.1 hy).1
 unfold dE
 rw [h1,aB,nV b.tX p hN,nV b.tX q hN]
 simp only [BK,bne_self_eq_false,aY,aB]
 have hz: ∀(p0:List (List aI)) (p1:List aI) (p2:List bU) (p3:List cT) (p4:List (List aA)) (p5:List aH) (p6:List (List Int)) (p7:List cP) (p8 p9 p10:List Int) (p11:List eZ),iI N p0 p1 p2 p3 p4 p5 p6 p7 p8 p9 p10 p11 []=some 0:=fun _ _ _ _ _ _ _ _ _ _ _ _=>rfl
 rw [hz,aB,bne_self_eq_false,aY,ep,eq,bP (show ¬((i:Nat):Int)<0 by omega),bP (show ¬((k:Nat):Int)<0 by omega),Bool.or_false,aY,c1,aB]
 cases hhx:ny a.aS (cM 0 fO) x with
 | none=>
  have e1:qx a.aS (cM 0 fO) r x=none:=by unfold qx;rw [hhx];rfl
  rw [gl (c3.no i x hil hx hhx),aB,e1];rfl
 | some h=>
  obtain⟨q1,q2⟩:=c3.yes i x h hil hx hhx
  obtain⟨v,v1,_⟩:=c3.low _ q1
  have e1: (qx a.aS (cM 0 fO) r x).isSome=true:=by unfold qx;rw [hhx];rfl
  rw [gl q2,aB,v1,cG (show ((v:Nat):Int)>=0 by omega),aU,aB,e1,Bool.true_and]
  cases hhy:ny a.aS (cM 0 fO) y with
  | none=>
   have e2:qx a.aS (cM 0 fO) r y=none:=by unfold qx;rw [hhy];rfl
   rw [gl (c3.no k y hkl hy hhy),aB,aB,bP (fun e=>by rw [e,e2] at e1;cases e1),show ((((v:Nat):Int))== -1)=false from by rw [beq_eq_false_iff_ne];omega]
  | some h'=>
   obtain⟨s1,s2⟩:=c3.yes k y h' hkl hy hhy
   obtain⟨w,w1,_⟩:=c3.low _ s1
   rw [gl s2,aB,w1,aB]
   have t1:=(zL (N:=N) hhx (by omega)).2
   have t2:=(zL (N:=N) hhy (by omega)).2
   have key: (((v:Nat):Int)= ((w:Nat):Int))↔qx a.aS (cM 0 fO) r x=qx a.aS (cM 0 fO) r y:=by
    rw [DC b hhx hhy,vT.uniq b.EK.conn c2 t1 t2]
    constructor
    ·intro e
     have:=c3.inj _ _ q1 s1 (by rw [v1,w1];exact e)
     omega
    ·intro e
     rw [e,w1] at v1;exact v1.symm
   congr 2
   rw [fH,beq_iff_eq,bW];exact key
theorem pX (b:pS a lh fO r gs ofP ofB nX oD) (h1:fV N a=some (some (a.aJ,a.dJ,a.aS,a.bE,lh,cM 0 fO,k6 a.aS (cM 0 fO),gs,ofP,ofB,nX,oD),0)) {p q:eK} (e:pV a p = -1\/pV a q = -1) (hN:4398046511104<=N):dE N a [] p q=some (false,9):=by
 unfold dE
 rw [h1,aB,nV b.tX p hN,nV b.tX q hN]
 simp only [BK,bne_self_eq_false,aY,aB]
 have hz: ∀(p0:List (List aI)) (p1:List aI) (p2:List bU) (p3:List cT) (p4:List (List aA)) (p5:List aH) (p6:List (List Int)) (p7:List cP) (p8 p9 p10:List Int) (p11:List eZ),iI N p0 p1 p2 p3 p4 p5 p6 p7 p8 p9 p10 p11 []=some 0:=fun _ _ _ _ _ _ _ _ _ _ _ _=>rfl
 have hd: (decide (pV a p<0)||decide (pV a q<0))=true:=by
  rcases e with e | e
  ·rw [e];rfl
  ·rw [e];simp
 rw [hz,aB,bne_self_eq_false,aY,hd,aU]
end
def mQ:jS:=⟨[[⟨0,0,1,1⟩]],[],[],[⟨⟨[97]⟩,⟨[49]⟩,0,⟨0,0⟩⟩]⟩
def DD:eK:=⟨⟨[97]⟩,⟨[49]⟩⟩
def oN:aA:=⟨0,1,[0,1]⟩
theorem DE:m6 [⟨0,0,1,1⟩] [oN] where
 can:=⟨fun b hb=>by
  have e:b=bD oN:=by simpa using hb
  subst e
  exact⟨by decide,by decide,by unfold kD;decide,by decide⟩,List.pairwise_singleton _ _⟩
 cover:=fun x y=>by
  show k7 (if (0:Int)<=y/\y<1 then [0,1] else []) x= ((decide ((0:Int)<=x)&&decide (x<1))&&(decide ((0:Int)<=y)&&decide (y<1))||false)
  by_cases h: (0:Int)<=y/\y<1
  ·rw [aC h,cG h.1,cG h.2]
   unfold k7
   rw [ke,ke,xl]
   by_cases h0: (0:Int)<=x
   ·by_cases h1: (1:Int)<=x
    ·rw [aC h0,aC h1,bP (show ¬x<1 by omega)];simp
    ·rw [aC h0,aD h1,cG h0,cG (show x<1 by omega)];rfl
   ·rw [aD h0,aD (show ¬(1:Int)<=x by omega),bP h0];rfl
  ·rw [aD h]
   have: (decide ((0:Int)<=y)&&decide (y<1))=false:=by
    rw [Bool.eq_false_iff];intro h';rw [bM,bW,bW] at h';exact h h'
   rw [this,Bool.and_false];rfl
 lim:=fun b hb=>by
  have e:b=bD oN:=by simpa using hb
  subst e
  exact⟨by decide,by decide,by decide⟩
theorem HI:m6 [] []:=⟨dL.nil,fun _ _=>rfl,fun b hb=>by cases hb⟩
theorem HJ:gY [⟨0,0,1,1⟩]=0:=pP.2 ⟨by decide,fun k a b h1 h2=>(by cases k <;> simp at h2),⟨_,DE,rfl⟩⟩
theorem HK:gY []=0:=pP.2 ⟨by decide,fun k a b h1 h2=>(by simp at h2),⟨_,HI,rfl⟩⟩
theorem EG:sW mQ:=⟨by decide,by decide,by decide,by decide,by decide,by
 intro x hx
 have e:x= ⟨⟨[97]⟩,⟨[49]⟩,0,⟨0,0⟩⟩:=by simpa [mQ] using hx
 subst e;decide⟩
theorem EH:ir mQ=0:=by
 have e1:mQ.aJ.findSome? vW=none:=by
  show [[(⟨0,0,1,1⟩:aI)]].findSome? vW=none
  have:vW [⟨0,0,1,1⟩]=none:=by unfold vW;rw [HJ];simp
  simp [this]
 have e2:kj mQ=0:=by decide
 have e3:jN mQ=0:=by
  unfold jN
  have:rh mQ.bE.length (j7 mQ)=none:=kF.2 fun k hk=>by
   have hk:k<1:=hk
   obtain rfl:k=0:=by omega
   unfold j7
   have hx0:mQ.bE[0]? =some ⟨⟨[97]⟩,⟨[49]⟩,0,⟨0,0⟩⟩:=rfl
   rw [hx0,Option.bind_some,aC (by decide),aC (by decide),aD (by rintro⟨h,_⟩;omega)]
  rw [this,aD (by decide)];rfl
 have e4: ¬tY mQ:=by
  rintro⟨i,k,x,y,_,h,_⟩
  simp [mQ] at h
 unfold ir
 rw [aD (by decide),aD (by decide)]
 unfold CM
 rw [e1]
 show (if gY []≠0 then gY [] else xy mQ)=0
 rw [HK,aD (by simp)]
 unfold xy
 rw [aD (by decide),e2,aD (by simp),e3,aD (by simp),aD e4]
theorem F9 {lh:List (List aA)} {fO:List (List (List aA))} (D:rC mQ.aJ mQ.aS mQ.aJ.length lh fO):lh= [[oN]]/\fO= [[[oN]]]:=by
 obtain⟨s,rfl⟩:=List.length_eq_one_iff.1 D.len
 obtain⟨ps,rfl⟩:=List.length_eq_one_iff.1 D.zC
 have hd:=D.dr 0 [⟨0,0,1,1⟩] s (by decide) rfl rfl
 have hs:s= [oN]:=yB hd.can DE.can fun x y=>by
  rw [hd.cover,DE.cover]
  show (_&& !u5 [] x y)=_
  simp [u5]
 subst hs
 obtain⟨u,hu⟩:=D.pt 0 [oN] ps (by decide) rfl rfl
 have u0:u 0=0:=Nat.le_zero.1 (hu.join.le 0 (by decide))
 have hh:bL (aK [oN]).length u= [0]:=by
  show (List.range 1).filter (fun k=>decide (u k=k))= [0]
  simp [List.range_succ,u0]
 obtain⟨p,rfl⟩:=List.length_eq_one_iff.1 (show ps.length=1 by rw [hu.len,hh];rfl)
 have hp:=hu.each 0 0 p (by rw [hh];rfl) rfl
 have hc:kO (aK [oN]) (aK [oN]).length u 0= [⟨0,0,1,1⟩]:=by
  show ((List.range 1).filter (fun i=>decide (u i=0))).filterMap (fun i=>(aK [oN])[i]?)=_
  simp [List.range_succ,u0];rfl
 rw [hc] at hp
 exact⟨rfl,by rw [hp.unique DE]⟩
section
variable {N:Nat}
theorem qy (hN:4398046511104<=N):eV N=some true:=by
 have key:dE N mQ [] DD DD=some (true,0):=by
  obtain⟨x,hx,hI⟩:=wH (N:=N) EG hN
  rcases hI with ⟨he,_⟩ | ⟨_,hg,hcl,lh,fO,D,⟨hf,_⟩ | ⟨hf,r,gs,ofP,ofB,nX,oD,hC,rfl⟩⟩
  ·exact absurd EH he
  ·obtain⟨rfl,rfl⟩:=F9 D
   exact absurd ⟨by decide,by decide⟩ hf
  ·have b:pS mQ lh fO r gs ofP ofB nX oD:=⟨hg,hcl,D,hf,hC⟩
   have e:pV mQ DD= ((0:Nat):Int):=by
    rcases pW mQ DD with ⟨_,h⟩ | ⟨k,x,h,hk,_⟩
    ·exact absurd rfl (h ⟨⟨[97]⟩,⟨[49]⟩,0,⟨0,0⟩⟩ (by simp [mQ]))
    ·have:k<1:=(aW.1 hk).1
     rw [h];omega
   have hl:mQ.bE[0]? =some ⟨⟨[97]⟩,⟨[49]⟩,0,⟨0,0⟩⟩:=rfl
   rw [sZ b hx e hl e hl hN]
   obtain⟨rfl,rfl⟩:=F9 D
   have hh:ny mQ.aS (cM 0 [[[oN]]]) ⟨⟨[97]⟩,⟨[49]⟩,0,⟨0,0⟩⟩=some ⟨false,0⟩:=by decide
   unfold qx
   rw [hh];simp
 unfold eV
 have e:dE N (⟨([([(⟨0,0,1,1⟩:aI)]: (List aI))]: (List (List aI))),([]: (List aI)),([]: (List bU)),([(⟨⟨[97]⟩,⟨[49]⟩,0,⟨0,0⟩⟩:cT)]: (List cT))⟩:jS) ([]: (List kA)) (⟨⟨[97]⟩,⟨[49]⟩⟩:eK) (⟨⟨[97]⟩,⟨[49]⟩⟩:eK)=some (true,0):=key
 rw [e,aB];rfl
theorem nW {a:jS} {p q:eK} (ha:bk a<=1048576) (_hp:bk p<=1048576) (_hq:bk q<=1048576) (hN:4398046511104<=N):bR N a p q=some true:=by
 have hs:=yI ha
 unfold bR
 have bad: ∀e:Int,e≠0->dE N a [] p q=some (false,e)->bR N a p q=some true:=by
  intro e he hc
  have hb: (e != 0)=true:=by simpa using he
  unfold bR
  rw [hc,aB]
  simp only [hb,aU,nY]
  rw [qy hN];rfl
 have bad:=fun e he hc=>by have:=bad e he hc;unfold bR at this;exact this
 rcases opened (N:=N) hs hN with ⟨e,he,h⟩ | ⟨b,h⟩
 ·have hb: (e != 0)=true:=by simpa using he
  exact bad e he (by unfold dE;rw [h,aB];simp only [BK,hb,aU])
 ·rcases pW a p with ⟨ep,_⟩ | ⟨i,x,ep,hx,_⟩
  ·exact bad 9 (by decide) (pX b h (.inl ep) hN)
  ·rcases pW a q with ⟨eq,_⟩ | ⟨k,y,eq,hy,_⟩
   ·exact bad 9 (by decide) (pX b h (.inr eq) hN)
   ·rw [sZ b h ep hx eq hy hN,aB]
    simp only [bne_self_eq_false,aY]
    rw [vD b h ep hx hN,vD b h eq hy hN,aB,aB]
    cases qx a.aS (cM 0 _) _ x with
    | none=>
     cases qx a.aS (cM 0 _) _ y with
     | none=>simp [qy hN]
     | some g=>simp [qy hN]
    | some g=>
     cases qx a.aS (cM 0 _) _ y with
     | none=>simp [qy hN]
     | some g'=>
      by_cases e:g=g'
      ·subst e;simp [qy hN]
      ·have e': ¬((g:Nat):Int)= ((g':Nat):Int):=by omega
       have e2: (((g:Nat):Int)==((g':Nat):Int))=false:=by rw [beq_eq_false_iff_ne];exact e'
       simp [qy hN,e,e',e2]
end
end Go.Gk
