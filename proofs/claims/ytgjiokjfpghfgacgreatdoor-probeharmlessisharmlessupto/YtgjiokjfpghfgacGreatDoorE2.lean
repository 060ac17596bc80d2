/-
  Helping texts: plain functions and plain laws. No statement of the seed is proved here.
-/
import Derived.Test.YtgjiokjfpghfgacGreatDoorE1
import Derived.Test.YtgjiokjfpghfgacGreatDoorA2
set_option linter.unusedVariables false
set_option linter.unusedSimpArgs false
set_option linter.unusedSectionVars false
namespace Go.Gk
open Go Classical
section
variable {N:Nat}
theorem Ce {w:Nat} {g:Nat->Nat} {a:Nat}: ∀{ks:List Nat},ks.Nodup->a∈ks->(ks.map (fun k=>(if a=k then w else 0)+g k)).sum=w+ (ks.map g).sum
 | [],_,h=>by cases h
 | k::ks,hn,h=>by
  have hn':=List.nodup_cons.1 hn
  simp only [eI,List.sum_cons]
  by_cases e:a=k
  ·subst e
   rw [aD rfl]
   have:ks.map (fun k=>(if a=k then w else 0)+g k)=ks.map g:=List.map_congr_left fun x hx=>by
    rw [aC (fun e=>hn'.1 (by rw [e];exact hx)),fN]
   rw [this];omega
  ·rw [aC e,Ce hn'.2 (by rcases f9.1 h with h | h;exact absurd h e;exact h)];omega
theorem Aw {α:Type} {ks:List Nat} (hn:ks.Nodup) (f w:α->Nat): ∀{l:List α},(∀x∈l,f x∈ks)->(ks.map (fun k=>((l.filter (fun x=>decide (f x=k))).map w).sum)).sum= (l.map w).sum
 | [],_=>by
  have: ∀ks:List Nat,(ks.map (fun _=>0)).sum=0:=fun ks=>by
   induction ks with
   | nil=>rfl
   | cons k ks ih=>simp only [eI,List.sum_cons,ih]
  simpa using this ks
 | x::l,h=>by
  have ih:=Aw hn f w (l:=l) fun y hy=>h y (i6 _ hy)
  have: (ks.map (fun k=>(((x::l).filter (fun x=>decide (f x=k))).map w).sum))=ks.map (fun k=>(if f x=k then w x else 0)+ ((l.filter (fun x=>decide (f x=k))).map w).sum):=List.map_congr_left fun k _=>by
   rw [List.filter_cons]
   by_cases e:f x=k
   ·rw [aD (by simpa using e),aD e,eI,List.sum_cons]
   ·rw [aC (by simpa using e),aC e,fN]
  rw [this,Ce hn (h x (by simp)),ih,eI,List.sum_cons]
theorem t8.ne {a:jT} {j4:List (List aA)} {dF:List (List (List aA))} {p:aH} {i:Nat} {r:List aI} {s:List aA} {ps:List (List aA)} {u:Nat->Nat} {j k:Nat} (h:t8 a j4 dF p i r s ps u j k):p.Set≠[]:=by
 intro e
 have hh:=gN.1 (gw h.head)
 have hx: (aM s)[k]? =some (aM s)[k]:=aJ hh.1
 have hm: (aM s)[k]∈ly (aM s) (aM s).length u k:=mq.2 ⟨k,hh.1,hh.2,hx⟩
 obtain⟨b,hb,q,hq,hr⟩:=m6 (gw hx)
 have hbm:bK b∈s.map bK:=cM.2 ⟨b,hb,rfl⟩
 have hq1:=Bp (h.dr.can.each _ hbm).2.2.1 q hq
 have hb1:=(h.dr.can.each _ hbm).1
 have hc:=h.set.cover q.1 b.Y0
 rw [e] at hc
 have:vg (ly (aM s) (aM s).length u k) q.1 b.Y0=true:=jC.2 ⟨_,hm,by rw [hr];exact⟨⟨Int.le_refl _,hq1⟩,Int.le_refl _,hb1⟩⟩
 rw [this] at hc
 cases hc
structure kn (a:jT) (j4:List (List aA)) (dF:List (List (List aA))) (r:Nat->Nat) (gs:List cL) (ofP ofB jm:List Int) (iZ:List dO):Prop where
 za:mW a
 KB: ¬vj a
 dr:sJ a.aL a.aV a.aL.length j4 dF
 xy:It j4 dF
 yc:wZ a.aV a.bH (bW 0 dF) r gs ofP ofB jm iZ
inductive GP (N:Nat) (a:jT):Prop
 | err (e:Int) (he:e≠0) (h:fZ N a=some (none,e))
 | ok {j4:List (List aA)} {dF:List (List (List aA))} {r:Nat->Nat} {gs:List cL} {ofP ofB jm:List Int} {iZ:List dO} (b:kn a j4 dF r gs ofP ofB jm iZ)
  (h:fZ N a=some (some (a.aL,a.dU,a.aV,a.bH,j4,bW 0 dF,eY a.aV (bW 0 dF),gs,ofP,ofB,jm,iZ),0))
theorem opened {a:jT} (hs:t9 a) (hN:4398046511104<=N):GP N a:=by
 obtain⟨x,hx,hI⟩:=yb (N:=N) hs hN
 rcases hI with ⟨he,rfl⟩ | ⟨_,hg,hcl,j4,dF,D,⟨_,rfl⟩ | ⟨hf,r,gs,ofP,ofB,jm,iZ,hC,rfl⟩⟩
 ·exact .err _ he hx
 ·exact .err 2 (by omega) hx
 ·exact .ok ⟨hg,hcl,D,hf,hC⟩ hx
end
end Go.Gk
namespace Go.Gk
open Go Classical
section
variable {S R:Type}
theorem Ok.AK {body:S->Option (Fl S R)} {N n:Nat} {s:S} (ι:S->Int) (Inv:Nat->S->Prop) {Go:S->Prop} {Rt:R->Prop}
  (h1: ∀k s,k<n->ι s= ((k:Nat):Int)->Inv k s->Ok (body s) (F5 (fun s'=>ι s'= ((k+1:Nat):Int)/\Inv (k+1) s') Go Rt))
  (h2: ∀s,ι s= ((n:Nat):Int)->Inv n s->Ok (body s) (F5 (fun _=>False) Go Rt))
  {k0:Nat} (hk:k0<=n) (hi:ι s= ((k0:Nat):Int)) (h0:Inv k0 s) (hn:n<N):Ok (Gk.mY body N s) (H8 Go Rt):=by
 refine Ok.mY (fun s=>∃k:Nat,k<=n/\ι s= ((k:Nat):Int)/\Inv k s) (fun s=>n - (ι s).toNat) ?_ ⟨k0,hk,hi,h0⟩ (by omega)
 rintro s ⟨k,hk,e,hI⟩
 by_cases hlt:k<n
 ·refine(h1 k s hlt e hI).mono ?_
  rintro(s' | s' | r) hp
  ·have hp1:ι s'= ((k+1:Nat):Int):=hp.1
   exact⟨⟨k+1,hlt,hp.1,hp.2⟩,by rw [e,hp1];simp only [bO];omega⟩
  ·exact hp
  ·exact hp
 ·have:k=n:=by omega
  subst this
  refine(h2 s e hI).mono ?_
  rintro(s' | s' | r) hp
  ·exact hp.elim
  ·exact hp
  ·exact hp
theorem J9 {k n:Nat} (h:k<n):decide (((k:Nat):Int)< ((n:Nat):Int))=true:=cA (by omega)
theorem Ka (n:Nat):decide (((n:Nat):Int)< ((n:Nat):Int))=false:=bC (by omega)
end
section
variable {N:Nat}
theorem zb (a b:Int): (if a<b then b else a)=max a b:=by split <;> omega
end
end Go.Gk
namespace Go.Gk
open Go Classical
section
variable {α:Type} [DecidableEq α] {N:Nat}
end
section
variable {N:Nat}
end
end Go.Gk
namespace Go.Gk
open Go Classical
theorem w6 (n:Nat) (g:Nat->Nat): ((List.range (n+1)).map g).sum= ((List.range n).map g).sum+g n:=by
 rw [List.range_succ,eV,List.sum_append];simp
def Iu (r:aI) (x y:Int):Bool:=(decide (r.X0<=x)&&decide (x<r.X1))&&(decide (r.Y0<=y)&&decide (y<r.Y1))
def Ik (a b:aI):Prop:=∀x y,¬(Iu a x y=true/\Iu b x y=true)
theorem FK {r:aI} {x y:Int}:Iu r x y=true↔(r.X0<=x/\x<r.X1)/\r.Y0<=y/\y<r.Y1:=by unfold Iu;simp
theorem uc: ∀{xs:List Int},lh xs->(x0 xs).Pairwise (fun p q=>p.2<q.1)
 | [],_=>kp
 | [a],_=>kp
 | a::b::l,h=>by
  unfold x0
  rw [List.pairwise_cons]
  exact⟨fun q hq=>h.tail.head q.1 (yX q hq).1,uc h.tail.tail⟩
def BB (a b:aI):Prop:=a.Y1<=b.Y0\/(a.Y0=b.Y0/\a.Y1=b.Y1/\a.X1<b.X0)
theorem BB.apart {a b:aI} (h:BB a b):Ik a b:=fun x y ⟨h1,h2⟩=>by
 rw [FK] at h1 h2
 rcases h with h | h <;> omega
theorem ud: ∀{s:List aA},dW (s.map bK)->(aM s).Pairwise BB
 | [],_=>kp
 | b::s,h=>by
  rw [lr,List.pairwise_append]
  refine⟨?_,ud h.tail,fun x hx y hy=>?_⟩
  ·unfold lq
   rw [List.pairwise_map]
   exact List.Pairwise.imp (fun hpq=> .inr ⟨rfl,rfl,hpq⟩) (uc (h.each (bK b) (by simp)).2.2.1)
  ·unfold lq at hx
   obtain⟨p,_,rfl⟩:=cM.1 hx
   obtain⟨c,hc,q,_,rfl⟩:=m6 hy
   exact .inl (h.wD (bK c) (cM.2 ⟨c,hc,rfl⟩))
theorem yd {s:List aA} (h:dW (s.map bK)): ∀r∈aM s,r.X0<r.X1/\r.Y0<r.Y1:=fun r hr=>by
 obtain⟨b,hb,p,hp,rfl⟩:=m6 hr
 have hc:=h.each (bK b) (cM.2 ⟨b,hb,rfl⟩)
 exact⟨Bp hc.2.2.1 p hp,hc.1⟩
theorem Ax {s:List aA} (h:dW (s.map bK)): (aM s).Nodup:=by
 have h1:=ud h
 have h2:=yd h
 refine List.Pairwise.imp_of_mem (fun{a b} ha hb hab e=>?_) h1
 subst e
 have:=h2 a ha
 rcases hab with h | h <;> omega
def mJ (s:List Bd):Nat:=(s.map (fun b=>b.xs.length / 2)).sum
theorem qP (s t:List Bd):mJ (s++t)=mJ s+mJ t:=by unfold mJ;rw [eV,List.sum_append]
theorem C9 (s:List Bd) (b:Bd):mJ (ln s b)<=mJ s+b.xs.length / 2:=by
 unfold ln
 split
 ·omega
 ·split
  ·rename_i c hc
   have hsp:=pq hc
   have e:mJ s=mJ s.dropLast+c.xs.length / 2:=by
    conv=>lhs;rw [hsp,qP]
    simp [mJ]
   split
   ·rw [qP,e];simp [mJ]
   ·rw [qP];simp [mJ]
  ·simp [mJ]
structure Km (t:List Bd):Prop where
 each: ∀b∈t,b.y0<b.y1/\lh b.xs/\b.xs.length % 2=0
 ord:t.Pairwise (fun b c=>b.y1<=c.y0)
theorem fold_push: ∀(t out:List Bd),Km t->dW out->(∀c∈out,∀b∈t,c.y1<=b.y0)->dW (t.foldl ln out)/\mJ (t.foldl ln out)<=mJ out+mJ t/\
  ∀y,rowAt (t.foldl ln out) y=if (∃b∈t,b.y0<=y/\y<b.y1) then rowAt t y else rowAt out y
 | [],out,_,hc,_=>⟨hc,by simp [mJ],fun y=>by simp⟩
 | b::t,out,hl,hc,ho=>by
  have hb:=hl.each b (by simp)
  have hord:=List.pairwise_cons.1 hl.ord
  have ho1: ∀c∈out,c.y1<=b.y0:=fun c h=>ho c h b (by simp)
  have h1:=uO hc ho1 hb.2.1 hb.2.2
  have htop:=uP ho1 (show b.y0<=b.y1 by omega)
  obtain⟨f1,f2,f3⟩:=fold_push t (ln out b) ⟨fun c hcm=>hl.each c (i6 _ hcm),hord.2⟩ h1 (fun c hcm d hd=>by have:=htop c hcm;have:=hord.1 d hd;omega)
  refine⟨f1,?_,fun y=>?_⟩
  ·have:=C9 out b
   have e:mJ (b::t)=b.xs.length / 2+mJ t:=by simp [mJ]
   rw [List.foldl_cons,e];omega
  ·rw [List.foldl_cons,f3 y,uN ho1 (fun c hcm=>(hc.each c hcm).1) (fun h=>absurd h (by omega)),ki]
   by_cases hy:b.y0<=y/\y<b.y1
   ·have hn: ¬∃c∈t,c.y0<=y/\y<c.y1:=fun⟨c,hcm,h⟩=>by have:=hord.1 c hcm;omega
    rw [aC hn,aD hy,aD ⟨b,by simp,hy⟩,aD hy]
   ·rw [aC hy]
    by_cases h: ∃c∈t,c.y0<=y/\y<c.y1
    ·obtain⟨c,hcm,h⟩:=h
     rw [aD ⟨c,hcm,h⟩,aD ⟨c,i6 _ hcm,h⟩,aC hy]
    ·rw [aC h,aC hy,aC (show ¬∃c∈b::t,c.y0<=y/\y<c.y1 from fun⟨c,hcm,h2⟩=>by
      rcases f9.1 hcm with rfl | hcm
      ·exact hy h2
      ·exact h ⟨c,hcm,h2⟩)]
noncomputable def mO (C:List aI) (b:aA):Bd:=⟨b.Y0,b.Y1,nZ ((x0 b.Xs).filter (fun p=>decide ((⟨p.1,b.Y0,p.2,b.Y1⟩:aI)∈C)))⟩
theorem Da {l m:List (Int×Int)} (h:l.Sublist m): (nZ l).Sublist (nZ m):=by
 induction h with
 | slnil=>exact List.Sublist.refl _
 | cons a _ ih=>rw [lY];exact(ih.cons _).cons _
 | cons_cons a _ ih=>rw [lY,lY];exact(ih.cons_cons _).cons_cons _
theorem w7 (l:List (Int×Int)): (nZ l).length % 2=0/\(nZ l).length / 2=l.length:=by rw [CT];omega
theorem ye {s p:List aA} {C:List aI} (hs:dW (s.map bK)) (hp:dW (p.map bK)) (hC: ∀r∈C,r∈aM s) (hcov: ∀x y,tM (p.map bK) x y=vg C x y): (aM p).length<=C.length:=by
 have hinc: ∀b∈s,lh (mO C b).xs:=fun b hb=>by
  have h1:=B9 hs b hb
  have h2:=Da (List.filter_sublist (l:=x0 b.Xs) (p:=fun p=>decide ((⟨p.1,b.Y0,p.2,b.Y1⟩:aI)∈C)))
  rw [tP (oX hs b hb)] at h2
  exact List.Pairwise.sublist h2 h1
 have hlow:Km (s.map (mO C)):=by
  refine⟨fun b hb=>?_,?_⟩
  ·obtain⟨c,hc,rfl⟩:=cM.1 hb
   exact⟨(hs.each (bK c) (cM.2 ⟨c,hc,rfl⟩)).1,hinc c hc,(w7 _).1⟩
  ·have:=hs.ord
   rw [List.pairwise_map] at this ⊢
   exact List.Pairwise.imp (fun h=>h.1) this
 obtain⟨f1,f2,f3⟩:=fold_push (s.map (mO C)) [] hlow dW.nil (fun c hc=>by cases hc)
 have hrow: ∀{t:List aA},(∀b∈t,b∈s)->∀x y,lL (rowAt (t.map (mO C)) y) x=true->vg C x y=true:=by
  intro t ht x y h
  induction t with
  | nil=>cases h
  | cons b t ih=>
   rw [eI,ki] at h
   split at h
   ·rename_i hy
    have hbm:=ht b (by simp)
    have h1:=hinc b hbm
    have h:lL (nZ ((x0 b.Xs).filter (fun p=>decide ((⟨p.1,b.Y0,p.2,b.Y1⟩:aI)∈C)))) x=true:=h
    rw [tN h1,wH] at h
    obtain⟨q,hq,h2⟩:=h
    have hq:=gI.1 hq
    exact jC.2 ⟨_,of_decide_eq_true hq.2,h2,hy⟩
   ·exact ih (fun c hc=>ht c (i6 _ hc)) h
 have hrow2: ∀x y,vg C x y=true->lL (rowAt (s.map (mO C)) y) x=true:=by
  intro x y h
  obtain⟨r,hr,h1,h2⟩:=jC.1 h
  obtain⟨b,hb,q,hq,rfl⟩:=m6 (hC r hr)
  dsimp only at h1 h2
  have key: ∀{t:List aA},(∀c∈t,c∈s)->dW (t.map bK)->b∈t->rowAt (t.map (mO C)) y= (mO C b).xs:=by
   intro t ht hc hbt
   induction t with
   | nil=>cases hbt
   | cons c t ih=>
    rw [eI,ki]
    by_cases hy:c.Y0<=y/\y<c.Y1
    ·rw [aD (show (mO C c).y0<=y/\y< (mO C c).y1 from hy)]
     rcases f9.1 hbt with rfl | hbt
     ·rfl
     ·have:=hc.wD (bK b) (cM.2 ⟨b,hbt,rfl⟩)
      have e1: (bK c).y1=c.Y1:=rfl
      have e2: (bK b).y0=b.Y0:=rfl
      omega
    ·rw [aC (show ¬((mO C c).y0<=y/\y< (mO C c).y1) from hy)]
     rcases f9.1 hbt with rfl | hbt
     ·exact absurd h2 hy
     ·exact ih (fun d hd=>ht d (i6 _ hd)) hc.tail hbt
  rw [key (fun c hc=>hc) hs hb]
  have h1':=hinc b hb
  show lL (nZ ((x0 b.Xs).filter (fun p=>decide ((⟨p.1,b.Y0,p.2,b.Y1⟩:aI)∈C)))) x=true
  rw [tN h1',wH]
  exact⟨q,gI.2 ⟨hq,cA hr⟩,h1⟩
 have hsame:p.map bK= (s.map (mO C)).foldl ln []:=wF hp f1 fun x y=>by
  rw [hcov,fz]
  have e:rowAt ((s.map (mO C)).foldl ln []) y=rowAt (s.map (mO C)) y:=by
   rw [f3]
   by_cases h: ∃b∈s.map (mO C),b.y0<=y/\y<b.y1
   ·rw [aD h]
   ·rw [aC h]
    exact(jB fun b hb=>by
     have: ¬(b.y0<=y/\y<b.y1):=fun h2=>h ⟨b,hb,h2⟩
     omega).symm
  unfold tM
  rw [e]
  exact⟨hrow2 x y,hrow (fun b hb=>hb) x y⟩
 have hc1: (aM p).length=mJ (p.map bK):=by
  have: ∀p:List aA,(aM p).length=mJ (p.map bK):=fun p=>by
   induction p with
   | nil=>rfl
   | cons b p ih=>rw [lr,dK,kF,ih];unfold mJ;rw [eI,eI,List.sum_cons];rfl
  exact this p
 have hc2: ∀s:List aA,mJ (s.map (mO C))= ((aM s).filter (fun r=>decide (r∈C))).length:=fun s=>by
  induction s with
  | nil=>rfl
  | cons b s ih=>
   rw [lr,gY,dK,<-ih]
   unfold mJ
   rw [eI,eI,List.sum_cons]
   congr 1
   show (nZ _).length / 2=_
   rw [(w7 _).2]
   unfold lq
   rw [List.filter_map,gQ];rfl
 have hc3: ((aM s).filter (fun r=>decide (r∈C))).length<=C.length:=eA (List.Nodup.sublist List.filter_sublist (Ax hs)) fun r hr=>of_decide_eq_true (gI.1 hr).2
 rw [hc1,hsame]
 have e0:mJ ([]:List Bd)=0:=rfl
 have:=hc2 s
 omega
end Go.Gk
namespace Go.Gk
open Go Classical
section
variable {N:Nat}
theorem rS {all:List aI} (w:aI->Nat): ∀(c:List Nat),((c.filterMap (fun i=>all[i]?)).map w).sum= (c.map (fun i=>(all[i]?).elim 0 w)).sum
 | []=>rfl
 | i::c=>by
  rw [eI,List.sum_cons,<-rS w c]
  cases h:all[i]? with
  | none=>rw [List.filterMap_cons_none (f:=fun i=>all[i]?) h];simp
  | some x=>rw [List.filterMap_cons_some (f:=fun i=>all[i]?) h,eI,List.sum_cons];rfl
theorem FL {all:List aI} {u:Nat->Nat} (h: ∀i,i<all.length->u i∈bN all.length u) (w:aI->Nat): ((bN all.length u).map (fun k=>((ly all all.length u k).map w).sum)).sum= (all.map w).sum:=by
 have e: (fun k=>((ly all all.length u k).map w).sum)=fun k=>(((List.range all.length).filter (fun x=>decide (u x=k))).map (fun i=>(all[i]?).elim 0 w)).sum:=by
  funext k;unfold ly;rw [rS];rfl
 rw [e,Aw (lu _ _) u _ (fun x hx=>h x (i5.1 hx))]
 have: ∀m,m<=all.length->((List.range m).map (fun i=>(all[i]?).elim 0 w)).sum= ((all.take m).map w).sum:=by
  intro m
  induction m with
  | zero=>intro _;rfl
  | succ m ih=>
   intro hm
   rw [w6,ih (by omega),fu (by omega),eV,List.sum_append,aJ (by omega)]
   simp
 rw [this _ (bL _),eX]
theorem w8: ∀{l m:List Nat},l.length=m.length->(∀(j x y:Nat),l[j]? =some x->m[j]? =some y->x<=y)->l.sum<=m.sum
 | [],[],_,_=>bL _
 | [],_::_,h,_=>by simp at h
 | _::_,[],h,_=>by simp at h
 | a::l,b::m,h,hle=>by
  have h1:=hle 0 a b rfl rfl
  have h2:=w8 (l:=l) (m:=m) (by simpa using h) fun j x y hx hy=>hle (j+1) x y (by simpa using hx) (by simpa using hy)
  rw [List.sum_cons,List.sum_cons];omega
theorem FM {r hs:List aI} {s:List aA} (h1: ∀x∈r,cU x=true) (h2: ∀x∈hs,cU x=true) (hc:dW (s.map bK)) (hl:sU (oU r++oU hs) (kQ r++kQ hs) (s.map bK)): ∀q∈aM s,cU q=true/\q.X0<q.X1/\q.Y0<q.Y1:=by
 intro q hq
 have hp:=yd hc q hq
 obtain⟨b,hb,p,hpm,rfl⟩:=m6 hq
 have hll:=hl (bK b) (cM.2 ⟨b,hb,rfl⟩)
 have hm:=yX p hpm
 have bx: ∀c∈oU r++oU hs,-1000000<=c/\c<=1000000:=fun c hcm=>by
  rcases cP.1 hcm with h | h
  ·obtain⟨x,hx,h⟩:=oV.1 h
   have:=gH (h1 x hx)
   rcases h with rfl | rfl <;> omega
  ·obtain⟨x,hx,h⟩:=oV.1 h
   have:=gH (h2 x hx)
   rcases h with rfl | rfl <;> omega
 have by': ∀c∈kQ r++kQ hs,-1000000<=c/\c<=1000000:=fun c hcm=>by
  rcases cP.1 hcm with h | h
  ·obtain⟨x,hx,h⟩:=kl.1 h
   have:=gH (h1 x hx)
   rcases h with rfl | rfl <;> omega
  ·obtain⟨x,hx,h⟩:=kl.1 h
   have:=gH (h2 x hx)
   rcases h with rfl | rfl <;> omega
 have g1:=bx _ (hll.2.2 p.1 hm.1)
 have g2:=bx _ (hll.2.2 p.2 hm.2)
 have g3:=by' _ hll.1
 have g4:=by' _ hll.2.1
 exact⟨wU ⟨g1,g3,g2,g4⟩,hp⟩
structure pA (r hs:List aI) (s:List aA) (u:Nat->Nat) (ps:List (List aA)):Prop where
 r1: ∀x∈r,cU x=true
 r2: ∀x∈hs,cU x=true
 k1: ∀x∈r,AL x
 k2: ∀x∈hs,AL x
 dr:rj r hs s
 pt:pw s u ps
 xy: (aM s).length<=2000
theorem pA.part {r hs:List aI} {s:List aA} {u:Nat->Nat} {ps:List (List aA)} (h:pA r hs s u ps) {p:List aA} (hp:p∈ps):dW (p.map bK)/\(aM p).length<=2000/\∀q∈aM p,cU q=true/\q.X0<q.X1/\q.Y0<q.Y1:=by
 obtain⟨sx,sy⟩:=h.dr.small h.k1 h.k2
 obtain⟨j,k,g1,g2,g3,g4⟩:=wX h.pt h.dr.can h.dr.lim sx sy hp
 have:=ye h.dr.can g3.can (fun x hx=>by
  obtain⟨i,_,_,hi⟩:=mq.1 hx
  exact gw hi) g3.cover
 have h2:=wQ (aM s) (aM s).length u k
 have:=h.xy
 exact⟨g3.can,by omega,FM h.r1 h.r2 g3.can g4⟩
theorem pA.bN {r hs:List aI} {s:List aA} {u:Nat->Nat} {ps:List (List aA)} (h:pA r hs s u ps): ∀i,i< (aM s).length->u i∈Gk.bN (aM s).length u:=fun i hi=>gN.2 ⟨by have:=h.pt.join.le i hi;omega,h.pt.join.rr i hi⟩
theorem pA.total {r hs:List aI} {s:List aA} {u:Nat->Nat} {ps:List (List aA)} (h:pA r hs s u ps): (ps.map (fun p=>(aM p).length)).sum<=(aM s).length:=by
 have h1:=FL h.bN (fun _=>1)
 have one: ∀l:List aI,(l.map (fun _=>1)).sum=l.length:=fun l=>by
  induction l with
  | nil=>rfl
  | cons x l ih=>simp only [eI,List.sum_cons,ih,jP];omega
 simp only [one] at h1
 rw [<-h1]
 refine w8 (by simp [h.pt.len]) fun j x y hx hy=>?_
 rw [gX,Option.map_eq_some_iff] at hx hy
 obtain⟨p,hp,rfl⟩:=hx
 obtain⟨k,hk,rfl⟩:=hy
 have hs:=h.pt.each j k p hk hp
 exact ye h.dr.can hs.can (fun x hx=>by
  obtain⟨i,_,_,hi⟩:=mq.1 hx
  exact gw hi) hs.cover
theorem vk {ps:List (List aA)} {x y:Int}:vg (ps.flatMap aM) x y=true↔∃p∈ps,vg (aM p) x y=true:=by
 rw [jC]
 constructor
 ·rintro⟨r,hr,h⟩
  obtain⟨p,hp,hrp⟩:=List.mem_flatMap.1 hr
  exact⟨p,hp,jC.2 ⟨r,hrp,h⟩⟩
 ·rintro⟨p,hp,h⟩
  obtain⟨r,hr,h⟩:=jC.1 h
  exact⟨r,List.mem_flatMap.2 ⟨p,hp,hr⟩,h⟩
theorem pA.cover {r hs:List aI} {s:List aA} {u:Nat->Nat} {ps:List (List aA)} (h:pA r hs s u ps) (x y:Int):vg (ps.flatMap aM) x y=tM (s.map bK) x y:=by
 rw [<-q9 h.dr.can,fz,vk]
 constructor
 ·rintro⟨p,hp,hc⟩
  obtain⟨j,hj⟩:=fP hp
  have hjl:=(aW.1 hj).1
  have hk: (Gk.bN (aM s).length u)[j]? =some ((Gk.bN (aM s).length u)[j]'(by rw [<-h.pt.len];exact hjl)):=aJ _
  have hs:=h.pt.each j _ _ hk hj
  rw [q9 hs.can,hs.cover] at hc
  obtain⟨q,hq,h2⟩:=jC.1 hc
  obtain⟨i,_,_,hi⟩:=mq.1 hq
  exact jC.2 ⟨q,gw hi,h2⟩
 ·intro hc
  obtain⟨q,hq,h2⟩:=jC.1 hc
  obtain⟨i,hi⟩:=fP hq
  have hil:=(aW.1 hi).1
  obtain⟨j,hj⟩:=fP (h.bN i hil)
  have hjl:j<ps.length:=by rw [h.pt.len];exact(aW.1 hj).1
  have hs:=h.pt.each j _ _ hj (aJ hjl)
  refine⟨_,cJ hjl,?_⟩
  rw [q9 hs.can,hs.cover]
  exact jC.2 ⟨q,mq.2 ⟨i,hil,rfl,hi⟩,h2⟩
section
variable {a:jT} {j4:List (List aA)} {dF:List (List (List aA))} {r:Nat->Nat} {gs:List cL} {ofP ofB jm:List Int} {iZ:List dO}
theorem Ay (b:kn a j4 dF r gs ofP ofB jm iZ) {i:Nat} (hi:i<a.aL.length): ∃s ps u,j4[i]? =some s/\dF[i]? =some ps/\pA a.aL[i] (mu a.aV ((i:Nat):Int)) s u ps:=by
 have hd:j4[i]? =some (j4[i]'(by rw [b.dr.len];exact hi)):=aJ _
 have hp:dF[i]? =some (dF[i]'(by rw [b.dr.y6];exact hi)):=aJ _
 have hdr:=b.dr.dr i _ _ hi (aJ hi) hd
 obtain⟨u,hu⟩:=b.dr.pt i _ _ hi hd hp
 have hreg:=n8.1 (b.za.Kl _ (cJ hi))
 exact⟨_,_,u,hd,hp,fun x hx=>((oz.1 hreg.1).2 x hx).1,fun x hx=>(tU b.za.gb _ x hx).2,(Bw hreg.1).2,fun x hx=>(tU b.za.gb _ x hx).1,hdr,hu,b.xy.1 _ (gw hd)⟩
end
end
end Go.Gk
namespace Go.Gk
open Go Classical
def zc (f:Int->Int->Bool) (x y:Int):Prop:=f x y=true/\∀x' y',f x' y'=true->y<y'\/(y=y'/\x<=x')
theorem zc.unique {f:Int->Int->Bool} {x y x' y':Int} (h:zc f x y) (h':zc f x' y'):x=x'/\y=y':=by
 have h1:=h.2 _ _ h'.1
 have h2:=h'.2 _ _ h.1
 omega
section
variable {N:Nat}
structure BI (all:List aI) (u:Nat->Nat) (i:Nat) (q:List Nat) (done:List Bool) (own:List aI):Prop where
 len:done.length=all.length
 nd:q.Nodup
 lt: ∀k∈q,k<all.length/\u k=i
 hd:i∈q
 dn: ∀k,k<all.length->done[k]? =some (decide (u k<i\/k∈q))
 ow:own.map some=q.map (fun k=>all[k]?)
theorem BI.xy {all:List aI} {u:Nat->Nat} {i:Nat} {q:List Nat} {done:List Bool} {own:List aI} (h:BI all u i q done own):q.length<=all.length:=by
 have:=eA h.nd (m:=List.range all.length) (fun k hk=>by rw [i5];exact(h.lt k hk).1)
 rwa [List.length_range] at this
theorem BI.at_ {all:List aI} {u:Nat->Nat} {i:Nat} {q:List Nat} {done:List Bool} {own:List aI} (h:BI all u i q done own) {p k:Nat} (hk:q[p]? =some k):own[p]? =all[k]? :=by
 have e:=congrArg (fun l=>l[p]?) h.ow
 simp only [gX,hk,Option.map_some] at e
 cases ho:own[p]? with
 | none=>rw [ho] at e;cases e
 | some x=>rw [ho] at e;injection e
theorem BI.mem {all:List aI} {u:Nat->Nat} {i:Nat} {q:List Nat} {done:List Bool} {own:List aI} (h:BI all u i q done own) {r:aI}:r∈own↔∃k∈q,all[k]? =some r:=by
 have:r∈own↔some r∈own.map some:=by simp
 rw [this,h.ow,cM]
end
end Go.Gk
namespace Go.Gk
open Go Classical
section
variable {α β:Type}
theorem EH {N:Nat} {l:List α} {s:β} {φ:α->β->Option Int} (c:α->Int) (hφ: ∀x,φ x s=some (c x)) (hs: ∀(i j:Nat) (x y:α),i<j->l[i]? =some x->l[j]? =some y->0<=c x->0<c y)
  (hl:l.length<=1048576) (hN:4194304<=N): ∃r,Ea N l s φ=some r/\r.2=l.any (fun x=>c x==0)/\(r.2=true->r.1=BY l (fun x=>c x==0)):=by
 show Ok (Ea N l s φ) (fun r=>r.2=l.any (fun x=>c x==0)/\(r.2=true->r.1=BY l (fun x=>c x==0)))
 unfold Ea
 refine Ok.bind (Ok.mY (Go:=fun st:Int×Int=>∃a:Nat,st.1= ((a:Nat):Int)/\a<=l.length/\(∀j x,j<a->l[j]? =some x->c x<0)/\(∀j x,a<=j->l[j]? =some x->0<=c x)) (Rt:=fun _=>True)
  (fun st=>∃a b:Nat,st= (((a:Nat):Int),((b:Nat):Int))/\a<=b/\b<=l.length/\(∀j x,j<a->l[j]? =some x->c x<0)/\(∀j x,b<=j->l[j]? =some x->0<=c x))
  (fun st=>(st.2 - st.1).toNat) ?_ ⟨0,l.length,rfl,by omega,bL _,fun j x hj=>by omega,fun j x hj hx=>by have:=(aW.1 hx).1;omega⟩ (by simp only;omega)) ?_
 ·rintro st ⟨a,b,rfl,hab,hb,h1,h2⟩
  dsimp only
  by_cases hlt:a<b
  ·have hm: (a+b) / 2<l.length:=by omega
   have hx:l[(a+b) / 2]? =some l[(a+b) / 2]:=aJ hm
   rw [show decide (((a:Nat):Int)< ((b:Nat):Int))=true by rw [bI];omega,aO,CN hlt (by omega:b<=4611686018427387904)]
   refine Ok.ix hx (Ok.eq (hφ _) ?_)
   by_cases hc:c l[(a+b) / 2]<0
   ·rw [cA hc,aO,aB]
    refine Ok.nx ⟨⟨(a+b) / 2+1,b,?_,by omega,hb,fun j x hj hx'=>?_,h2⟩,?_⟩
    ·rw [gj (by omega)]
    ·by_cases e:j= (a+b) / 2
     ·subst e;rw [hx] at hx';injection hx' with hx';rw [<-hx'];exact hc
     ·by_cases h0:c x<0
      ·exact h0
      ·have:=hs j _ x _ (by omega) hx' hx (by omega)
       omega
    ·rw [gj (by omega)];simp only;omega
   ·rw [bC hc,aR,aB]
    refine Ok.nx ⟨⟨a,(a+b) / 2,rfl,by omega,by omega,h1,fun j x hj hx'=>?_⟩,by simp only;omega⟩
    by_cases e:j= (a+b) / 2
    ·subst e;rw [hx] at hx';injection hx' with hx';rw [<-hx'];omega
    ·have:=hs _ j _ x (by omega) hx hx' (by omega)
     omega
  ·rw [show decide (((a:Nat):Int)< ((b:Nat):Int))=false by rw [decide_eq_false_iff_not];omega,aR]
   exact Ok.br ⟨a,rfl,by omega,h1,fun j x hj hx=>h2 j x (by omega) hx⟩
 intro o ho
 refine Ok.cs ho ?_ (fun r hr=>r.elim)
 rintro⟨st1,st2⟩ ⟨a,ha,hle,h1,h2⟩
 dsimp only at ha ⊢
 subst ha
 by_cases hlt:a<l.length
 ·have hx:l[a]? =some l[a]:=aJ hlt
  rw [show decide (((a:Nat):Int)< ((l.length:Nat):Int))=true by rw [bI];omega,aO,dN hx,aB,hφ,aB,aB]
  refine Ok.ret ?_
  by_cases he:c l[a]=0
  ·have hb: (c l[a]==0)=true:=by rw [beq_iff_eq];exact he
   rw [hb]
   refine⟨(kr.2 ⟨_,cJ hlt,hb⟩).symm,fun _=>?_⟩
   rw [D6 hx hb (fun j y hj hy=>by have:=h1 j y hj hy;rw [beq_eq_false_iff_ne];omega)]
  ·have hb: (c l[a]==0)=false:=by rw [beq_eq_false_iff_ne];exact he
   rw [hb]
   refine⟨?_,fun h=>by cases h⟩
   symm
   rw [List.any_eq_false]
   intro x hx'
   obtain⟨j,hj⟩:=fP hx'
   rw [nQ,beq_eq_false_iff_ne]
   by_cases hja:j<a
   ·have:=h1 j x hja hj;omega
   ·by_cases e:j=a
    ·subst e;rw [hx] at hj;injection hj with hj;rw [<-hj];exact he
    ·have h3:=h2 a _ (bL _) hx
     have:=hs a j _ x (by omega) hx hj h3
     omega
 ·rw [show decide (((a:Nat):Int)< ((l.length:Nat):Int))=false by rw [decide_eq_false_iff_not];omega,aR,aB]
  refine Ok.ret ⟨?_,fun h=>by cases h⟩
  symm
  rw [List.any_eq_false]
  intro x hx'
  obtain⟨j,hj⟩:=fP hx'
  have:=(aW.1 hj).1
  have:=h1 j x (by omega) hj
  rw [nQ,beq_eq_false_iff_ne];omega
end
def vB (p q:fD):Prop:=dC.lt p.Part q.Part\/(p.Part=q.Part/\dC.lt p.fD q.fD)
theorem Cf {p q:fD} (h1:p.Part=q.Part) (h2:p.fD=q.fD):p=q:=by cases p;cases q;simp at h1 h2;subst h1;subst h2;rfl
theorem vB.irrefl (p:fD): ¬vB p p:=fun h=>by
 rcases h with h | ⟨_,h⟩
 ·exact dC.lt_irrefl _ h
 ·exact dC.lt_irrefl _ h
theorem vB.trans {p q r:fD} (h1:vB p q) (h2:vB q r):vB p r:=by
 rcases h1 with h1 | ⟨e1,h1⟩ <;> rcases h2 with h2 | ⟨e2,h2⟩
 ·exact .inl (dC.lt_trans h1 h2)
 ·exact .inl (by rw [<-e2];exact h1)
 ·exact .inl (by rw [e1];exact h2)
 ·exact .inr ⟨e1.trans e2,dC.lt_trans h1 h2⟩
theorem vB.total (p q:fD):vB p q\/p=q\/vB q p:=by
 rcases dC.Ad p.Part q.Part with h | h | h
 ·exact .inl (.inl h)
 ·rcases dC.Ad p.fD q.fD with h' | h' | h'
  ·exact .inl (.inr ⟨h,h'⟩)
  ·exact .inr (.inl (Cf h h'))
  ·exact .inr (.inr (.inr ⟨h.symm,h'⟩))
 ·exact .inr (.inr (.inl h))
theorem vB.asymm {p q:fD} (h:vB p q): ¬vB q p:=fun h'=>vB.irrefl p (h.trans h')
theorem vB.ne {p q:fD} (h:vB p q):p≠q:=fun e=>by subst e;exact vB.irrefl _ h
theorem oY {a b:dC}:Lib.compareBytes a.cK b.cK=0↔a=b:=⟨fun h=>dC.ext' ((sq _ _).1 h),fun h=>(sq _ _).2 (by rw [h])⟩
theorem mX {p q:fD}:iR p q=0↔p=q:=by
 unfold iR
 by_cases h:Lib.compareBytes p.Part.cK q.Part.cK=0
 ·rw [aC (by simpa using h),oY]
  exact⟨fun h'=>Cf (oY.1 h) h',fun h'=>by rw [h']⟩
 ·rw [aD h]
  exact⟨fun h'=>absurd h' h,fun h'=>absurd (oY.2 (by rw [h'])) h⟩
theorem w9 {p q:fD}:iR p q<0↔vB p q:=by
 unfold iR vB
 by_cases h:Lib.compareBytes p.Part.cK q.Part.cK=0
 ·rw [aC (by simpa using h),sm]
  have e:=oY.1 h
  constructor
  ·exact fun h'=> .inr ⟨e,h'⟩
  ·rintro(h' | ⟨_,h'⟩)
   ·rw [e] at h';exact absurd h' (dC.lt_irrefl _)
   ·exact h'
 ·rw [aD h,sm]
  constructor
  ·exact fun h'=> .inl h'
  ·rintro(h' | ⟨e,_⟩)
   ·exact h'
   ·exact absurd (oY.2 e) h
theorem sN {p q:fD}:0<iR p q↔vB q p:=by
 constructor
 ·intro h
  rcases vB.total p q with h' | h' | h'
  ·have:=w9.2 h';omega
  ·have:=mX.2 h';omega
  ·exact h'
 ·intro h
  by_cases h1:iR p q<0
  ·exact absurd (w9.1 h1) h.asymm
  ·by_cases h2:iR p q=0
   ·exact absurd (mX.1 h2).symm h.ne
   ·omega
section
variable {N:Nat}
structure BC (a:jT) (x:cV):Prop where
 name:oy x.Part=true/\isWord x.fD=true
 Ii:0<=x.cR/\x.cR< ((a.aL.length:Nat):Int)
 at_:rQ x.At=true
structure oZ (a:jT):Prop where
 xy:a.bH.length<=1000
 each: ∀x∈a.bH,BC a x
 up:a.bH.Pairwise (fun x y=>vB (kG x) (kG y))
theorem zd {a:jT} {k:Nat} {x:cV} (hx:a.bH[k]? =some x) (h:kH a k=none):BC a x/\∀y,0<k->a.bH[k - 1]? =some y->vB (kG y) (kG x):=by
 unfold kH at h
 rw [hx,Option.bind_some] at h
 split at h
 ·rename_i h1
  split at h
  ·rename_i h2
   split at h
   ·cases h
   ·rename_i h3
    rw [bJ] at h1 h2
    unfold gO at h2
    rw [bJ,bI,bI] at h2
    refine⟨⟨h1,⟨by omega,by omega⟩,h2.2⟩,fun y hk hy=>?_⟩
    have h4: ¬iR (kG x) (kG y)<=0:=fun h4=>h3 ⟨hk,y,hy,h4⟩
    exact sN.1 (by omega)
  ·cases h
 ·cases h
theorem BD {a:jT} {k:Nat} {e:Int} (h:kH a k=some e):e≠0:=by
 unfold kH at h
 cases hx:a.bH[k]? with
 | none=>rw [hx] at h;cases h
 | some x=>
  rw [hx,Option.bind_some] at h
  repeat' split at h
  all_goals first | (injection h with h;omega) | cases h
theorem Db {a:jT} (h:km a=0):oZ a:=by
 unfold km at h
 split at h
 ·omega
 rename_i hl
 have hn:pg a.bH.length (kH a)=none:=by
  cases hf:pg a.bH.length (kH a) with
  | none=>rfl
  | some e=>
   rw [hf] at h
   obtain⟨k,_,hk,_⟩:=ll.1 hf
   exact absurd h (BD hk)
 rw [ji] at hn
 have hg: ∀(k:Nat) x,a.bH[k]? =some x->BC a x/\∀y,0<k->a.bH[k - 1]? =some y->vB (kG y) (kG x):=fun k x hx=>zd hx (hn k (aW.1 hx).1)
 refine⟨by omega,fun x hx=>?_,?_⟩
 ·obtain⟨k,hk⟩:=fP hx
  exact(hg k x hk).1
 ·have hstep: ∀(n i:Nat) x y,a.bH[i]? =some x->a.bH[i+n+1]? =some y->vB (kG x) (kG y):=by
   intro n
   induction n with
   | zero=>intro i x y hx hy;exact(hg (i+1) y hy).2 x (by omega) hx
   | succ n ih=>
    intro i x y hx hy
    have hz:i+n+1<a.bH.length:=by have:=(aW.1 hy).1;omega
    have h1:=ih i x _ hx (aJ hz)
    exact h1.trans ((hg (i+ (n+1)+1) y hy).2 _ (by omega) (by rw [show i+ (n+1)+1 - 1=i+n+1 by omega];exact aJ hz))
  rw [l5]
  intro i j hi hj hij
  exact hstep (j - i - 1) i _ _ (aJ hi) (by rw [show i+ (j - i - 1)+1=j by omega];exact aJ hj)
theorem oZ.inj {a:jT} (h:oZ a) {i j:Nat} {x y:cV} (hx:a.bH[i]? =some x) (hy:a.bH[j]? =some y) (e:kG x=kG y):i=j:=by
 obtain⟨h1,rfl⟩:=aW.1 hx
 obtain⟨h2,rfl⟩:=aW.1 hy
 have hp:=l5.1 h.up
 rcases Nat.lt_trichotomy i j with h3 | h3 | h3
 ·exact absurd e (hp i j h1 h2 h3).ne
 ·exact h3
 ·exact absurd e.symm (hp j i h2 h1 h3).ne
theorem Az {l:List cV} {p:fD} (hu:l.Pairwise (fun x y=>vB (kG x) (kG y))) (hl:l.length<=1048576) (hN:4194304<=N) {φ:cV->fD->Option Int} (hφ: ∀x,φ x p=some (iR (kG x) p)):
  ∃r,Ea N l p φ=some r/\(bif (!r.2) then (some (-1)) else (some r.1))=some (BY l (fun x=>decide (kG x=p))):=by
 obtain⟨r,h1,h2,h3⟩:=EH (N:=N) (l:=l) (s:=p) (φ:=φ) (fun x=>iR (kG x) p) hφ (fun i j x y hij hx hy hc=>by
  obtain⟨g1,rfl⟩:=aW.1 hx
  obtain⟨g2,rfl⟩:=aW.1 hy
  have hlt:=l5.1 hu i j g1 g2 hij
  refine sN.2 ?_
  by_cases h0:iR (kG l[i]) p=0
  ·rw [<-mX.1 h0];exact hlt
  ·exact(sN.1 (by omega)).trans hlt) hl hN
 have e: (fun x=>iR (kG x) p==0)= (fun x=>decide (kG x=p)):=by
  funext x
  rw [fz,beq_iff_eq,bI,mX]
 rw [e] at h2 h3
 refine⟨r,h1,?_⟩
 cases hr:r.2 with
 | true=>simp only [lz,aR];rw [h3 hr]
 | false=>
  simp only [l6,aO]
  rw [hr] at h2
  rw [D5 h2.symm]
def rT (a:jT) (p:fD):Int:=BY a.bH (fun x=>decide (kG x=p))
theorem mw (a:jT) (p:fD): (rT a p = -1/\∀x∈a.bH,kG x≠p)\/∃(k:Nat) (x:cV),rT a p= ((k:Nat):Int)/\a.bH[k]? =some x/\kG x=p:=by
 rcases qY a.bH (fun x=>decide (kG x=p)) with ⟨h1,h2⟩ | ⟨k,x,h1,h2,h3,_⟩
 ·exact .inl ⟨h1,fun x hx=>of_decide_eq_false (h2 x hx)⟩
 ·exact .inr ⟨k,x,h1,h2,of_decide_eq_true h3⟩
end
end Go.Gk
namespace Go.Gk
open Go Classical
section
variable {N:Nat}
end
end Go.Gk
namespace Go.Gk
open Go Classical
section
variable {N:Nat}
end
section
variable {N:Nat} {a:jT} {j4:List (List aA)} {dF:List (List (List aA))} {r:Nat->Nat} {gs:List cL} {ofP ofB jm:List Int} {iZ:List dO}
theorem AA (b:kn a j4 dF r gs ofP ofB jm iZ) {p:aH} (hp:p∈bW 0 dF):p.iD.length<=2000/\(∀q∈p.iD,cU q=true/\q.X0<q.X1/\q.Y0<q.Y1)/\∃i:Nat,p.cR= ((i:Nat):Int)/\∀x y,vg p.iD x y=true->vg (mu a.aV ((i:Nat):Int)) x y=false:=by
 obtain⟨i,ps,q,h1,h2,rfl⟩:=uZ hp
 have hil:i<a.aL.length:=by have:=(aW.1 h1).1;rw [b.dr.y6] at this;exact this
 obtain⟨s,ps',u,g1,g2,L⟩:=Ay b hil
 rw [h1] at g2;injection g2 with g2;subst g2
 obtain⟨k1,k2,k3⟩:=L.part h2
 refine⟨k2,k3,i,by simp,fun x y h=>?_⟩
 have h3:vg (ps.flatMap aM) x y=true:=vk.2 ⟨q,h2,h⟩
 rw [L.cover,L.dr.cover,bJ,Bool.not_eq_true'] at h3
 exact h3.2
end
end Go.Gk
namespace Go.Gk
open Go Classical
structure PS (n:Nat) (r:Nat->Nat) (h:Nat) (q:List Nat) (seen:List Bool) (pieces todo:List Int):Prop where
 sl:seen.length=n
 sn: ∀p,p<n->seen[p]? =some (decide (r p<h\/p∈q))
 qn:q.Nodup
 qi: ∀p∈q,p<n/\r p=h
 q0:h∈q
 td:todo=ints q
 pi:lh pieces
 pm: ∀x,x∈pieces↔∃p∈q,x= ((p:Nat):Int)
structure QS (n m:Nat) (tch:List (List Int)) (r:Nat->Nat) (h:Nat) (q qb:List Nat) (tZ:List Int) (used:List Bool):Prop where
 ul:used.length=m
 un: ∀k,k<m->used[k]? =some (decide (k∈qb))
 bi:lh tZ
 bm: ∀x,x∈tZ↔∃k∈qb,x= ((k:Nat):Int)
 bk: ∀k∈qb,k<m/\r (n+k)=h/\∀l,tch[k]? =some l->∀p:Nat,((p:Nat):Int)∈l->p∈q
theorem PS.xy {n:Nat} {r:Nat->Nat} {h:Nat} {q:List Nat} {seen:List Bool} {pieces todo:List Int} (H:PS n r h q seen pieces todo):q.length<=n/\pieces.length<=n:=by
 have h1:=eA H.qn (m:=List.range n) (fun k hk=>by rw [i5];exact(H.qi k hk).1)
 rw [List.length_range] at h1
 have h2:=eA H.pi.nodup (m:=ints q) (fun x hx=>wY.2 ((H.pm x).1 hx))
 rw [lJ] at h2
 exact⟨h1,by omega⟩
theorem QS.xy {n m:Nat} {tch:List (List Int)} {r:Nat->Nat} {h:Nat} {q qb:List Nat} {tZ:List Int} {used:List Bool} (H:QS n m tch r h q qb tZ used):tZ.length<=m:=by
 have h2:=eA H.bi.nodup (m:=ints (List.range m)) (fun x hx=>by
  obtain⟨k,hk,e⟩:=(H.bm x).1 hx
  exact wY.2 ⟨k,i5.2 (H.bk k hk).1,e⟩)
 rwa [lJ,List.length_range] at h2
section
variable {N:Nat}
end
end Go.Gk
namespace Go.Gk
open Go Classical
structure KA (G G':List cL):Prop where
 len:G'.length=G.length
 each: ∀(g:Nat) x,G[g]? =some x->∃y,G'[g]? =some y/\y.mz=x.mz/\y.aV=x.aV
section
variable {N:Nat}
end
section
variable {N:Nat} {a:jT} {j4:List (List aA)} {dF:List (List (List aA))} {r:Nat->Nat} {gs:List cL} {ofP ofB jm:List Int} {iZ:List dO}
theorem kn.t7 (b:kn a j4 dF r gs ofP ofB jm iZ):oZ a:=Db b.za.t7
end
end Go.Gk
namespace Go.Gk
open Go Classical
section
variable {N:Nat} {a:jT} {j4:List (List aA)} {dF:List (List (List aA))} {r:Nat->Nat} {gs:List cL} {ofP ofB jm:List Int} {iZ:List dO}
end
section
variable {N:Nat}
end
end Go.Gk
namespace Go.Gk
open Go Classical
section
variable {bs:List bU} {ls:List cV} {pcs:List aH} {r:Nat->Nat} {gs:List cL} {ofP ofB jm:List Int} {iZ:List dO}
theorem EI (hc:wZ bs ls pcs r gs ofP ofB jm iZ):gs.length= (live bs pcs.length (pcs.length+bs.length) r (bN (pcs.length+bs.length) r)).length/\gs.length<=pcs.length+bs.length:=by
 have e:gs.length= (live bs pcs.length (pcs.length+bs.length) r (bN (pcs.length+bs.length) r)).length:=by
  rw [hc.gs,tY,qO]
 refine⟨e,?_⟩
 rw [e]
 have:=pz bs pcs.length (pcs.length+bs.length) r (bN (pcs.length+bs.length) r)
 have:=l3 (pcs.length+bs.length) r
 omega
theorem Il (hc:wZ bs ls pcs r gs ofP ofB jm iZ) {k:Nat} (hk:k<pcs.length):
  ∃g:Nat,ofP[k]? =some ((g:Nat):Int)/\g<gs.length/\(live bs pcs.length (pcs.length+bs.length) r (bN (pcs.length+bs.length) r))[g]? =some (r k):=by
 have hm:r k∈bN (pcs.length+bs.length) r:=gN.2 ⟨by have:=hc.conn.le k (by omega);omega,hc.conn.rr k (by omega)⟩
 obtain⟨g1,g2⟩:=As (bs:=bs) (n:=pcs.length) hm (EC hk (by omega))
 exact⟨_,hc.of.pc k hk hm,by rw [(EI hc).1];exact g1,g2⟩
end
section
variable {N:Nat} {a:jT} {j4:List (List aA)} {dF:List (List (List aA))} {r:Nat->Nat} {gs:List cL} {ofP ofB jm:List Int} {iZ:List dO}
end
section
variable {N:Nat}
end
end Go.Gk
namespace Go.Gk
open Go Classical
section
variable {N:Nat} {a:jT} {j4:List (List aA)} {dF:List (List (List aA))} {r:Nat->Nat} {gs:List cL} {ofP ofB jm:List Int} {iZ:List dO}
theorem rl (g:oZ a) (p:fD) (hN:4398046511104<=N):jK N a p=some (rT a p):=by
 obtain⟨r,h1,h2⟩:=Az (N:=N) (p:=p) g.up (by have:=g.xy;omega) (by omega) (φ:=gm N) (fun x=>by unfold gm;rw [uX,aB,pG,aB])
 unfold jK
 have e:eD N a.bH p (gm N)=Ea N a.bH p (gm N):=rfl
 rw [e,h1,aB];exact h2
end
section
variable {N:Nat}
end
end Go.Gk
namespace Go.Gk
open Go Classical
theorem xz.uniq {n m:Nat} {tch:List (List Int)} {r1 r2:Nat->Nat} (h1:xz n m tch r1) (h2:xz n m tch r2) {i j:Nat} (hi:i<n+m) (hj:j<n+m):r1 i=r1 j↔r2 i=r2 j:=by
 have key: ∀{r1 r2:Nat->Nat},xz n m tch r1->xz n m tch r2->r1 i=r1 j->r2 i=r2 j:=fun{r1 r2} h1 h2 e=>
  (h1.fi (fun x=>r2 i=r2 x) (fun a b hab=>by rw [h2.co a b hab]) i j hi hj e) rfl
 exact⟨key h1 h2,key h2 h1⟩
section
variable {N:Nat} {a:jT} {j4:List (List aA)} {dF:List (List (List aA))} {r:Nat->Nat} {gs:List cL} {ofP ofB jm:List Int} {iZ:List dO}
theorem GQ (x y:Int) (u:List Int):gl N x y [] u=dA N u x y:=by
 show (((dA N u x y).bind fun x38=>some x38).bind fun s36=>some s36)=_
 cases dA N u x y <;> rfl
theorem ze {bs:List bU} {pcs:List aH} {l:cV} {h:dO} (hh:mI bs pcs l=some h) (hn:pcs.length+bs.length<=1000000000):
  fL N h ((pcs.length:Nat):Int)=some ((eH pcs.length h:Nat):Int)/\eH pcs.length h<pcs.length+bs.length:=by
 obtain⟨k,e,h1,h2⟩:=(BA hh).num
 unfold fL eH
 cases hB:h.bU with
 | true=>
  have:=(h1 hB).1
  rw [aO,aD rfl,e,bO,wrap_add (by omega)]
  exact⟨rfl,by omega⟩
 | false=>
  have:=h2 hB
  rw [aR,aC iz,e,bO]
  exact⟨rfl,by omega⟩
structure FN (bs:List bU) (pcs:List aH) (ls:List cV) (r2:Nat->Nat) (j:Nat) (up:List Int) (fm:List (Int×Int)) (out:List Int):Prop where
 uf:UF (pcs.length+bs.length) up r2
 len:out.length=ls.length
 no: ∀i l,i<j->ls[i]? =some l->mI bs pcs l=none->out[i]? =some (-1)
 yes: ∀i l h,i<j->ls[i]? =some l->mI bs pcs l=some h->iB fm ((r2 (eH pcs.length h):Nat):Int)=true/\out[i]? =some (dG fm ((r2 (eH pcs.length h):Nat):Int) 0)
 low: ∀x,iB fm x=true->∃v:Nat,dG fm x 0= ((v:Nat):Int)/\v<j
 inj: ∀x y,iB fm x=true->iB fm y=true->dG fm x 0=dG fm y 0->x=y
theorem BE {bs:List bU} {pcs:List aH} {ls:List cV} (hn:pcs.length+bs.length<=1000000000) (hp:pcs.length<=1073741824) (hbl:bs.length<=1073741824) (hl:ls.length<=1073741824) (hof:jm=ls.map (zn bs pcs r)) (hat:iZ=ls.map (fun l=>(mI bs pcs l).getD ⟨false,0⟩)) (hN:4398046511104<=N):
  ∃r2 c up fm,dL N bs ls pcs (eY bs pcs) jm iZ []=some c/\xz pcs.length bs.length (eY bs pcs) r2/\FN bs pcs ls r2 ls.length up fm c:=by
 suffices h:Ok (dL N bs ls pcs (eY bs pcs) jm iZ []) (fun c=>∃r2 up fm,xz pcs.length bs.length (eY bs pcs) r2/\FN bs pcs ls r2 ls.length up fm c) by
  obtain⟨c,h1,r2,up,fm,h2,h3⟩:=h
  exact⟨r2,c,up,fm,h1,h2,h3⟩
 unfold dL
 refine Ok.eq (x:=[]) rfl ?_
 rw [wrap_add (by omega)]
 obtain⟨up0,u1,u2⟩:=qF (N:=N) (n:=pcs.length+bs.length) (by omega)
 refine Ok.eq u1 ?_
 simp only [GQ]
 refine Ok.bind (x9 (n:=pcs.length) (m:=bs.length) (by unfold eY;simp) (w3 (by omega)) (by omega) (by omega) u2 hN) ?_
 rintro up1 ⟨r2,v1,v2⟩
 refine Ok.eq (x:=up1) rfl (Ok.eq (ph 0 (by omega)) ?_)
 have jS:iZ.length=ls.length:=by rw [hat,gQ]
 refine Ok.bind (Ok.iT (fun j (st:List Int×List (Int×Int)×List Int)=>FN bs pcs ls r2 j st.1 st.2.1 st.2.2) (by omega) ⟨v1,by simp,fun i l h=>by omega,fun i l h h1=>by omega,fun x hx=>(by cases hx),fun x y hx=>(by cases hx)⟩ ?_) (fun st I=>Ok.ret ⟨r2,st.1,st.2.1,v2,by rw [<-jS];exact I⟩)
 rintro j ⟨up,fm,out⟩ hj I
 rw [jS] at hj
 dsimp only at I ⊢
 have hx:ls[j]? =some ls[j]:=aJ hj
 have h1:iZ[j]? =some ((mI bs pcs ls[j]).getD ⟨false,0⟩):=by rw [hat,gX,hx];rfl
 have h2:jm[j]? =some (zn bs pcs r ls[j]):=by rw [hof,gX,hx];rfl
 have h3:out[j]? =some (out[j]'(by rw [I.len];exact hj)):=aJ _
 have hjo:j<out.length:=by rw [I.len];exact hj
 refine Ok.ix h1 ?_
 cases hh:mI bs pcs ls[j] with
 | none=>
  have e1:zn bs pcs r ls[j] = -1:=by unfold zn sM;rw [hh];rfl
  refine Ok.eq (x:=0) rfl (Ok.eq (x:=true) (by rw [dN h2,aB,e1];rfl) ?_)
  refine Ok.ix h3 (Ok.ret ?_)
  dsimp only
  rw [bO]
  refine⟨I.uf,by rw [gu];exact I.len,fun i l hi hil hn=>?_,fun i l h hi hil hs=>?_,fun x hx=>?_,I.inj⟩
  ·by_cases e:i=j
   ·subst e;rw [List.getElem?_set_self hjo]
   ·rw [List.getElem?_set_ne (Ne.symm e)];exact I.no i l (by omega) hil hn
  ·by_cases e:i=j
   ·subst e;rw [hx] at hil;injection hil with hil;subst hil;rw [hh] at hs;cases hs
   ·rw [List.getElem?_set_ne (Ne.symm e)];exact I.yes i l h (by omega) hil hs
  ·obtain⟨v,q1,q2⟩:=I.low x hx;exact⟨v,q1,by omega⟩
 | some h=>
  obtain⟨c1,c2⟩:=ze (N:=N) hh hn
  have e1: ∃g:Nat,zn bs pcs r ls[j]= ((g:Nat):Int):=by unfold zn sM;rw [hh];exact⟨_,rfl⟩
  obtain⟨g,e1⟩:=e1
  refine Ok.eq c1 (Ok.eq (x:=false) (by rw [dN h2,aB,e1,bC (show ¬((g:Nat):Int)<0 by omega),aR];rfl) ?_)
  rw [aR]
  obtain⟨up2,t1,t2⟩:=mH (N:=N) I.uf c2 (by omega)
  refine Ok.eq t1 ?_
  dsimp only
  have fin: ∀(up3:List Int) (fm2:List (Int×Int)),UF (pcs.length+bs.length) up3 r2->(∀x,iB fm x=true->iB fm2 x=true/\dG fm2 x 0=dG fm x 0)->iB fm2 ((r2 (eH pcs.length h):Nat):Int)=true->(∀x,iB fm2 x=true->∃v:Nat,dG fm2 x 0= ((v:Nat):Int)/\v<j+1)->(∀x y,iB fm2 x=true->iB fm2 y=true->dG fm2 x 0=dG fm2 y 0->x=y)->
    FN bs pcs ls r2 (j+1) up3 fm2 (out.set j (dG fm2 ((r2 (eH pcs.length h):Nat):Int) 0)):=fun up3 fm2 g1 g2 g3 g4 g5=>by
   refine⟨g1,by rw [gu];exact I.len,fun i l hi hil hn=>?_,fun i l h' hi hil hs=>?_,g4,g5⟩
   ·by_cases e:i=j
    ·subst e;rw [hx] at hil;injection hil with hil;subst hil;rw [hh] at hn;cases hn
    ·rw [List.getElem?_set_ne (Ne.symm e)];exact I.no i l (by omega) hil hn
   ·by_cases e:i=j
    ·subst e;rw [hx] at hil;injection hil with hil;subst hil;rw [hh] at hs;injection hs with hs;subst hs
     exact⟨g3,by rw [List.getElem?_set_self hjo]⟩
    ·obtain⟨q1,q2⟩:=I.yes i l h' (by omega) hil hs
     rw [List.getElem?_set_ne (Ne.symm e),q2,(g2 _ q1).2]
     exact⟨(g2 _ q1).1,rfl⟩
  cases hm:iB fm ((r2 (eH pcs.length h):Nat):Int) with
  | true=>
   rw [lz,aR]
   obtain⟨up3,t3,t4⟩:=mH (N:=N) t2 c2 (by omega)
   refine Ok.eq (x:=(up2,fm)) rfl (Ok.eq t3 (Ok.ix h3 (Ok.ret ?_)))
   dsimp only
   rw [bO]
   exact fin up3 fm t4 (fun x hx=>⟨hx,rfl⟩) hm (fun x hx=>by obtain⟨v,q1,q2⟩:=I.low x hx;exact⟨v,q1,by omega⟩) I.inj
  | false=>
   rw [l6,aO]
   obtain⟨up3,t3,t4⟩:=mH (N:=N) t2 c2 (by omega)
   obtain⟨up4,t5,t6⟩:=mH (N:=N) t4 c2 (by omega)
   refine Ok.eq (x:=(up3,oe fm ((r2 (eH pcs.length h):Nat):Int) ((j:Nat):Int))) (by rw [t3,aB]) (Ok.eq t5 (Ok.ix h3 (Ok.ret ?_)))
   dsimp only
   rw [bO]
   refine fin up4 _ t6 (fun x hx=>?_) (by rw [kE];simp) (fun x hx=>?_) (fun x y hx hy e=>?_)
   ·have hne:x≠((r2 (eH pcs.length h):Nat):Int):=fun e=>by rw [e,hm] at hx;cases hx
    rw [kE,iJ,aC hne,hx]
    exact⟨by simp,rfl⟩
   ·rw [iJ]
    by_cases e:x= ((r2 (eH pcs.length h):Nat):Int)
    ·rw [aD e];exact⟨j,rfl,by omega⟩
    ·rw [aC e]
     rw [kE,bC e,Bool.false_or] at hx
     obtain⟨v,q1,q2⟩:=I.low x hx;exact⟨v,q1,by omega⟩
   ·rw [iJ,iJ] at e
    rw [kE] at hx hy
    by_cases ex:x= ((r2 (eH pcs.length h):Nat):Int)
    ·by_cases ey:y= ((r2 (eH pcs.length h):Nat):Int)
     ·rw [ex,ey]
     ·rw [aD ex,aC ey] at e
      rw [bC ey,Bool.false_or] at hy
      obtain⟨v,q1,q2⟩:=I.low y hy
      omega
    ·rw [bC ex,Bool.false_or] at hx
     by_cases ey:y= ((r2 (eH pcs.length h):Nat):Int)
     ·rw [aC ex,aD ey] at e
      obtain⟨v,q1,q2⟩:=I.low x hx
      omega
     ·rw [aC ex,aC ey] at e
      rw [bC ey,Bool.false_or] at hy
      exact I.inj x y hx hy e
theorem FO (b:kn a j4 dF r gs ofP ofB jm iZ) {x y:cV} {h h':dO} (hx:mI a.aV (bW 0 dF) x=some h) (hy:mI a.aV (bW 0 dF) y=some h'): (sM a.aV (bW 0 dF) r x=sM a.aV (bW 0 dF) r y)↔r (eH (bW 0 dF).length h)=r (eH (bW 0 dF).length h'):=by
 have gp: ∀{z:cV} {h:dO},mI a.aV (bW 0 dF) z=some h->(live a.aV (bW 0 dF).length ((bW 0 dF).length+a.aV.length) r (bN ((bW 0 dF).length+a.aV.length) r))[gi a.aV (bW 0 dF).length ((bW 0 dF).length+a.aV.length) r (r (eH (bW 0 dF).length h))]? =some (r (eH (bW 0 dF).length h)):=by
  intro z h hz
  obtain⟨k,e,g1,g2⟩:=(BA hz).num
  have hle:=b.yc.conn.le
  have hrr:=b.yc.conn.rr
  have hd: ∀i,i< (bW 0 dF).length+a.aV.length->r i∈bN ((bW 0 dF).length+a.aV.length) r:=fun i hi=>gI.2 ⟨i5.2 (by have:=hle i hi;omega),by rw [bI];exact hrr i hi⟩
  unfold eH
  cases hB:h.bU with
  | true=>
   obtain⟨k1,k2⟩:=g1 hB
   rw [aD rfl,e,bO]
   exact(As (hd _ (by omega)) (ED k2 (by omega))).2
  | false=>
   have k1:=g2 hB
   rw [aC iz,e,bO]
   exact(As (hd _ (by omega)) (EC k1 (by omega))).2
 unfold sM
 rw [hx,hy]
 constructor
 ·intro e
  simp only [Option.map_some,Option.some.injEq] at e
  have h1:=gp hx
  have h2:=gp hy
  rw [e,h2] at h1
  injection h1 with h1;exact h1.symm
 ·intro e
  simp only [Option.map_some,Option.some.injEq]
  rw [e]
theorem zf (b:kn a j4 dF r gs ofP ofB jm iZ) (h1:fZ N a=some (some (a.aL,a.dU,a.aV,a.bH,j4,bW 0 dF,eY a.aV (bW 0 dF),gs,ofP,ofB,jm,iZ),0)) {p q:fD} {i k:Nat} {x y:cV} (ep:rT a p= ((i:Nat):Int)) (hx:a.bH[i]? =some x) (eq:rT a q= ((k:Nat):Int)) (hy:a.bH[k]? =some y) (hN:4398046511104<=N):
  dY N a [] p q=some ((sM a.aV (bW 0 dF) r x).isSome&&decide (sM a.aV (bW 0 dF) r x=sM a.aV (bW 0 dF) r y),0):=by
 have hf:=b.xy.2
 have hbl:=b.za.gb.len
 have hlf:=b.t7.xy
 obtain⟨r2,c,up,fm,c1,c2,c3⟩:=BE (N:=N) (r:=r) (jm:=jm) (iZ:=iZ) (bs:=a.aV) (pcs:=bW 0 dF) (ls:=a.bH) (by omega) (by omega) (by omega) (by omega) b.yc.jm b.yc.iZ hN
 have hil:=(aW.1 hx).1
 have hkl:=(aW.1 hy).1
 unfold dY
 rw [h1,aB,rl b.t7 p hN,rl b.t7 q hN]
 simp only [Dx,bne_self_eq_false,aR,aB]
 have hz: ∀(p0:List (List aI)) (p1:List aI) (p2:List bU) (p3:List cV) (p4:List (List aA)) (p5:List aH) (p6:List (List Int)) (p7:List cL) (p8 p9 p10:List Int) (p11:List dO),hQ N p0 p1 p2 p3 p4 p5 p6 p7 p8 p9 p10 p11 []=some 0:=fun _ _ _ _ _ _ _ _ _ _ _ _=>rfl
 rw [hz,aB,bne_self_eq_false,aR,ep,eq,bC (show ¬((i:Nat):Int)<0 by omega),bC (show ¬((k:Nat):Int)<0 by omega),Bool.or_false,aR,c1,aB]
 cases hhx:mI a.aV (bW 0 dF) x with
 | none=>
  have e1:sM a.aV (bW 0 dF) r x=none:=by unfold sM;rw [hhx];rfl
  rw [dN (c3.no i x hil hx hhx),aB,e1];rfl
 | some h=>
  obtain⟨q1,q2⟩:=c3.yes i x h hil hx hhx
  obtain⟨v,v1,_⟩:=c3.low _ q1
  have e1: (sM a.aV (bW 0 dF) r x).isSome=true:=by unfold sM;rw [hhx];rfl
  rw [dN q2,aB,v1,cA (show ((v:Nat):Int)>=0 by omega),aO,aB,e1,Bool.true_and]
  cases hhy:mI a.aV (bW 0 dF) y with
  | none=>
   have e2:sM a.aV (bW 0 dF) r y=none:=by unfold sM;rw [hhy];rfl
   rw [dN (c3.no k y hkl hy hhy),aB,aB,bC (fun e=>by rw [e,e2] at e1;cases e1),show ((((v:Nat):Int))== -1)=false from by rw [beq_eq_false_iff_ne];omega]
  | some h'=>
   obtain⟨s1,s2⟩:=c3.yes k y h' hkl hy hhy
   obtain⟨w,w1,_⟩:=c3.low _ s1
   rw [dN s2,aB,w1,aB]
   have t1:=(ze (N:=N) hhx (by omega)).2
   have t2:=(ze (N:=N) hhy (by omega)).2
   have key: (((v:Nat):Int)= ((w:Nat):Int))↔sM a.aV (bW 0 dF) r x=sM a.aV (bW 0 dF) r y:=by
    rw [FO b hhx hhy,xz.uniq b.yc.conn c2 t1 t2]
    constructor
    ·intro e
     have:=c3.inj _ _ q1 s1 (by rw [v1,w1];exact e)
     omega
    ·intro e
     rw [e,w1] at v1;exact v1.symm
   congr 2
   rw [fz,beq_iff_eq,bI];exact key
end
def nP:jT:=⟨[[⟨0,0,1,1⟩]],[],[],[⟨⟨[97]⟩,⟨[49]⟩,0,⟨0,0⟩⟩]⟩
def FP:fD:=⟨⟨[97]⟩,⟨[49]⟩⟩
def pH:aA:=⟨0,1,[0,1]⟩
theorem FQ:n0 [⟨0,0,1,1⟩] [pH] where
 can:=⟨fun b hb=>by
  have e:b=bK pH:=by simpa using hb
  subst e
  exact⟨by decide,by decide,by unfold lh;decide,by decide⟩,List.pairwise_singleton _ _⟩
 cover:=fun x y=>by
  show lL (if (0:Int)<=y/\y<1 then [0,1] else []) x= ((decide ((0:Int)<=x)&&decide (x<1))&&(decide ((0:Int)<=y)&&decide (y<1))||false)
  by_cases h: (0:Int)<=y/\y<1
  ·rw [aD h,cA h.1,cA h.2]
   unfold lL
   rw [kP,kP,yU]
   by_cases h0: (0:Int)<=x
   ·by_cases h1: (1:Int)<=x
    ·rw [aD h0,aD h1,bC (show ¬x<1 by omega)];simp
    ·rw [aD h0,aC h1,cA h0,cA (show x<1 by omega)];rfl
   ·rw [aC h0,aC (show ¬(1:Int)<=x by omega),bC h0];rfl
  ·rw [aC h]
   have: (decide ((0:Int)<=y)&&decide (y<1))=false:=by
    rw [Bool.eq_false_iff];intro h';rw [bJ,bI,bI] at h';exact h h'
   rw [this,Bool.and_false];rfl
 lim:=fun b hb=>by
  have e:b=bK pH:=by simpa using hb
  subst e
  exact⟨by decide,by decide,by decide⟩
theorem Kb:n0 [] []:=⟨dW.nil,fun _ _=>rfl,fun b hb=>by cases hb⟩
theorem Kc:iF [⟨0,0,1,1⟩]=0:=n8.2 ⟨by decide,fun k a b h1 h2=>(by cases k <;> simp at h2),⟨_,FQ,rfl⟩⟩
theorem Kd:iF []=0:=n8.2 ⟨by decide,fun k a b h1 h2=>(by simp at h2),⟨_,Kb,rfl⟩⟩
theorem GR:t9 nP:=⟨by decide,by decide,by decide,by decide,by decide,by
 intro x hx
 have e:x= ⟨⟨[97]⟩,⟨[49]⟩,0,⟨0,0⟩⟩:=by simpa [nP] using hx
 subst e;decide⟩
theorem GS:iS nP=0:=by
 have e1:nP.aL.findSome? xB=none:=by
  show [[(⟨0,0,1,1⟩:aI)]].findSome? xB=none
  have:xB [⟨0,0,1,1⟩]=none:=by unfold xB;rw [Kc];simp
  simp [this]
 have e2:kU nP=0:=by decide
 have e3:km nP=0:=by
  unfold km
  have:pg nP.bH.length (kH nP)=none:=ji.2 fun k hk=>by
   have hk:k<1:=hk
   obtain rfl:k=0:=by omega
   unfold kH
   have hx0:nP.bH[0]? =some ⟨⟨[97]⟩,⟨[49]⟩,0,⟨0,0⟩⟩:=rfl
   rw [hx0,Option.bind_some,aD (by decide),aD (by decide),aC (by rintro⟨h,_⟩;omega)]
  rw [this,aC (by decide)];rfl
 have e4: ¬vj nP:=by
  rintro⟨i,k,x,y,_,h,_⟩
  simp [nP] at h
 unfold iS
 rw [aC (by decide),aC (by decide)]
 unfold EG
 rw [e1]
 show (if iF []≠0 then iF [] else y9 nP)=0
 rw [Kd,aC (by simp)]
 unfold y9
 rw [aC (by decide),e2,aC (by simp),e3,aC (by simp),aC e4]
theorem Im {j4:List (List aA)} {dF:List (List (List aA))} (D:sJ nP.aL nP.aV nP.aL.length j4 dF):j4= [[pH]]/\dF= [[[pH]]]:=by
 obtain⟨s,rfl⟩:=List.length_eq_one_iff.1 D.len
 obtain⟨ps,rfl⟩:=List.length_eq_one_iff.1 D.y6
 have hd:=D.dr 0 [⟨0,0,1,1⟩] s (by decide) rfl rfl
 have hs:s= [pH]:=Ao hd.can FQ.can fun x y=>by
  rw [hd.cover,FQ.cover]
  show (_&& !vg [] x y)=_
  simp [vg]
 subst hs
 obtain⟨u,hu⟩:=D.pt 0 [pH] ps (by decide) rfl rfl
 have u0:u 0=0:=Nat.le_zero.1 (hu.join.le 0 (by decide))
 have hh:bN (aM [pH]).length u= [0]:=by
  show (List.range 1).filter (fun k=>decide (u k=k))= [0]
  simp [List.range_succ,u0]
 obtain⟨p,rfl⟩:=List.length_eq_one_iff.1 (show ps.length=1 by rw [hu.len,hh];rfl)
 have hp:=hu.each 0 0 p (by rw [hh];rfl) rfl
 have hc:ly (aM [pH]) (aM [pH]).length u 0= [⟨0,0,1,1⟩]:=by
  show ((List.range 1).filter (fun i=>decide (u i=0))).filterMap (fun i=>(aM [pH])[i]?)=_
  simp [List.range_succ,u0];rfl
 rw [hc] at hp
 exact⟨rfl,by rw [hp.unique FQ]⟩
section
variable {N:Nat}
theorem FR (hN:4398046511104<=N):eL N=some true:=by
 have key:dY N nP [] FP FP=some (true,0):=by
  obtain⟨x,hx,hI⟩:=yb (N:=N) GR hN
  rcases hI with ⟨he,_⟩ | ⟨_,hg,hcl,j4,dF,D,⟨hf,_⟩ | ⟨hf,r,gs,ofP,ofB,jm,iZ,hC,rfl⟩⟩
  ·exact absurd GS he
  ·obtain⟨rfl,rfl⟩:=Im D
   exact absurd ⟨by decide,by decide⟩ hf
  ·have b:kn nP j4 dF r gs ofP ofB jm iZ:=⟨hg,hcl,D,hf,hC⟩
   have e:rT nP FP= ((0:Nat):Int):=by
    rcases mw nP FP with ⟨_,h⟩ | ⟨k,x,h,hk,_⟩
    ·exact absurd rfl (h ⟨⟨[97]⟩,⟨[49]⟩,0,⟨0,0⟩⟩ (by simp [nP]))
    ·have:k<1:=(aW.1 hk).1
     rw [h];omega
   have hl:nP.bH[0]? =some ⟨⟨[97]⟩,⟨[49]⟩,0,⟨0,0⟩⟩:=rfl
   rw [zf b hx e hl e hl hN]
   obtain⟨rfl,rfl⟩:=Im D
   have hh:mI nP.aV (bW 0 [[[pH]]]) ⟨⟨[97]⟩,⟨[49]⟩,0,⟨0,0⟩⟩=some ⟨false,0⟩:=by decide
   unfold sM
   rw [hh];simp
 unfold eL
 have e:dY N (⟨([([(⟨0,0,1,1⟩:aI)]: (List aI))]: (List (List aI))),([]: (List aI)),([]: (List bU)),([(⟨⟨[97]⟩,⟨[49]⟩,0,⟨0,0⟩⟩:cV)]: (List cV))⟩:jT) ([]: (List bY)) (⟨⟨[97]⟩,⟨[49]⟩⟩:fD) (⟨⟨[97]⟩,⟨[49]⟩⟩:fD)=some (true,0):=key
 rw [e,aB];rfl
end
end Go.Gk
namespace Go.Gk
open Go Classical
def ue (n:Nat) (fl:List bY) (v:Nat):Prop:=∃x∈fl,x.Open=true/\eH n x.dO=v
structure Io (bs:List bU) (n m:Nat) (fl:List bY):Prop where
 op: ∀x∈fl,x.Open=true->EB bs n m x.dO
 br: ∀x∈fl,x.Open=false->∃i k:Nat,x.A= ((i:Nat):Int)/\x.B= ((k:Nat):Int)/\i<k/\k<n
def Ip (n:Nat) (tch:List (List Int)) (fl:List bY) (i j:Nat):Prop:=Lk n tch i j\/∃x∈fl,x.Open=false/\x.A= ((i:Nat):Int)/\x.B= ((j:Nat):Int)
def Iv (n:Nat) (tch:List (List Int)) (fl:List bY) (i j:Nat):Prop:=Ip n tch fl i j/\¬ue n fl i/\¬ue n fl j
structure ug (t:Nat) (L:Nat->Nat->Prop) (r:Nat->Nat):Prop where
 le: ∀i,i<t->r i<=i
 rr: ∀i,i<t->r (r i)=r i
 co: ∀i j,L i j->r i=r j
 fi: ∀S:Nat->Prop,(∀i j,L i j->(S i↔S j))->∀i j,i<t->j<t->r i=r j->S i->S j
theorem ug.uniq {t:Nat} {L:Nat->Nat->Prop} {r1 r2:Nat->Nat} (h1:ug t L r1) (h2:ug t L r2) {i j:Nat} (hi:i<t) (hj:j<t):r1 i=r1 j↔r2 i=r2 j:=by
 have key: ∀{r1 r2:Nat->Nat},ug t L r1->ug t L r2->r1 i=r1 j->r2 i=r2 j:=fun{r1 r2} h1 h2 e=>
  (h1.fi (fun x=>r2 i=r2 x) (fun a b hab=>by rw [h2.co a b hab]) i j hi hj e) rfl
 exact⟨key h1 h2,key h2 h1⟩
noncomputable def nC (bs:List bU) (pcs:List aH) (fl:List bY) (l:cV):Option Nat:=(mI bs pcs l).bind fun h=>if ue pcs.length fl (eH pcs.length h) then none else some (eH pcs.length h)
section
variable {N:Nat} {r:Nat->Nat} {jm:List Int} {iZ:List dO}
theorem GU {bs:List bU} {n m:Nat} {h:dO} (hh:EB bs n m h) (hn:n+m<=1000000000):fL N h ((n:Nat):Int)=some ((eH n h:Nat):Int)/\eH n h<n+m:=by
 obtain⟨k,e,h1,h2⟩:=hh.num
 unfold fL eH
 cases hB:h.bU with
 | true=>
  have:=(h1 hB).1
  rw [aO,aD rfl,e,bO,wrap_add (by omega)]
  exact⟨rfl,by omega⟩
 | false=>
  have:=h2 hB
  rw [aR,aC iz,e,bO]
  exact⟨rfl,by omega⟩
def EZ (t:Nat) (L:Nat->Nat->Prop) (op:Nat->Prop) (done:Nat->Nat->Prop) (u:List Int):Prop:=
 ∃r E,UF t u r/\lZ r E/\uT t r E/\(∀p∈E,L p.1 p.2/\¬op p.1/\¬op p.2)/\∀i j,done i j->¬op i->¬op j->(i,j)∈E
theorem EZ.mono {t:Nat} {L:Nat->Nat->Prop} {op:Nat->Prop} {d d':Nat->Nat->Prop} {u:List Int} (h:EZ t L op d u) (hd: ∀i j,d' i j->d i j):EZ t L op d' u:=by
 obtain⟨r,E,h1,h2,h3,h4,h5⟩:=h
 exact⟨r,E,h1,h2,h3,h4,fun i j hij=>h5 i j (hd i j hij)⟩
theorem EJ {t:Nat} {L:Nat->Nat->Prop} {op:Nat->Prop} {done:Nat->Nat->Prop} {u:List Int} {om:List (Int×Bool)} (hom: ∀v:Nat,dG om ((v:Nat):Int) false=true↔op v) (hI:EZ t L op done u) {i k:Nat} (hi:i<t) (hk:k<t) (ht:t<N) (hL:L i k):
  Ok (gl N ((i:Nat):Int) ((k:Nat):Int) om u) (EZ t L op (fun a b=>done a b\/(a=i/\b=k))):=by
 obtain⟨r,E,h1,h2,h3,h4,h5⟩:=hI
 have skip:op i\/op k->EZ t L op (fun a b=>done a b\/(a=i/\b=k)) u:=fun ho=>⟨r,E,h1,h2,h3,h4,fun a b hab ha hb=>by
  rcases hab with hab | ⟨rfl,rfl⟩
  ·exact h5 a b hab ha hb
  ·rcases ho with ho | ho
   ·exact absurd ho ha
   ·exact absurd ho hb⟩
 unfold gl
 by_cases ho:op i
 ·refine Ok.eq (x:=false) (by rw [(hom i).2 ho];rfl) (Ok.ret (skip (.inl ho)))
 ·have e1:dG om ((i:Nat):Int) false=false:=by rw [Bool.eq_false_iff];exact fun h=>ho ((hom i).1 h)
  by_cases hp:op k
  ·refine Ok.eq (x:=false) (by rw [e1,(hom k).2 hp];rfl) (Ok.ret (skip (.inr hp)))
  ·have e2:dG om ((k:Nat):Int) false=false:=by rw [Bool.eq_false_iff];exact fun h=>hp ((hom k).1 h)
   refine Ok.eq (x:=true) (by rw [e1,e2];rfl) ?_
   obtain⟨u2,a1,a2⟩:=B6 (N:=N) h1 hi hk ht
   rw [aO,a1]
   refine Ok.ret ⟨_,_,a2,h2.join i k (h1.rr i hi),h3.join hi hk,fun p hp'=>?_,fun a b hab ha hb=>?_⟩
   ·rcases cP.1 hp' with h | h
    ·exact h4 p h
    ·simp at h;subst h;exact⟨hL,ho,hp⟩
   ·rcases hab with hab | ⟨rfl,rfl⟩
    ·exact List.mem_append_left _ (h5 a b hab ha hb)
    ·simp
structure xC (bs:List bU) (pcs:List aH) (fl:List bY) (ls:List cV) (r2:Nat->Nat) (j:Nat) (up:List Int) (fm:List (Int×Int)) (out:List Int):Prop where
 uf:UF (pcs.length+bs.length) up r2
 len:out.length=ls.length
 no: ∀i l,i<j->ls[i]? =some l->nC bs pcs fl l=none->out[i]? =some (-1)
 yes: ∀i l v,i<j->ls[i]? =some l->nC bs pcs fl l=some v->iB fm ((r2 v:Nat):Int)=true/\out[i]? =some (dG fm ((r2 v:Nat):Int) 0)
 low: ∀x,iB fm x=true->∃(v:Nat) (l:cV) (u:Nat),dG fm x 0= ((v:Nat):Int)/\v<j/\ls[v]? =some l/\nC bs pcs fl l=some u/\((r2 u:Nat):Int)=x
 inj: ∀x y,iB fm x=true->iB fm y=true->dG fm x 0=dG fm y 0->x=y
theorem AB {bs:List bU} {pcs:List aH} {ls:List cV} {fl:List bY} (hfl:Io bs pcs.length bs.length fl) (hfn:fl.length<=1073741824) (hn:pcs.length+bs.length<=1000000000) (hp:pcs.length<=1073741824) (hbl:bs.length<=1073741824) (hl:ls.length<=1073741824) (hof:jm=ls.map (zn bs pcs r)) (hat:iZ=ls.map (fun l=>(mI bs pcs l).getD ⟨false,0⟩)) (hN:4398046511104<=N):
  ∃r2 c up fm,dL N bs ls pcs (eY bs pcs) jm iZ fl=some c/\ug (pcs.length+bs.length) (Iv pcs.length (eY bs pcs) fl) r2/\xC bs pcs fl ls r2 ls.length up fm c:=by
 suffices h:Ok (dL N bs ls pcs (eY bs pcs) jm iZ fl) (fun c=>∃r2 up fm,ug (pcs.length+bs.length) (Iv pcs.length (eY bs pcs) fl) r2/\xC bs pcs fl ls r2 ls.length up fm c) by
  obtain⟨c,h1,r2,up,fm,h2,h3⟩:=h
  exact⟨r2,c,up,fm,h1,h2,h3⟩
 unfold dL
 refine Ok.bind (Ok.iT (fun q om=>∀v:Nat,dG om ((v:Nat):Int) false=true↔ue pcs.length (fl.take q) v) (by omega) (fun v=>⟨fun h=>(by cases h),fun⟨x,hx,_⟩=>(by simp at hx)⟩) (fun q om hq hI=>?_)) ?_
 ·have hx:fl[q]? =some fl[q]:=aJ hq
  have hts:=fu hq
  refine Ok.ix hx ?_
  cases ho:fl[q].Open with
  | true=>
   obtain⟨c1,_⟩:=GU (N:=N) (hfl.op _ (cJ hq) ho) hn
   refine Ok.eq (x:=oe om ((eH pcs.length fl[q].dO:Nat):Int) true) (by rw [aO,c1,aB]) (Ok.ret fun v=>?_)
   rw [iJ,hts]
   by_cases e: ((v:Nat):Int)= ((eH pcs.length fl[q].dO:Nat):Int)
   ·rw [aD e]
    exact⟨fun _=>⟨fl[q],List.mem_append_right _ (List.mem_singleton.2 rfl),ho,by omega⟩,fun _=>rfl⟩
   ·rw [aC e,hI v]
    constructor
    ·rintro⟨x,hx,h1,h2⟩;exact⟨x,List.mem_append_left _ hx,h1,h2⟩
    ·rintro⟨x,hx,h1,h2⟩
     rcases cP.1 hx with hx | hx
     ·exact⟨x,hx,h1,h2⟩
     ·simp at hx;subst hx;exact absurd (by rw [h2]) e
  | false=>
   refine Ok.eq (x:=om) rfl (Ok.ret fun v=>?_)
   rw [hI v,hts]
   constructor
   ·rintro⟨x,hx,h1,h2⟩;exact⟨x,List.mem_append_left _ hx,h1,h2⟩
   ·rintro⟨x,hx,h1,h2⟩
    rcases cP.1 hx with hx | hx
    ·exact⟨x,hx,h1,h2⟩
    ·simp at hx;subst hx;rw [ho] at h1;cases h1
 intro om hom
 rw [eX] at hom
 rw [wrap_add (by omega)]
 obtain⟨up0,u1,u2⟩:=qF (N:=N) (n:=pcs.length+bs.length) (by omega)
 refine Ok.eq u1 ?_
 have htl: (eY bs pcs).length=bs.length:=by unfold eY;simp
 have hto:=w3 (bs:=bs) (pcs:=pcs) (by omega)
 refine Ok.bind (Ok.iT (fun q u=>EZ (pcs.length+bs.length) (Ip pcs.length (eY bs pcs) fl) (ue pcs.length fl) (fun a b=>∃k l,k<q/\(eY bs pcs)[k]? =some l/\((a:Nat):Int)∈l/\b=pcs.length+k) u) (by omega)
  ⟨_,_,u2,lZ.id,uT.id _,fun p hp=>(by cases hp),fun i j ⟨k,l,hk,_⟩=>by omega⟩ (fun q u hq hI=>?_)) ?_
 ·have hqx: (eY bs pcs)[q]? =some (eY bs pcs)[q]:=aJ hq
  obtain⟨hl1,hl2⟩:=hto _ (cJ hq)
  refine Ok.ix hqx ?_
  rw [wrap_add (by omega)]
  refine Ok.bind (Ok.iT (fun t u=>EZ (pcs.length+bs.length) (Ip pcs.length (eY bs pcs) fl) (ue pcs.length fl) (fun a b=>(∃k l,k<q/\(eY bs pcs)[k]? =some l/\((a:Nat):Int)∈l/\b=pcs.length+k)\/(((a:Nat):Int)∈(eY bs pcs)[q].take t/\b=pcs.length+q)) u) (by omega)
   (hI.mono fun i j h=>by rcases h with h | ⟨h,_⟩;exact h;simp at h) (fun t u ht hJ=>?_)) (fun u hJ=>Ok.ret (hJ.mono fun i j ⟨k,l,hk,h1,h2,h3⟩=>?_))
  ·have htx: (eY bs pcs)[q][t]? =some (eY bs pcs)[q][t]:=aJ ht
   obtain⟨i,hi,e⟩:=hl2 _ (cJ ht)
   refine Ok.ix htx ?_
   rw [e]
   refine Ok.bind (EJ hom hJ (i:=i) (k:=pcs.length+q) (by omega) (by omega) (by omega) (.inl ⟨q,_,hqx,by rw [<-e];exact cJ ht,rfl⟩)) (fun u2 hu2=>Ok.ret (hu2.mono fun a b h=>?_))
   rw [fu ht] at h
   rcases h with h | ⟨h,hb⟩
   ·exact .inl (.inl h)
   ·rcases cP.1 h with h | h
    ·exact .inl (.inr ⟨h,hb⟩)
    ·rw [List.mem_singleton,e] at h;exact .inr ⟨by omega,hb⟩
  ·by_cases hkq:k<q
   ·exact .inl ⟨k,l,hkq,h1,h2,h3⟩
   ·have:k=q:=by omega
    subst this
    rw [hqx] at h1;injection h1 with h1;subst h1
    exact .inr ⟨by rw [eX];exact h2,h3⟩
 intro u3 h3
 refine Ok.bind (Ok.iT (fun q u=>EZ (pcs.length+bs.length) (Ip pcs.length (eY bs pcs) fl) (ue pcs.length fl) (fun a b=>Lk pcs.length (eY bs pcs) a b\/∃x∈fl.take q,x.Open=false/\x.A= ((a:Nat):Int)/\x.B= ((b:Nat):Int)) u) (by omega)
  (h3.mono fun i j h=>by
   rcases h with ⟨k,l,h1,h2,h3⟩ | ⟨x,hx,_⟩
   ·exact⟨k,l,(aW.1 h1).1,h1,h2,h3⟩
   ·simp at hx) (fun q u hq hI=>?_)) ?_
 ·have hx:fl[q]? =some fl[q]:=aJ hq
  have hts:=fu hq
  refine Ok.ix hx ?_
  cases ho:fl[q].Open with
  | true=>
   refine Ok.eq (x:=u) rfl (Ok.ret (hI.mono fun a b h=>?_))
   rw [hts] at h
   rcases h with h | ⟨x,hx,h1,h2⟩
   ·exact .inl h
   ·rcases cP.1 hx with hx | hx
    ·exact .inr ⟨x,hx,h1,h2⟩
    ·simp at hx;subst hx;rw [ho] at h1;cases h1
  | false=>
   obtain⟨i,k,e1,e2,e3,e4⟩:=hfl.br _ (cJ hq) ho
   rw [l6,aO,e1,e2]
   refine Ok.bind (P:=EZ (pcs.length+bs.length) (Ip pcs.length (eY bs pcs) fl) (ue pcs.length fl) (fun a b=>(Lk pcs.length (eY bs pcs) a b\/∃x∈fl.take q,x.Open=false/\x.A= ((a:Nat):Int)/\x.B= ((b:Nat):Int))\/(a=i/\b=k))) (Ok.bind (EJ hom hI (i:=i) (k:=k) (by omega) (by omega) (by omega) (.inr ⟨fl[q],cJ hq,ho,e1,e2⟩)) (fun u2 hu2=>Ok.ret hu2)) (fun u2 hu2=>Ok.ret (hu2.mono fun a b h=>?_))
   rw [hts] at h
   rcases h with h | ⟨x,hx,h1,h2,h3⟩
   ·exact .inl (.inl h)
   ·rcases cP.1 hx with hx | hx
    ·exact .inl (.inr ⟨x,hx,h1,h2,h3⟩)
    ·simp at hx;subst hx
     rw [e1] at h2;rw [e2] at h3
     exact .inr ⟨by omega,by omega⟩
 rintro up1 ⟨r2,E,v1,v2,v3,v4,v5⟩
 rw [eX] at v5
 have hC:ug (pcs.length+bs.length) (Iv pcs.length (eY bs pcs) fl) r2:=
  ⟨v1.le,v1.rr,fun i j h=>v2 (i,j) (v5 i j h.1 h.2.1 h.2.2),fun S hS i j hi hj=>v3 S (fun p hp=>hS p.1 p.2 (v4 p hp)) i j hi hj⟩
 refine Ok.eq (ph 0 (by omega)) ?_
 have jS:iZ.length=ls.length:=by rw [hat,gQ]
 refine Ok.bind (Ok.iT (fun j (st:List Int×List (Int×Int)×List Int)=>xC bs pcs fl ls r2 j st.1 st.2.1 st.2.2) (by omega) ⟨v1,by simp,fun i l h=>by omega,fun i l h h1=>by omega,fun x hx=>(by cases hx),fun x y hx=>(by cases hx)⟩ ?_) (fun st I=>Ok.ret ⟨r2,st.1,st.2.1,hC,by rw [<-jS];exact I⟩)
 rintro j ⟨up,fm,out⟩ hj I
 rw [jS] at hj
 dsimp only at I ⊢
 have hx:ls[j]? =some ls[j]:=aJ hj
 have h1:iZ[j]? =some ((mI bs pcs ls[j]).getD ⟨false,0⟩):=by rw [hat,gX,hx];rfl
 have h2:jm[j]? =some (zn bs pcs r ls[j]):=by rw [hof,gX,hx];rfl
 have h3:out[j]? =some (out[j]'(by rw [I.len];exact hj)):=aJ _
 have hjo:j<out.length:=by rw [I.len];exact hj
 have hx0:=hx
 have dead:nC bs pcs fl ls[j]=none->xC bs pcs fl ls r2 (j+1) up fm (out.set j (-1)):=fun hnd=>by
  refine⟨I.uf,by rw [gu];exact I.len,fun i l hi hil hn=>?_,fun i l v hi hil hs=>?_,fun x hx=>?_,I.inj⟩
  ·by_cases e:i=j
   ·subst e;rw [List.getElem?_set_self hjo]
   ·rw [List.getElem?_set_ne (Ne.symm e)];exact I.no i l (by omega) hil hn
  ·by_cases e:i=j
   ·subst e;rw [hx] at hil;injection hil with hil;subst hil;rw [hnd] at hs;cases hs
   ·rw [List.getElem?_set_ne (Ne.symm e)];exact I.yes i l v (by omega) hil hs
  ·obtain⟨v,l,u,q1,q2,q3⟩:=I.low x hx;exact⟨v,l,u,q1,by omega,q3⟩
 refine Ok.ix h1 ?_
 cases hh:mI bs pcs ls[j] with
 | none=>
  have e1:zn bs pcs r ls[j] = -1:=by unfold zn sM;rw [hh];rfl
  refine Ok.eq (x:=0) rfl (Ok.eq (x:=true) (by rw [dN h2,aB,e1];rfl) ?_)
  refine Ok.ix h3 (Ok.ret ?_)
  dsimp only
  rw [bO]
  exact dead (by unfold nC;rw [hh];rfl)
 | some h=>
  obtain⟨c1,c2⟩:=ze (N:=N) hh hn
  have e1: ∃g:Nat,zn bs pcs r ls[j]= ((g:Nat):Int):=by unfold zn sM;rw [hh];exact⟨_,rfl⟩
  obtain⟨g,e1⟩:=e1
  refine Ok.eq c1 ?_
  by_cases hop:ue pcs.length fl (eH pcs.length h)
  ·refine Ok.eq (x:=true) (by rw [dN h2,aB,e1,bC (show ¬((g:Nat):Int)<0 by omega),aR,(hom _).2 hop]) ?_
   refine Ok.ix h3 (Ok.ret ?_)
   dsimp only
   rw [bO]
   exact dead (by unfold nC;rw [hh,Option.bind_some,aD hop])
  have hnd:nC bs pcs fl ls[j]=some (eH pcs.length h):=by unfold nC;rw [hh,Option.bind_some,aC hop]
  refine Ok.eq (x:=false) (by rw [dN h2,aB,e1,bC (show ¬((g:Nat):Int)<0 by omega),aR];rw [Bool.eq_false_iff.2 fun h=>hop ((hom _).1 h)]) ?_
  rw [aR]
  obtain⟨up2,t1,t2⟩:=mH (N:=N) I.uf c2 (by omega)
  refine Ok.eq t1 ?_
  dsimp only
  have fin: ∀(up3:List Int) (fm2:List (Int×Int)),UF (pcs.length+bs.length) up3 r2->(∀x,iB fm x=true->iB fm2 x=true/\dG fm2 x 0=dG fm x 0)->iB fm2 ((r2 (eH pcs.length h):Nat):Int)=true->(∀x,iB fm2 x=true->∃(v:Nat) (l:cV) (u:Nat),dG fm2 x 0= ((v:Nat):Int)/\v<j+1/\ls[v]? =some l/\nC bs pcs fl l=some u/\((r2 u:Nat):Int)=x)->(∀x y,iB fm2 x=true->iB fm2 y=true->dG fm2 x 0=dG fm2 y 0->x=y)->
    xC bs pcs fl ls r2 (j+1) up3 fm2 (out.set j (dG fm2 ((r2 (eH pcs.length h):Nat):Int) 0)):=fun up3 fm2 g1 g2 g3 g4 g5=>by
   refine⟨g1,by rw [gu];exact I.len,fun i l hi hil hn=>?_,fun i l h' hi hil hs=>?_,g4,g5⟩
   ·by_cases e:i=j
    ·subst e;rw [hx] at hil;injection hil with hil;subst hil;rw [hnd] at hn;cases hn
    ·rw [List.getElem?_set_ne (Ne.symm e)];exact I.no i l (by omega) hil hn
   ·by_cases e:i=j
    ·subst e;rw [hx] at hil;injection hil with hil;subst hil;rw [hnd] at hs;injection hs with hs;subst hs
     exact⟨g3,by rw [List.getElem?_set_self hjo]⟩
    ·obtain⟨q1,q2⟩:=I.yes i l h' (by omega) hil hs
     rw [List.getElem?_set_ne (Ne.symm e),q2,(g2 _ q1).2]
     exact⟨(g2 _ q1).1,rfl⟩
  cases hm:iB fm ((r2 (eH pcs.length h):Nat):Int) with
  | true=>
   rw [lz,aR]
   obtain⟨up3,t3,t4⟩:=mH (N:=N) t2 c2 (by omega)
   refine Ok.eq (x:=(up2,fm)) rfl (Ok.eq t3 (Ok.ix h3 (Ok.ret ?_)))
   dsimp only
   rw [bO]
   exact fin up3 fm t4 (fun x hx=>⟨hx,rfl⟩) hm (fun x hx=>by obtain⟨v,l,u,q1,q2,q3⟩:=I.low x hx;exact⟨v,l,u,q1,by omega,q3⟩) I.inj
  | false=>
   rw [l6,aO]
   obtain⟨up3,t3,t4⟩:=mH (N:=N) t2 c2 (by omega)
   obtain⟨up4,t5,t6⟩:=mH (N:=N) t4 c2 (by omega)
   refine Ok.eq (x:=(up3,oe fm ((r2 (eH pcs.length h):Nat):Int) ((j:Nat):Int))) (by rw [t3,aB]) (Ok.eq t5 (Ok.ix h3 (Ok.ret ?_)))
   dsimp only
   rw [bO]
   refine fin up4 _ t6 (fun x hx=>?_) (by rw [kE];simp) (fun x hx=>?_) (fun x y hx hy e=>?_)
   ·have hne:x≠((r2 (eH pcs.length h):Nat):Int):=fun e=>by rw [e,hm] at hx;cases hx
    rw [kE,iJ,aC hne,hx]
    exact⟨by simp,rfl⟩
   ·rw [iJ]
    by_cases e:x= ((r2 (eH pcs.length h):Nat):Int)
    ·rw [aD e];exact⟨j,ls[j],_,rfl,by omega,hx0,hnd,e.symm⟩
    ·rw [aC e]
     rw [kE,bC e,Bool.false_or] at hx
     obtain⟨v,l,u,q1,q2,q3⟩:=I.low x hx;exact⟨v,l,u,q1,by omega,q3⟩
   ·rw [iJ,iJ] at e
    rw [kE] at hx hy
    by_cases ex:x= ((r2 (eH pcs.length h):Nat):Int)
    ·by_cases ey:y= ((r2 (eH pcs.length h):Nat):Int)
     ·rw [ex,ey]
     ·rw [aD ex,aC ey] at e
      rw [bC ey,Bool.false_or] at hy
      obtain⟨v,_,_,q1,q2,_⟩:=I.low y hy
      omega
    ·rw [bC ex,Bool.false_or] at hx
     by_cases ey:y= ((r2 (eH pcs.length h):Nat):Int)
     ·rw [aC ex,aD ey] at e
      obtain⟨v,_,_,q1,q2,_⟩:=I.low x hx
      omega
     ·rw [aC ex,aC ey] at e
      rw [bC ey,Bool.false_or] at hy
      exact I.inj x y hx hy e
def zo (n:Nat) (k:Int):Bool:=decide (k>=0)&&decide (k<=((n:Nat):Int) - 1)
def oC (bs:List bU) (n:Nat) (x:bY):Bool:=bif x.Open then (bif x.dO.bU then zo bs.length x.dO.Number&&sL bs x.dO.Number.toNat else zo n x.dO.Number) else zo n x.A&&zo n x.B
def AD (x:bY):Bool:=bif x.Open then x.A != 0||x.B != 0 else !decide (x.dO= ⟨false,0⟩)
def rU (bs:List bU) (n:Nat) (fl:List bY) (k:Nat):Option Int:=(fl[k]?).bind fun x=>
 if AD x=true then some 3 else if oC bs n x=false then some 9 else if (!x.Open&&decide (x.B<=x.A))=true then some 8 else if x∈fl.take k then some 7 else none
def nD (bs:List bU) (n:Nat) (fl:List bY):Int:=if 20<fl.length then 2 else (pg fl.length (rU bs n fl)).getD 0
theorem xD {l:List bY} {x:bY} (hl:l.length<=1048576):gG N l x=some (decide (x∈l)):=by
 have e:gG N l x=uG l x:=rfl
 rw [e,yS (by omega)]
theorem xE {a1:List (List aI)} {a2:List aI} {bs:List bU} {a4:List cV} {a5:List (List aA)} {pcs:List aH} {a7:List (List Int)} {a8:List cL} {a9 a10 a11:List Int} {a12:List dO} {fl:List bY} (hp:pcs.length<=1073741824) (hb:bs.length<=1073741824) (hf:fl.length<=1048576):
  hQ N a1 a2 bs a4 a5 pcs a7 a8 a9 a10 a11 a12 fl=some (nD bs pcs.length fl):=by
 unfold hQ nD
 by_cases h20:20<fl.length
 ·rw [cA (show ((fl.length:Nat):Int)>20 by omega),aO,aD h20]
 rw [bC (show ¬((fl.length:Nat):Int)>20 by omega),aR,aC h20]
 have w: ∀(n:Nat) (k:Int),n<=1073741824->jw N k 0 (IntKind.wrap .i64 (((n:Nat):Int) - 1))=some (zo n k):=fun n k hn=>by
  rw [eJ (by omega) (by omega)];rfl
 have w1: ∀k:Int,eT N k pcs=some (zo pcs.length k):=fun k=>by
  unfold eT;rw [w _ _ hp];rfl
 have assoc: ∀{β:Type} (a:Option Bool) (b c:Bool->Option Bool) (g:Bool->Option β),(a.bind fun s=>(b s).bind fun t=>(c t).bind g)= (a.bind fun s=>(b s).bind c).bind g:=fun a b c g=>by
  cases a with
  | none=>rfl
  | some s=>show (b s).bind _= ((b s).bind c).bind g;cases b s <;> rfl
 rw [mi (rU bs pcs.length fl) (by omega) (fun k hk _=>by
  have hx:fl[k]? =some fl[k]:=aJ hk
  have hs:rK fl 0 ((k:Nat):Int)=some (fl.take k):=by
   unfold rK
   rw [aD ⟨by omega,by omega,by omega⟩];simp
  rw [dN hx,aB]
  unfold rU
  rw [hx,Option.bind_some]
  have e1: (bif (fl[k].Open&&((fl[k].A != 0)||(fl[k].B != 0))) then (some true) else (bif (!fl[k].Open) then (some (!(decide (fl[k].dO= (⟨false,0⟩:dO))))) else (some false)))=some (AD fl[k]):=by
   unfold AD
   cases fl[k].Open with
   | true=>cases (fl[k].A != 0||fl[k].B != 0) <;> rfl
   | false=>rfl
  rw [e1,aB]
  cases hfm:AD fl[k] with
  | true=>rw [aO,aD rfl];rfl
  | false=>
   rw [aR,aC iz,w1,w1,w1,w _ _ hb]
   have e2: (((some (zo pcs.length fl[k].A)).bind fun dH=>bif dH then ((some (zo pcs.length fl[k].B)).bind fun x119=>some x119) else (some false)).bind fun s116=>(bif fl[k].Open then ((some (zo pcs.length fl[k].dO.Number)).bind fun x122=>some x122) else (some s116)).bind fun s121=>(bif (fl[k].Open&&fl[k].dO.bU) then (((some (zo bs.length fl[k].dO.Number)).bind fun x143=>bif x143 then ((idx bs fl[k].dO.Number).bind fun x145=>some x145.gA) else (some false)).bind fun s142=>some s142) else (some s121)):Option Bool)=some (oC bs pcs.length fl[k]):=by
    unfold oC
    simp only [aB]
    cases fl[k].Open with
    | false=>
     cases zo pcs.length fl[k].A <;> rfl
    | true=>
     simp only [aO,Bool.true_and]
     cases hA:zo pcs.length fl[k].A <;> simp only [aO,aR,aB]
     all_goals
      cases fl[k].dO.bU with
      | false=>rfl
      | true=>
       simp only [aO]
       cases hB:zo bs.length fl[k].dO.Number with
       | false=>rfl
       | true=>
        unfold zo at hB
        rw [bJ,bI,bI] at hB
        have hlt:fl[k].dO.Number.toNat<bs.length:=by omega
        have hbx:bs[fl[k].dO.Number.toNat]? =some bs[fl[k].dO.Number.toNat]:=aJ hlt
        have hi:=dN hbx
        rw [Int.toNat_of_nonneg hB.1] at hi
        rw [aO,hi,aB,aB,Bool.true_and]
        unfold sL
        rw [hbx];rfl
   refine(assoc _ _ _ _).trans ((congrArg (fun o=>Option.bind o _) e2).trans ?_)
   rw [aB]
   cases oC bs pcs.length fl[k] with
   | false=>rfl
   | true=>
    rw [lz,aR,aC (by decide)]
    cases (!fl[k].Open&&decide (fl[k].B<=fl[k].A)) with
    | true=>rfl
    | false=>
     rw [aR,aC iz,hs,aB,xD (by rw [cY];omega),aB]
     by_cases hm:fl[k]∈fl.take k
     ·rw [cA hm,aO,aD hm];rfl
     ·rw [bC hm,aR,aC hm];rfl),aB]
 cases pg fl.length (rU bs pcs.length fl) <;> rfl
theorem vl {bs:List bU} {n:Nat} {fl:List bY} (h:nD bs n fl=0):fl.length<=20/\Io bs n bs.length fl:=by
 unfold nD at h
 split at h
 ·cases h
 rename_i h20
 have hn: ∀k,k<fl.length->rU bs n fl k=none:=by
  cases hf:pg fl.length (rU bs n fl) with
  | none=>exact ji.1 hf
  | some e=>
   rw [hf] at h
   obtain⟨k,hk,he,_⟩:=ll.1 hf
   have h:e=0:=h
   subst h
   unfold rU at he
   rw [aJ hk,Option.bind_some] at he
   repeat' split at he
   all_goals (first | (injection he with he;omega) | cases he)
 have hx: ∀x∈fl,oC bs n x=true/\(x.Open=false->x.A<x.B):=fun x hx=>by
  obtain⟨k,hk,rfl⟩:=List.mem_iff_getElem.1 hx
  have:=hn k hk
  unfold rU at this
  rw [aJ hk,Option.bind_some] at this
  split at this
  ·cases this
  ·split at this
   ·cases this
   ·rename_i h2
    split at this
    ·cases this
    ·rename_i h3
     refine⟨by simpa using h2,fun ho=>?_⟩
     rw [ho,l6,Bool.true_and,bI] at h3
     omega
 have inp: ∀{n:Nat} {k:Int},zo n k=true->∃j:Nat,k= ((j:Nat):Int)/\j<n:=fun{n k} h=>by
  unfold zo at h
  rw [bJ,bI,bI] at h
  exact⟨k.toNat,by omega,by omega⟩
 refine⟨by omega,fun x hm ho=>?_,fun x hm ho=>?_⟩
 ·obtain⟨h1,_⟩:=hx x hm
  unfold oC at h1
  rw [ho,aO] at h1
  cases hB:x.dO.bU with
  | true=>
   rw [hB,aO,bJ] at h1
   obtain⟨j,e,hj⟩:=inp h1.1
   refine⟨j,e,fun _=>⟨hj,?_⟩,fun h=>(by rw [hB] at h;cases h)⟩
   rw [e,bO] at h1;exact h1.2
  | false=>
   rw [hB,aR] at h1
   obtain⟨j,e,hj⟩:=inp h1
   exact⟨j,e,fun h=>(by rw [hB] at h;cases h),fun _=>hj⟩
 ·obtain⟨h1,h2⟩:=hx x hm
  unfold oC at h1
  rw [ho,aR,bJ] at h1
  obtain⟨i,e1,hi⟩:=inp h1.1
  obtain⟨k,e2,hk⟩:=inp h1.2
  have:=h2 ho
  exact⟨i,k,e1,e2,by omega,hk⟩
end
end Go.Gk
namespace Go.Gk
open Go Classical
structure sO (c:List Int):Prop where
 neg: ∀(i:Nat) (x:Int),c[i]? =some x->x<0->x = -1
 own: ∀(i v:Nat),c[i]? =some ((v:Nat):Int)->c[v]? =some ((v:Nat):Int)
def rV (c:List Int) (i k:Nat):Bool:=decide (c.getD i (-1)>=0)&&c.getD i (-1)==c.getD k (-1)
def ko (c:List Int) (i:Nat):Int:=if c.getD i (-1)<0 then ((i:Nat):Int) else c.getD i (-1)
theorem xc {c:List Int} (h:sO c) {i k:Nat} (hi:i<c.length) (hk:k<c.length) (hne:i≠k):rV c i k=decide (ko c i=ko c k):=by
 have ei:c[i]? =some c[i]:=aJ hi
 have ek:c[k]? =some c[k]:=aJ hk
 unfold rV ko
 rw [List.getD_eq_getElem?_getD,List.getD_eq_getElem?_getD,ei,ek,Option.getD_some,Option.getD_some]
 have own: ∀{j:Nat} (hj:j<c.length),0<=c[j]->∃v:Nat,c[j]= ((v:Nat):Int)/\c[v]? =some ((v:Nat):Int):=fun{j} hj h0=>by
  refine⟨c[j].toNat,by omega,h.own j _ ?_⟩
  rw [aJ hj]
  congr 1;omega
 rw [fz,bJ,bI,bI,beq_iff_eq]
 constructor
 ·rintro⟨h1,h2⟩
  rw [aC (by omega),aC (by omega)];exact h2
 ·intro e
  by_cases h1:c[i]<0
  ·rw [aD h1] at e
   by_cases h2:c[k]<0
   ·rw [aD h2] at e;omega
   ·rw [aC h2] at e
    obtain⟨v,q1,q2⟩:=own hk (by omega)
    have:v=i:=by omega
    subst this
    rw [ei] at q2;injection q2 with q2;omega
  ·rw [aC h1] at e
   by_cases h2:c[k]<0
   ·rw [aD h2] at e
    obtain⟨v,q1,q2⟩:=own hi (by omega)
    have:v=k:=by omega
    subst this
    rw [ek] at q2;injection q2 with q2;omega
   ·rw [aC h2] at e
    exact⟨by omega,e⟩
theorem AE {c d:List Int} (hc:sO c) (hd:sO d) (hl:c.length=d.length) (h: ∀i,i<c.length->ko c i=ko d i) {i k:Nat} (hi:i<c.length) (hk:k<c.length) (hne:i≠k):rV c i k=rV d i k:=by
 rw [xc hc hi hk hne,xc hd (by omega) (by omega) hne,h i hi,h k hk]
section
variable {r:Nat->Nat}
theorem xC.first {bs:List bU} {pcs:List aH} {fl:List bY} {ls:List cV} {r2:Nat->Nat} {up:List Int} {fm:List (Int×Int)} {c:List Int} (h:xC bs pcs fl ls r2 ls.length up fm c):sO c where
 neg:=fun i x hx h0=>by
  have hi:=(aW.1 hx).1
  rw [h.len] at hi
  have hl:ls[i]? =some ls[i]:=aJ hi
  cases hn:nC bs pcs fl ls[i] with
  | none=>have:=h.no i _ hi hl hn;rw [hx] at this;injection this
  | some u=>
   obtain⟨q1,q2⟩:=h.yes i _ u hi hl hn
   obtain⟨v,_,_,q3,_⟩:=h.low _ q1
   rw [hx,q3] at q2;injection q2 with q2;omega
 own:=fun i v hx=>by
  have hi:=(aW.1 hx).1
  rw [h.len] at hi
  have hl:ls[i]? =some ls[i]:=aJ hi
  cases hn:nC bs pcs fl ls[i] with
  | none=>have:=h.no i _ hi hl hn;rw [hx] at this;injection this with this;omega
  | some u=>
   obtain⟨q1,q2⟩:=h.yes i _ u hi hl hn
   obtain⟨v',l',u',q3,q4,q5,q6,q7⟩:=h.low _ q1
   have e:v=v':=by rw [hx,q3] at q2;injection q2 with q2;omega
   subst e
   obtain⟨s1,s2⟩:=h.yes v l' u' q4 q5 q6
   rw [q7,q3] at s2;exact s2
theorem xC.conn {bs:List bU} {pcs:List aH} {fl:List bY} {ls:List cV} {r2:Nat->Nat} {up:List Int} {fm:List (Int×Int)} {c:List Int} (h:xC bs pcs fl ls r2 ls.length up fm c) {i k:Nat} {x y:cV} (hx:ls[i]? =some x) (hy:ls[k]? =some y):
  rV c i k=true↔∃u v,nC bs pcs fl x=some u/\nC bs pcs fl y=some v/\r2 u=r2 v:=by
 have hi:=(aW.1 hx).1
 have hk:=(aW.1 hy).1
 unfold rV
 rw [bJ,bI,beq_iff_eq,List.getD_eq_getElem?_getD,List.getD_eq_getElem?_getD]
 cases hn:nC bs pcs fl x with
 | none=>
  rw [h.no i x hi hx hn,Option.getD_some]
  exact⟨fun h=>absurd h.1 (by decide),fun⟨u,v,e,_⟩=>(by cases e)⟩
 | some u=>
  obtain⟨q1,q2⟩:=h.yes i x u hi hx hn
  obtain⟨a,_,_,q3,_⟩:=h.low _ q1
  rw [q2,Option.getD_some,q3]
  cases hm:nC bs pcs fl y with
  | none=>
   rw [h.no k y hk hy hm,Option.getD_some]
   exact⟨fun h=>absurd h.2 (by omega),fun⟨u,v,_,e,_⟩=>(by cases e)⟩
  | some v=>
   obtain⟨s1,s2⟩:=h.yes k y v hk hy hm
   obtain⟨b,_,_,s3,_⟩:=h.low _ s1
   rw [s2,Option.getD_some,s3]
   constructor
   ·rintro⟨_,e⟩
    have:=h.inj _ _ q1 s1 (by rw [q3,s3];exact e)
    exact⟨u,v,rfl,rfl,by omega⟩
   ·rintro⟨u',v',e1,e2,e3⟩
    injection e1 with e1;injection e2 with e2
    subst e1;subst e2
    rw [e3,s3] at q3
    exact⟨by omega,q3.symm⟩
end
end Go.Gk
namespace Go.Gk
open Go Classical
section
variable {N:Nat} {a:jT} {j4:List (List aA)} {dF:List (List (List aA))} {r:Nat->Nat} {gs:List cL} {ofP ofB jm:List Int} {iZ:List dO}
theorem EK (b:kn a j4 dF r gs ofP ofB jm iZ) {fl:List bY} (h0:nD a.aV (bW 0 dF).length fl=0) (hN:4398046511104<=N):
  ∃r2 c up fm,dL N a.aV a.bH (bW 0 dF) (eY a.aV (bW 0 dF)) jm iZ fl=some c/\ug ((bW 0 dF).length+a.aV.length) (Iv (bW 0 dF).length (eY a.aV (bW 0 dF)) fl) r2/\xC a.aV (bW 0 dF) fl a.bH r2 a.bH.length up fm c:=by
 have hf:=b.xy.2
 have hbl:=b.za.gb.len
 have hlf:=b.t7.xy
 obtain⟨h20,hok⟩:=vl h0
 exact AB (N:=N) (r:=r) hok (by omega) (by omega) (by omega) (by omega) (by omega) b.yc.jm b.yc.iZ hN
theorem rW (b:kn a j4 dF r gs ofP ofB jm iZ) (h1:fZ N a=some (some (a.aL,a.dU,a.aV,a.bH,j4,bW 0 dF,eY a.aV (bW 0 dF),gs,ofP,ofB,jm,iZ),0)) {fl:List bY} (h0:nD a.aV (bW 0 dF).length fl=0) {c:List Int}
  (hc:dL N a.aV a.bH (bW 0 dF) (eY a.aV (bW 0 dF)) jm iZ fl=some c) (hl:c.length=a.bH.length) (p q:fD) (hN:4398046511104<=N):
  dY N a fl p q=some (bif decide (rT a p<0)||decide (rT a q<0) then (false,9) else (rV c (rT a p).toNat (rT a q).toNat,0)):=by
 have hf:=b.xy.2
 have hbl:=b.za.gb.len
 obtain⟨h20,_⟩:=vl h0
 unfold dY
 rw [h1,aB,rl b.t7 p hN,rl b.t7 q hN]
 simp only [Dx,bne_self_eq_false,aR,aB]
 rw [xE (by omega) (by omega) (by omega),h0,aB,bne_self_eq_false,aR]
 rcases mw a p with ⟨e1,_⟩ | ⟨i,x,e1,hx,_⟩
 ·rw [e1];rfl
 ·rcases mw a q with ⟨e2,_⟩ | ⟨k,y,e2,hy,_⟩
  ·rw [e2,e1,cA (show (-1:Int)<0 by decide),Bool.or_true,aO,aO]
  ·have hi:=(aW.1 hx).1
   have hk:=(aW.1 hy).1
   have ei:c[i]? =some (c[i]'(by omega)):=aJ _
   have ek:c[k]? =some (c[k]'(by omega)):=aJ _
   rw [e1,e2,bC (show ¬((i:Nat):Int)<0 by omega),bC (show ¬((k:Nat):Int)<0 by omega),Bool.or_false,aR,aR,hc,aB,dN ei,dN ek]
   unfold rV
   rw [bO,bO,List.getD_eq_getElem?_getD,List.getD_eq_getElem?_getD,ei,ek,Option.getD_some,Option.getD_some,aB]
   cases decide (c[i]'(by omega)>=0) <;> rfl
end
end Go.Gk
namespace Go.Gk
open Go Classical
def BF (a0 a1 b0 b1:Int):Int:=max (max 0 (b0 - a1+1)) (a0 - b1+1)
def u5 (a b:aI):Int:=max (BF a.X0 a.X1 b.X0 b.X1) (BF a.Y0 a.Y1 b.Y0 b.Y1)
def xF (s:Int) (x:aI) (b:List aI):Int:=b.foldl (fun s y=>if s<0\/u5 x y<s then u5 x y else s) s
def sP (a b:List aI):Int:=a.foldl (fun s x=>xF s x b) (-1)
theorem EL {a0 a1 b0 b1:Int} (h0: -1000000<=a0/\a0<=1000000) (h1: -1000000<=a1/\a1<=1000000) (h2: -1000000<=b0/\b0<=1000000) (h3: -1000000<=b1/\b1<=1000000):0<=BF a0 a1 b0 b1/\BF a0 a1 b0 b1<=2000001:=by
 unfold BF;omega
theorem GV {a b:aI} (ha:cU a=true) (hb:cU b=true):0<=u5 a b/\u5 a b<=2000001:=by
 obtain⟨a1,a2,a3,a4⟩:=gH ha
 obtain⟨b1,b2,b3,b4⟩:=gH hb
 have:=EL a1 a3 b1 b3
 have:=EL a2 a4 b2 b4
 unfold u5;omega
theorem Cg {x:aI} {s:Int} (hx:cU x=true): ∀(b:List aI),(∀y∈b,cU y=true)->∀{s:Int},-1<=s/\s<=2000001-> -1<=xF s x b/\xF s x b<=2000001
 | [],_,s,h=>h
 | y::b,hb,s,h=>by
  have hf:=GV hx (hb y (List.mem_cons_self ..))
  unfold xF
  rw [List.foldl_cons]
  refine Cg (s:=s) hx b (fun z hz=>hb z (i6 _ hz)) ?_
  split <;> omega
theorem FT {a b:List aI} (ha: ∀y∈a,cU y=true) (hb: ∀y∈b,cU y=true): -1<=sP a b/\sP a b<=2000001:=by
 have key: ∀(a:List aI),(∀y∈a,cU y=true)->∀{s:Int},-1<=s/\s<=2000001-> -1<=a.foldl (fun s x=>xF s x b) s/\a.foldl (fun s x=>xF s x b) s<=2000001:=by
  intro a
  induction a with
  | nil=>intro _ s h;exact h
  | cons x a ih=>
   intro ha s h
   rw [List.foldl_cons]
   exact ih (fun z hz=>ha z (i6 _ hz)) (Cg (s:=s) (ha x (List.mem_cons_self ..)) b hb h)
 exact key a ha ⟨by omega,by omega⟩
section
variable {N:Nat}
theorem xd {a0 a1 b0 b1:Int} (h0: -1000000<=a0/\a0<=1000000) (h1: -1000000<=a1/\a1<=1000000) (h2: -1000000<=b0/\b0<=1000000) (h3: -1000000<=b1/\b1<=1000000):g9 N a0 a1 b0 b1=some (BF a0 a1 b0 b1):=by
 unfold g9 BF
 rw [l8 (n:=b0 - a1) (by omega),l8 (n:=b0 - a1+1) (by omega),l8 (n:=a0 - b1) (by omega),l8 (n:=a0 - b1+1) (by omega),zb,zb]
theorem EM {a b:aI} (ha:cU a=true) (hb:cU b=true):je N a b=some (u5 a b):=by
 obtain⟨a1,a2,a3,a4⟩:=gH ha
 obtain⟨b1,b2,b3,b4⟩:=gH hb
 unfold je u5
 rw [xd a1 a3 b1 b3,aB,xd a2 a4 b2 b4,aB,zb]
theorem EN (a b:aI): ∃n,je N a b=some n:=⟨_,rfl⟩
theorem yf (a b:aI) (n:Int): ∃p,m9 N a b n=some p:=⟨_,rfl⟩
theorem yg (p q:eF): ∃c,na N p q=some c:=⟨_,rfl⟩
theorem EO {a b:List aI} (jS:a.length<=1000000) (hbl:b.length<=1000000) (ha: ∀y∈a,cU y=true) (hb: ∀y∈b,cU y=true): ∃g,lj N a b=some g/\g.gU=sP a b - 1:=by
 have hd:=FT ha hb
 suffices h:Ok (lj N a b) (fun g=>g.gU=sP a b - 1) from h
 unfold lj
 refine Ok.bind (Ok.iT (fun k s=>s= (a.take k).foldl (fun s x=>xF s x b) (-1)) (by omega) rfl (fun k s hk e=>?_)) (fun s e=>?_)
 ·have hx:a[k]? =some a[k]:=aJ hk
  refine Ok.ix hx (Ok.bind (Ok.iT (fun j t=>t=xF s a[k] (b.take j)) (by omega) rfl (fun j t hj et=>?_)) (fun t et=>Ok.ret ?_))
  ·have hy:b[j]? =some b[j]:=aJ hj
   refine Ok.ix hy (Ok.eq (EM (ha _ (cJ hk)) (hb _ (cJ hj))) ?_)
   have e2:xF s a[k] (b.take (j+1))=if t<0\/u5 a[k] b[j]<t then u5 a[k] b[j] else t:=by
    unfold xF at et ⊢
    rw [fu hj,List.foldl_append,<-et];rfl
   rw [e2]
   by_cases hc:t<0\/u5 a[k] b[j]<t
   ·rw [aD hc,show (decide (t<0)||decide (u5 a[k] b[j]<t))=true by rw [dP,bI,bI];exact hc]
    exact Ok.ret rfl
   ·rw [aC hc,show (decide (t<0)||decide (u5 a[k] b[j]<t))=false by rw [Bool.or_eq_false_iff,decide_eq_false_iff_not,decide_eq_false_iff_not];omega]
    exact Ok.ret rfl
  ·rw [et,eX,fu hk,List.foldl_append,<-e];rfl
 rw [eX] at e
 have e:s=sP a b:=e
 subst e
 rw [l8 (by omega)]
 refine Ok.bind (Ok.iT (fun k (st:o0×Bool)=>st.1.gU=sP a b - 1) (by omega) rfl (fun k st hk I=>?_)) (fun st I=>?_)
 ·have hx:a[k]? =some a[k]:=aJ hk
  refine Ok.ix hx (Ok.bind (Ok.iT (fun j (st:o0×Bool)=>st.1.gU=sP a b - 1) (by omega) I (fun j st hj I=>?_)) (fun st I=>Ok.ret I))
  have hy:b[j]? =some b[j]:=aJ hj
  obtain⟨p,hp⟩:=yf (N:=N) a[k] b[j] (sP a b)
  refine Ok.ix hy (Ok.eq hp ?_)
  refine Ok.bind (P:=fun _=>True) ?_ (fun c _=>?_)
  ·refine Ok.eq (EM (ha _ (cJ hk)) (hb _ (cJ hj))) ?_
   cases (u5 a[k] b[j]==sP a b) with
   | false=>exact Ok.ret trivial
   | true=>
    rw [aO]
    cases st.2 with
    | false=>exact Ok.ret trivial
    | true=>
     obtain⟨c,hc⟩:=yg (N:=N) p st.1.bM
     exact Ok.eq hc (Ok.ret trivial)
  ·refine Ok.bind (P:=fun(st:o0×Bool)=>st.1.gU=sP a b - 1) ?_ (fun st I=>Ok.ret I)
   cases c with
   | true=>exact Ok.ret I
   | false=>exact Ok.ret I
 refine Ok.bind (Ok.iT (fun k (st:o0×Bool)=>st.1.gU=sP a b - 1) (by omega) I (fun k st' hk I=>?_)) (fun st I=>Ok.ret I)
 have hx:b[k]? =some b[k]:=aJ hk
 obtain⟨p,hp⟩:=yf (N:=N) b[k] (⟨st.1.bM.X,st.1.bM.Y,(IntKind.wrap .i64 (st.1.bM.X+1)),(IntKind.wrap .i64 (st.1.bM.Y+1))⟩:aI) (sP a b)
 obtain⟨f,hf⟩:=EN (N:=N) b[k] (⟨st.1.bM.X,st.1.bM.Y,(IntKind.wrap .i64 (st.1.bM.X+1)),(IntKind.wrap .i64 (st.1.bM.Y+1))⟩:aI)
 refine Ok.ix hx (Ok.eq hp ?_)
 refine Ok.bind (P:=fun _=>True) ?_ (fun c _=>?_)
 ·refine Ok.eq hf ?_
  cases (f==sP a b) with
  | false=>exact Ok.ret trivial
  | true=>
   rw [aO]
   cases st'.2 with
   | false=>exact Ok.ret trivial
   | true=>
    obtain⟨c,hc⟩:=yg (N:=N) p st'.1.To
    exact Ok.eq hc (Ok.ret trivial)
 ·refine Ok.bind (P:=fun(st:o0×Bool)=>st.1.gU=sP a b - 1) ?_ (fun st I=>Ok.ret I)
  cases c with
  | true=>exact Ok.ret I
  | false=>exact Ok.ret I
end
def E0 (gs:List cL) (g:Int):Bool:=decide (g>=0)&&(gs[g.toNat]?).elim false fun G=>decide (((G.gC.length:Nat):Int)>1)
def pS (gs:List cL) (B:Bool) (of:List Int) (n:Nat):List bY:=((List.range n).filter (fun k=>(of[k]?).elim false (E0 gs))).map (fun k=>⟨true,⟨B,((k:Nat):Int)⟩,0,0⟩)
def nE (pcs:List aH) (ofP:List Int) (near:Int) (i k:Nat):Bool:=(pcs[i]?).elim false fun p=>(pcs[k]?).elim false fun q=>decide (i<k)&&(q.cR==p.cR&&(decide (ofP[i]? ≠ofP[k]?)&&decide (sP p.iD q.iD - 1<near)))
def nF (pcs:List aH) (ofP:List Int) (near:Int) (i m:Nat):List bY:=((List.range m).filter (nE pcs ofP near i)).map (fun k=>⟨false,⟨false,0⟩,((i:Nat):Int),((k:Nat):Int)⟩)
def qQ (pcs:List aH) (ofP:List Int) (near:Int) (m:Nat):List bY:=(List.range m).flatMap (fun i=>nF pcs ofP near i pcs.length)
def BG (pcs:List aH) (gs:List cL) (ofP ofB:List Int) (near:Int):List bY:=pS gs false ofP ofP.length++pS gs true ofB ofB.length++qQ pcs ofP near pcs.length
theorem yh (gs:List cL) (B:Bool) (of:List Int) (k:Nat):pS gs B of (k+1)=if (of[k]?).elim false (E0 gs)=true then pS gs B of k++[⟨true,⟨B,((k:Nat):Int)⟩,0,0⟩] else pS gs B of k:=by
 unfold pS
 rw [List.range_succ,gY,eV]
 by_cases h: (of[k]?).elim false (E0 gs)=true
 ·rw [aD h,List.filter_cons_of_pos (p:=fun k=>(of[k]?).elim false (E0 gs)) h];rfl
 ·rw [aC h,List.filter_cons_of_neg (p:=fun k=>(of[k]?).elim false (E0 gs)) h];simp
theorem nG (gs:List cL) (B:Bool) (of:List Int) (k:Nat): (pS gs B of k).length<=k:=by
 unfold pS
 rw [gQ]
 have:=kq (fun k=>(of[k]?).elim false (E0 gs)) (List.range k)
 rw [List.length_range] at this;exact this
theorem sQ (pcs:List aH) (ofP:List Int) (near:Int) (i m:Nat):nF pcs ofP near i (m+1)=if nE pcs ofP near i m=true then nF pcs ofP near i m++[⟨false,⟨false,0⟩,((i:Nat):Int),((m:Nat):Int)⟩] else nF pcs ofP near i m:=by
 unfold nF
 rw [List.range_succ,gY,eV]
 by_cases h:nE pcs ofP near i m=true
 ·rw [aD h,List.filter_cons_of_pos h];rfl
 ·rw [aC h,List.filter_cons_of_neg h];simp
theorem yi (pcs:List aH) (ofP:List Int) (near:Int) (i m:Nat): (nF pcs ofP near i m).length<=m:=by
 unfold nF
 rw [gQ]
 have:=kq (nE pcs ofP near i) (List.range m)
 rw [List.length_range] at this;exact this
theorem sR {pcs:List aH} {ofP:List Int} {near:Int} {i m:Nat}: ∀{d:Nat},(∀k,m<=k->k<m+d->nE pcs ofP near i k=false)->nF pcs ofP near i (m+d)=nF pcs ofP near i m
 | 0,_=>rfl
 | d+1,h=>by
  rw [show m+ (d+1)=m+d+1 by omega,sQ,h (m+d) (by omega) (by omega),aC iz]
  exact sR (fun k h1 h2=>h k h1 (by omega))
theorem u6 (pcs:List aH) (ofP:List Int) (near:Int) (m:Nat):qQ pcs ofP near (m+1)=qQ pcs ofP near m++nF pcs ofP near m pcs.length:=by
 unfold qQ
 rw [List.range_succ,List.flatMap_append];simp
theorem xe (pcs:List aH) (ofP:List Int) (near:Int): ∀(m:Nat),(qQ pcs ofP near m).length<=m*pcs.length
 | 0=>by simp [qQ]
 | m+1=>by
  rw [u6,dK,Nat.add_mul,Nat.one_mul]
  have:=xe pcs ofP near m
  have:=yi pcs ofP near m pcs.length
  omega
theorem EP: ∀(dF:List (List (List aA))) (k:Nat),(bW k dF).Pairwise (fun p q=>p.cR<=q.cR)/\∀p∈bW k dF,((k:Nat):Int)<=p.cR
 | [],k=>⟨kp,fun p h=>by cases h⟩
 | ps::r,k=>by
  obtain⟨h1,h2⟩:=EP r (k+1)
  unfold bW
  refine⟨List.pairwise_append.2 ⟨?_,h1,fun p hp q hq=>?_⟩,fun p hp=>?_⟩
  ·rw [List.pairwise_map]
   exact List.Pairwise.imp (fun _=>Int.le_refl _) (List.pairwise_of_forall (R:=fun _ _=>True) (fun _ _=>trivial))
  ·obtain⟨p',_,rfl⟩:=cM.1 hp
   have:=h2 q hq
   show ((k:Nat):Int)<=q.cR;omega
  ·rcases cP.1 hp with hp | hp
   ·obtain⟨p',_,rfl⟩:=cM.1 hp;exact Int.le_refl _
   ·have:=h2 p hp;omega
section
variable {N:Nat} {a:jT} {j4:List (List aA)} {dF:List (List (List aA))} {r:Nat->Nat} {gs:List cL} {ofP ofB jm:List Int} {iZ:List dO}
theorem uh {h:dO} {g:Int} {s:List bY} (hg:0<=g->g.toNat<gs.length) (hs:s.length<=100000000):f0 N h g s gs=some (if E0 gs g=true then s++[⟨true,h,0,0⟩] else s):=by
 unfold f0 E0
 by_cases h0:0<=g
 ·have hlt:=hg h0
  have hx:gs[g.toNat]? =some gs[g.toNat]:=aJ hlt
  have hi:=dN hx
  rw [Int.toNat_of_nonneg h0] at hi
  rw [cA (show g>=0 from h0),aO,hi,aB,aB,hx,Option.elim_some,Bool.true_and]
  cases decide (((gs[g.toNat].gC.length:Nat):Int)>1) with
  | true=>rw [aO,gV (by simp;omega)];rfl
  | false=>rfl
 ·rw [bC (show ¬g>=0 from h0),aR,aB,aR,Bool.false_and,aC iz];rfl
theorem BH (b:kn a j4 dF r gs ofP ofB jm iZ) {k:Nat} (hk:k<ofP.length): ∃g:Nat,ofP[k]? =some ((g:Nat):Int)/\g<gs.length:=by
 have hl:=b.yc.of.lp
 obtain⟨g,h1,h2,_⟩:=Il b.yc (k:=k) (by omega)
 exact⟨g,h1,h2⟩
theorem ER (b:kn a j4 dF r gs ofP ofB jm iZ) {j:Nat} (hj:j<ofB.length): (sL a.aV j=true/\∃g:Nat,ofB[j]? =some ((g:Nat):Int)/\g<gs.length)\/(sL a.aV j=false/\ofB[j]? =some (-1)):=by
 have hl:=b.yc.of.lb
 have hm:r ((bW 0 dF).length+j)∈bN ((bW 0 dF).length+a.aV.length) r:=gN.2 ⟨by have:=b.yc.conn.le ((bW 0 dF).length+j) (by omega);omega,b.yc.conn.rr _ (by omega)⟩
 have:=b.yc.of.bo j (by omega) hm
 cases hp:sL a.aV j with
 | true=>
  rw [hp,aD rfl] at this
  exact .inl ⟨rfl,_,this,by rw [(EI b.yc).1];exact(As hm (ED hp (by omega))).1⟩
 | false=>
  rw [hp,aC iz] at this
  exact .inr ⟨rfl,this⟩
theorem Dc (b:kn a j4 dF r gs ofP ofB jm iZ) {near:Int} {q1:List (List aI)} {q2:List aI} {q3:List bU} {q4:List cV} {q5:List (List aA)} {q6:List (List Int)} {q7:List Int} {q8:List dO} (hN:4398046511104<=N):
  lE N q1 q2 q3 q4 q5 (bW 0 dF) q6 gs ofP ofB q7 q8 near=some (if near<0\/100000<near then ([],1) else if 20000< (BG (bW 0 dF) gs ofP ofB near).length then ([],2) else (BG (bW 0 dF) gs ofP ofB near,0)):=by
 have hf:=b.xy.2
 have hbl:=b.za.gb.len
 have hlp:=b.yc.of.lp
 have hlb:=b.yc.of.lb
 have hup:=(EP dF 0).1
 generalize hpcs:bW 0 dF=pcs at *
 unfold lE
 have w:jw N near 0 100000=some (decide (near>=0)&&decide (near<=100000)):=rfl
 rw [w,aB]
 by_cases hn:near<0\/100000<near
 ·rw [aD hn,show (decide (near>=0)&&decide (near<=100000))=false by rw [Bool.and_eq_false_iff,decide_eq_false_iff_not,decide_eq_false_iff_not];omega];rfl
 rw [aC hn,show (decide (near>=0)&&decide (near<=100000))=true by rw [bJ,bI,bI];omega,lz,aR]
 have s1:iT ofP.length (fun(k34:Nat) (s35: (List bY))=>((idx ofP (k34:Int)).bind fun x51=>(f0 N (⟨false,(k34:Int)⟩:dO) x51 s35 gs).bind fun x54=>some x54:Option ((List bY)))) ([]: (List bY))=some (pS gs false ofP ofP.length):=
  yP (fun k=>pS gs false ofP k) (by omega) rfl (fun k hk=>by
   obtain⟨g,h1,h2⟩:=BH b hk
   have:=nG gs false ofP k
   rw [dN h1,aB,uh (fun _=>by rw [bO];exact h2) (by omega),aB,yh,h1];rfl)
 have s2:iT ofB.length (fun(k57:Nat) (s58: (List bY))=>((idx ofB (k57:Int)).bind fun x74=>(f0 N (⟨true,(k57:Int)⟩:dO) x74 s58 gs).bind fun x77=>some x77:Option ((List bY)))) (pS gs false ofP ofP.length)=some (pS gs false ofP ofP.length++pS gs true ofB ofB.length):=
  yP (fun k=>pS gs false ofP ofP.length++pS gs true ofB k) (by omega) (by simp [pS]) (fun k hk=>by
   have:=nG gs false ofP ofP.length
   have:=nG gs true ofB k
   have e: ∃g,ofB[k]? =some g/\(0<=g->g.toNat<gs.length):=by
    rcases ER b hk with ⟨_,g,h1,h2⟩ | ⟨_,h1⟩
    ·exact⟨_,h1,fun _=>by rw [bO];exact h2⟩
    ·exact⟨_,h1,fun h=>by omega⟩
   obtain⟨g,h1,h2⟩:=e
   rw [dN h1,aB,uh h2 (by rw [dK];omega),aB,yh,h1,Option.elim_some]
   cases E0 gs g with
   | true=>rw [aD rfl,aD rfl,iK]
   | false=>rw [aC iz,aC iz])
 rw [s1,aB,s2,aB]
 have hb1:=nG gs false ofP ofP.length
 have hb2:=nG gs true ofB ofB.length
 generalize hB:pS gs false ofP ofP.length++pS gs true ofB ofB.length=base
 have hbase:base.length<=2500:=by rw [<-hB,dK];omega
 have hs:BG pcs gs ofP ofB near=base++qQ pcs ofP near pcs.length:=by unfold BG;rw [hB]
 refine Ok.get ?_
 refine Ok.bind (Ok.iT (fun i s=>s=base++qQ pcs ofP near i) (by omega) (by simp [qQ]) (fun i s hi e=>?_)) (fun s e=>?_)
 ·subst e
  have hx:pcs[i]? =some pcs[i]:=aJ hi
  have hpl:=xe pcs ofP near i
  have hpl: (qQ pcs ofP near i).length<=2000*2000:=Nat.le_trans hpl (Nat.mul_le_mul (by omega) hf)
  have hri:pcs[i].iD.length<=2000/\∀q∈pcs[i].iD,cU q=true:=by
   obtain⟨p1,p2,_⟩:=AA b (p:=pcs[i]) (by rw [hpcs];exact cJ hi)
   exact⟨p1,fun q hq=>(p2 q hq).1⟩
  obtain⟨gi_,hgi,_⟩:=BH b (k:=i) (by omega)
  refine Ok.ix hx ?_
  rw [gj (by omega)]
  have hskip:nF pcs ofP near i (i+1)= []:=by
   have e0:nF pcs ofP near i 0= []:=by simp [nF]
   have:=sR (pcs:=pcs) (ofP:=ofP) (near:=near) (i:=i) (m:=0) (d:=i+1) (fun k _ hk=>by
    unfold nE
    rw [hx,Option.elim_some]
    cases pcs[k]? with
    | none=>rfl
    | some q=>rw [Option.elim_some,bC (show ¬i<k by omega),Bool.false_and])
   rw [fN] at this
   rw [this,e0]
  refine Ok.bind (Ok.AK (n:=pcs.length) (fun st=>st.2) (fun k st=>i+1<=k/\st.1=base++qQ pcs ofP near i++nF pcs ofP near i k) (Go:=fun st=>st.1=base++qQ pcs ofP near (i+1)) (Rt:=fun _=>False) ?_ ?_ (k0:=i+1) (by omega) rfl ⟨bL _,by dsimp only;rw [hskip,kW]⟩ (by omega)) ?_
  ·rintro k ⟨s,j⟩ hk e ⟨hik,hI⟩
   dsimp only at e hI ⊢
   subst e;subst hI
   have hy:pcs[k]? =some pcs[k]:=aJ hk
   have h1l:=yi pcs ofP near i k
   have hrk:pcs[k].iD.length<=2000/\∀q∈pcs[k].iD,cU q=true:=by
    obtain⟨p1,p2,_⟩:=AA b (p:=pcs[k]) (by rw [hpcs];exact cJ hk)
    exact⟨p1,fun q hq=>(p2 q hq).1⟩
   obtain⟨gk_,hgk,_⟩:=BH b (k:=k) (by omega)
   have hmono: ∀u v:Nat,(hv:v<pcs.length)->(huv:u<v)->pcs[u].cR<=pcs[v].cR:=fun u v hv huv=>l5.1 hup u v (by omega) hv huv
   rw [J9 hk,aO]
   refine Ok.eq (x:=pcs[k].cR==pcs[i].cR) (by rw [dN hy,aB]) ?_
   cases hL: (pcs[k].cR==pcs[i].cR) with
   | false=>
    rw [aR]
    refine Ok.br ?_
    dsimp only
    have hne:pcs[k].cR≠pcs[i].cR:=fun e=>by rw [e,BEq.rfl] at hL;cases hL
    have h1:=hmono i k hk (by omega)
    have hsk:=sR (pcs:=pcs) (ofP:=ofP) (near:=near) (i:=i) (m:=k) (d:=pcs.length - k) (fun j h2 h3=>by
     have hj:j<pcs.length:=by omega
     have h4:pcs[k].cR<=pcs[j].cR:=by
      by_cases e:k=j
      ·subst e;exact Int.le_refl _
      ·exact hmono k j hj (by omega)
     unfold nE
     rw [hx,aJ hj,Option.elim_some,Option.elim_some,show (pcs[j].cR==pcs[i].cR)=false by rw [beq_eq_false_iff_ne];omega,Bool.false_and,Bool.and_false])
    rw [show k+ (pcs.length - k)=pcs.length by omega] at hsk
    rw [u6,hsk,iK]
   | true=>
    rw [aO]
    refine Ok.eq (x:=nE pcs ofP near i k) ?_ ?_
    ·rw [dN hgi,aB,dN hgk,aB]
     unfold nE
     rw [hx,hy,Option.elim_some,Option.elim_some,hL,cA (show i<k by omega),Bool.true_and,Bool.true_and,hgi,hgk]
     by_cases e:gi_=gk_
     ·subst e
      rw [bne_self_eq_false,aR,show decide (some ((gi_:Nat):Int)≠some ((gi_:Nat):Int))=false by simp,Bool.false_and]
     ·obtain⟨g,g1,g2⟩:=EO (N:=N) (a:=pcs[i].iD) (b:=pcs[k].iD) (by omega) (by omega) hri.2 hrk.2
      rw [show (((gi_:Nat):Int) != ((gk_:Nat):Int))=true by rw [bne_iff_ne];omega,aO,dN hy,aB,g1,aB,g2,show decide (some ((gi_:Nat):Int)≠some ((gk_:Nat):Int))=true by rw [bI];intro h;injection h with h;omega,Bool.true_and]
    ·cases hsP:nE pcs ofP near i k with
     | true=>
      rw [aO]
      refine Ok.bind (P:=fun s=>s=base++qQ pcs ofP near i++nF pcs ofP near i (k+1)) (Ok.app (by simp only [dK,jP,List.length_nil];omega) (Ok.ret ?_)) (fun s hs=>Ok.nx ⟨gj (by omega),by omega,hs⟩)
      rw [sQ,hsP,aD rfl,iK]
     | false=>
      rw [aR,aB]
      refine Ok.nx ⟨gj (by omega),by omega,?_⟩
      dsimp only
      rw [sQ,hsP,aC iz]
  ·rintro⟨s,j⟩ e ⟨_,hI⟩
   dsimp only at e hI ⊢
   subst e;subst hI
   rw [Ka,aR]
   refine Ok.eq (x:=false) rfl ?_
   rw [aR]
   exact Ok.br (by dsimp only;rw [u6,iK])
  ·intro o ho
   refine Ok.cs ho (fun st hst=>Ok.ret hst) (fun r hr=>hr.elim)
 ·subst e
  rw [hs]
  by_cases hl:20000< (base++qQ pcs ofP near pcs.length).length
  ·rw [aD hl,cA (show (((base++qQ pcs ofP near pcs.length).length:Nat):Int)>20000 by omega)]
   exact Ok.ret rfl
  ·rw [aC hl,bC (show ¬(((base++qQ pcs ofP near pcs.length).length:Nat):Int)>20000 by omega)]
   exact Ok.ret rfl
end
end Go.Gk
namespace Go.Gk
open Go Classical
theorem sS {bs:List bU} {n:Nat} {x:bY} (h1:AD x=false) (h2:oC bs n x=true) (h3:x.Open=false->x.A<x.B):nD bs n [x]=0:=by
 unfold nD
 have e:rU bs n [x] 0=none:=by
  unfold rU
  rw [show ([x]:List bY)[0]? =some x from rfl,Option.bind_some,h1,aC iz,h2,aC (by decide)]
  cases ho:x.Open with
  | true=>rfl
  | false=>
   have:=h3 ho
   rw [l6,Bool.true_and,bC (by omega),aC iz,aC (by simp)]
 rw [aC (by simp),ji.2 (fun k hk=>by
  have:k=0:=by simp at hk;omega
  subst this;exact e)];rfl
theorem sT {bs:List bU} {n:Nat}:nD bs n []=0:=rfl
noncomputable def u7 (N:Nat) (a:jT) (dF:List (List (List aA))) (jm:List Int) (iZ:List dO) (fl:List bY):List Int:=(dL N a.aV a.bH (bW 0 dF) (eY a.aV (bW 0 dF)) jm iZ fl).getD []
def GZ (c d:List Int):Bool:=(List.range c.length).all (fun i=>ko c i==ko d i)
section
variable {N:Nat} {a:jT} {j4:List (List aA)} {dF:List (List (List aA))} {r:Nat->Nat} {gs:List cL} {ofP ofB jm:List Int} {iZ:List dO}
theorem zg (b:kn a j4 dF r gs ofP ofB jm iZ) {fl:List bY} (h0:nD a.aV (bW 0 dF).length fl=0) (hN:4398046511104<=N):
  dL N a.aV a.bH (bW 0 dF) (eY a.aV (bW 0 dF)) jm iZ fl=some (u7 N a dF jm iZ fl)/\(u7 N a dF jm iZ fl).length=a.bH.length/\sO (u7 N a dF jm iZ fl):=by
 obtain⟨r2,c,up,fm,c1,c2,c3⟩:=EK b h0 hN
 have e:u7 N a dF jm iZ fl=c:=by unfold u7;rw [c1];rfl
 rw [e]
 exact⟨c1,c3.len,c3.first⟩
theorem ES {c d:List Int} (hc:c.length<=1000000000) (hl:d.length=c.length):mg N c d=some (GZ c d):=by
 unfold mg
 rw [mi (fun k=>if ko c k=ko d k then none else some false) (by omega) (fun k hk _=>by
  have h1:c[k]? =some c[k]:=aJ hk
  have h2:d[k]? =some (d[k]'(by omega)):=aJ _
  have n1: (bif (decide (c[k]<0)) then (some ((k:Nat):Int)) else (some c[k]))=some (ko c k):=by
   unfold ko
   rw [List.getD_eq_getElem?_getD,h1,Option.getD_some]
   by_cases h:c[k]<0
   ·rw [cA h,aD h];rfl
   ·rw [bC h,aC h];rfl
  have n2: (bif (decide ((d[k]'(by omega))<0)) then (some ((k:Nat):Int)) else (some (d[k]'(by omega))))=some (ko d k):=by
   unfold ko
   rw [List.getD_eq_getElem?_getD,h2,Option.getD_some]
   by_cases h: (d[k]'(by omega))<0
   ·rw [cA h,aD h];rfl
   ·rw [bC h,aC h];rfl
  rw [dN h1,aB,dN h2,aB,n1,aB,n2,aB]
  by_cases h:ko c k=ko d k
  ·rw [h,bne_self_eq_false,aD rfl];rfl
  ·rw [show (ko c k != ko d k)=true by rw [bne_iff_ne];exact h,aC h];rfl),aB]
 unfold GZ
 cases hf:pg c.length (fun k=>if ko c k=ko d k then none else some false) with
 | none=>
  have e: (List.range c.length).all (fun i=>ko c i==ko d i)=true:=iL.2 (fun i hi=>by
   have:=ji.1 hf i (i5.1 hi)
   split at this
   ·rename_i h;rw [h,BEq.rfl]
   ·cases this)
  rw [e];rfl
 | some e=>
  obtain⟨k,hk,he,_⟩:=ll.1 hf
  split at he
  ·cases he
  rename_i hne
  injection he with he
  subst he
  have e: (List.range c.length).all (fun i=>ko c i==ko d i)=false:=by
   rw [List.all_eq_false]
   exact⟨k,i5.2 hk,by simpa using hne⟩
  rw [e];rfl
theorem ET {c d:List Int} (hc:sO c) (hd:sO d) (hl:c.length=d.length) (h:GZ c d=true) {i k:Nat} (hi:i<c.length) (hk:k<c.length) (hne:i≠k):rV c i k=rV d i k:=
 AE hc hd hl (fun j hj=>by
  have:=iL.1 h j (i5.2 hj)
  exact beq_iff_eq.1 this) hi hk hne
theorem yj (b:kn a j4 dF r gs ofP ofB jm iZ) {near:Int} {x:bY} (hx:x∈BG (bW 0 dF) gs ofP ofB near):nD a.aV (bW 0 dF).length [x]=0:=by
 have hlp:=b.yc.of.lp
 have hlb:=b.yc.of.lb
 have inp: ∀{n k:Nat},k<n->zo n ((k:Nat):Int)=true:=fun{n k} h=>by
  unfold zo
  rw [bJ,bI,bI];omega
 unfold BG at hx
 rcases cP.1 hx with hx | hx
 ·rcases cP.1 hx with hx | hx
  ·obtain⟨k,hk,rfl⟩:=cM.1 hx
   have hk:=i5.1 (gI.1 hk).1
   exact sS rfl (inp (by omega)) (fun h=>by cases h)
  ·obtain⟨k,hk,rfl⟩:=cM.1 hx
   obtain⟨h1,h2⟩:=gI.1 hk
   have h1:=i5.1 h1
   refine sS rfl ?_ (fun h=>by cases h)
   rcases ER b h1 with ⟨hp,_⟩ | ⟨_,e⟩
   ·unfold oC
    simp only [aO]
    rw [inp (by omega),bO,hp];rfl
   ·rw [e,Option.elim_some] at h2
    unfold E0 at h2
    simp at h2
 ·obtain⟨i,hi,hx⟩:=List.mem_flatMap.1 hx
  obtain⟨k,hk,rfl⟩:=cM.1 hx
  obtain⟨h1,h2⟩:=gI.1 hk
  have h1:=i5.1 h1
  have hi:=i5.1 hi
  unfold nE at h2
  rw [aJ hi,aJ h1,Option.elim_some,Option.elim_some,bJ,bI] at h2
  refine sS rfl ?_ (fun _=>?_)
  ·unfold oC
   simp only [aR]
   rw [inp hi,inp h1];rfl
  ·show ((i:Nat):Int)< ((k:Nat):Int);omega
theorem FU (b:kn a j4 dF r gs ofP ofB jm iZ) (near:Int): (BG (bW 0 dF) gs ofP ofB near).length<=4002500:=by
 have hf:=b.xy.2
 have hbl:=b.za.gb.len
 have hlp:=b.yc.of.lp
 have hlb:=b.yc.of.lb
 have h1:=nG gs false ofP ofP.length
 have h2:=nG gs true ofB ofB.length
 have h3: (qQ (bW 0 dF) ofP near (bW 0 dF).length).length<=2000*2000:=Nat.le_trans (xe _ ofP near _) (Nat.mul_le_mul hf hf)
 unfold BG
 rw [dK,dK];omega
noncomputable def Dd (N:Nat) (a:jT) (dF:List (List (List aA))) (jm:List Int) (iZ:List dO) (x:bY):Bool:=GZ (u7 N a dF jm iZ [x]) (u7 N a dF jm iZ [])
theorem AF (b:kn a j4 dF r gs ofP ofB jm iZ) (h1:fZ N a=some (some (a.aL,a.dU,a.aV,a.bH,j4,bW 0 dF,eY a.aV (bW 0 dF),gs,ofP,ofB,jm,iZ),0)) (near:Int) (hN:4398046511104<=N):
  gF N a near=some (if near<0\/100000<near then ([],1) else if 20000< (BG (bW 0 dF) gs ofP ofB near).length then ([],2) else ((BG (bW 0 dF) gs ofP ofB near).filter (Dd N a dF jm iZ),0)):=by
 have hll:=b.t7.xy
 have hsl:=FU b near
 unfold gF
 rw [h1,aB]
 simp only [Dx,bne_self_eq_false,aR]
 rw [Dc b hN,aB]
 by_cases hn:near<0\/100000<near
 ·rw [aD hn,aD hn];rfl
 rw [aC hn,aC hn]
 by_cases hl:20000< (BG (bW 0 dF) gs ofP ofB near).length
 ·rw [aD hl,aD hl];rfl
 rw [aC hl,aC hl]
 simp only [bne_self_eq_false,aR]
 obtain⟨c1,c2,c3⟩:=zg b (fl:=[]) sT hN
 rw [c1,aB]
 generalize hS:BG (bW 0 dF) gs ofP ofB near=S at *
 rw [yP (s:=(u7 N a dF jm iZ [],([]:List bY))) (fun k=>(u7 N a dF jm iZ [],(S.take k).filter (Dd N a dF jm iZ))) (by omega) rfl (fun k hk=>by
  have hx:S[k]? =some S[k]:=aJ hk
  obtain⟨d1,d2,d3⟩:=zg b (fl:=[S[k]]) (yj b (near:=near) (by rw [hS];exact cJ hk)) hN
  have hlen: ((S.take k).filter (Dd N a dF jm iZ)).length<=k:=Nat.le_trans (kq _ _) (List.length_take_le _ _)
  rw [dN hx,aB,d1,aB,ES (by rw [d2];omega) (by rw [c2,d2]),aB,fu hk,gY]
  have eh:Dd N a dF jm iZ S[k]=GZ (u7 N a dF jm iZ [S[k]]) (u7 N a dF jm iZ []):=rfl
  cases hh:GZ (u7 N a dF jm iZ [S[k]]) (u7 N a dF jm iZ []) with
  | true=>rw [aO,gV (by simp only [jP,List.length_nil];omega),aB,aB,List.filter_cons_of_pos (by rw [eh,hh]),List.filter_nil]
  | false=>rw [aR,aB,List.filter_cons_of_neg (by rw [eh,hh];exact iz),List.filter_nil,kW]),aB,eX]
theorem zh {e:Int} (he:e≠0) (h:fZ N a=some (none,e)) (near:Int):gF N a near=some ([],e):=by
 unfold gF
 rw [h,aB]
 simp only [Dx,show (e != 0)=true by simpa using he,aO]
end
section
variable {N:Nat}
theorem nH {a:jT} {near n:Int} {p q:fD} (ha:bk a<=1048576) (_hn:bk near<=1048576) (_hm:bk n<=1048576) (_hp:bk p<=1048576) (_hq:bk q<=1048576) (hN:4398046511104<=N):cD N a near n p q=some true:=by
 have hs:=Av ha
 have aw:=FR hN
 have bad: ∀{e:Int},e≠0->gF N a near=some ([],e)->cD N a near n p q=some true:=fun{e} he h=>by
  unfold cD
  rw [h,aB,aw]
  simp only [show (e != 0)=true by simpa using he,show (e==0)=false by simpa using he,Bool.true_or,aO,aR,aB]
  rfl
 rcases opened (N:=N) hs hN with ⟨e,he,h⟩ | ⟨b,h⟩
 ·exact bad he (zh he h near)
 rename_i j4 dF r gs ofP ofB jm iZ
 have hH:=AF b h near hN
 by_cases hn:near<0\/100000<near
 ·rw [aD hn] at hH;exact bad (by decide) hH
 rw [aC hn] at hH
 by_cases hl:20000< (BG (bW 0 dF) gs ofP ofB near).length
 ·rw [aD hl] at hH;exact bad (by decide) hH
 rw [aC hl] at hH
 generalize hF: (BG (bW 0 dF) gs ofP ofB near).filter (Dd N a dF jm iZ)=F at hH
 unfold cD
 rw [hH,aB,aw]
 simp only [bne_self_eq_false,Bool.false_or,BEq.rfl,aO,aB]
 by_cases h0:n<0
 ·rw [cA h0];rfl
 rw [bC h0,aR]
 by_cases h1:n>=((F.length:Nat):Int)
 ·rw [cA h1];rfl
 rw [bC h1,aR,aB]
 by_cases h2:p=q
 ·rw [cA h2];rfl
 rw [bC h2,aR]
 obtain⟨m,rfl⟩: ∃m:Nat,n= ((m:Nat):Int):=⟨n.toNat,by omega⟩
 have hm:m<F.length:=by omega
 have hx:F[m]? =some F[m]:=aJ hm
 have hmem:F[m]∈(BG (bW 0 dF) gs ofP ofB near).filter (Dd N a dF jm iZ):=by rw [hF];exact cJ hm
 obtain⟨m1,m2⟩:=gI.1 hmem
 have hr:=yj b m1
 obtain⟨c1,c2,c3⟩:=zg b (fl:=[]) sT hN
 obtain⟨d1,d2,d3⟩:=zg b (fl:=[F[m]]) hr hN
 rw [rW b h sT c1 c2 p q hN,aB,dN hx,aB,rW b h hr d1 d2 p q hN,aB]
 rcases mw a p with ⟨ep,_⟩ | ⟨i,x,ep,hpx,hpp⟩
 ·rw [ep];rfl
 rcases mw a q with ⟨eq,_⟩ | ⟨k,y,eq,hqx,hqq⟩
 ·rw [ep,eq,cA (show (-1:Int)<0 by decide),Bool.or_true];rfl
 have hi:=(aW.1 hpx).1
 have hk:=(aW.1 hqx).1
 have hne:i≠k:=fun e=>by
  subst e
  rw [hpx] at hqx;injection hqx with hqx
  exact h2 (by rw [<-hpp,<-hqq,hqx])
 have hc:=ET d3 c3 (by omega) m2 (i:=i) (k:=k) (by omega) (by omega) hne
 rw [ep,eq,bC (show ¬((i:Nat):Int)<0 by omega),bC (show ¬((k:Nat):Int)<0 by omega),bO,bO,hc]
 simp only [Bool.or_false,aR,BEq.rfl,aO,aB]
end
end Go.Gk
