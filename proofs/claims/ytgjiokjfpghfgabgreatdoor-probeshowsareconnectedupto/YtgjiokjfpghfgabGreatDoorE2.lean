/-
  Helping texts: plain functions and plain laws. No statement of the seed is proved here.
-/
import Derived.Test.YtgjiokjfpghfgabGreatDoorE1
import Derived.Test.YtgjiokjfpghfgabGreatDoorA2
set_option linter.unusedVariables false
set_option linter.unusedSimpArgs false
set_option linter.unusedSectionVars false
namespace Go.Gk
open Go Classical
section
variable {N:Nat}
theorem BB {w:Nat} {g:Nat->Nat} {a:Nat}: ∀{ks:List Nat},ks.Nodup->a∈ks->(ks.map (fun k=>(if a=k then w else 0)+g k)).sum=w+ (ks.map g).sum
 | [],_,h=>by cases h
 | k::ks,hn,h=>by
  have hn':=List.nodup_cons.1 hn
  simp only [eB,List.sum_cons]
  by_cases e:a=k
  ·subst e
   rw [aC rfl]
   have:ks.map (fun k=>(if a=k then w else 0)+g k)=ks.map g:=List.map_congr_left fun x hx=>by
    rw [aD (fun e=>hn'.1 (by rw [e];exact hx)),fR]
   rw [this];omega
  ·rw [aD e,BB hn'.2 (by rcases ga.1 h with h | h;exact absurd h e;exact h)];omega
theorem zS {α:Type} {ks:List Nat} (hn:ks.Nodup) (f w:α->Nat): ∀{l:List α},(∀x∈l,f x∈ks)->(ks.map (fun k=>((l.filter (fun x=>decide (f x=k))).map w).sum)).sum= (l.map w).sum
 | [],_=>by
  have: ∀ks:List Nat,(ks.map (fun _=>0)).sum=0:=fun ks=>by
   induction ks with
   | nil=>rfl
   | cons k ks ih=>simp only [eB,List.sum_cons,ih]
  simpa using this ks
 | x::l,h=>by
  have ih:=zS hn f w (l:=l) fun y hy=>h y (jM _ hy)
  have: (ks.map (fun k=>(((x::l).filter (fun x=>decide (f x=k))).map w).sum))=ks.map (fun k=>(if f x=k then w x else 0)+ ((l.filter (fun x=>decide (f x=k))).map w).sum):=List.map_congr_left fun k _=>by
   rw [List.filter_cons]
   by_cases e:f x=k
   ·rw [aC (by simpa using e),aC e,eB,List.sum_cons]
   ·rw [aD (by simpa using e),aD e,fR]
  rw [this,BB hn (h x (by simp)),ih,eB,List.sum_cons]
theorem tH.ne {a:iD} {ke:List (List aA)} {eE:List (List (List aA))} {p:aH} {i:Nat} {r:List aI} {s:List aA} {ps:List (List aA)} {u:Nat->Nat} {j k:Nat} (h:tH a ke eE p i r s ps u j k):p.Set≠[]:=by
 intro e
 have hh:=iH.1 (gN h.head)
 have hx: (aL s)[k]? =some (aL s)[k]:=aK hh.1
 have hm: (aL s)[k]∈lr (aL s) (aL s).length u k:=mo.2 ⟨k,hh.1,hh.2,hx⟩
 obtain⟨b,hb,q,hq,hr⟩:=m8 (gN hx)
 have hbm:bH b∈s.map bH:=cL.2 ⟨b,hb,rfl⟩
 have hq1:=AG (h.dr.can.each _ hbm).2.2.1 q hq
 have hb1:=(h.dr.can.each _ hbm).1
 have hc:=h.set.cover q.1 b.Y0
 rw [e] at hc
 have:vQ (lr (aL s) (aL s).length u k) q.1 b.Y0=true:=jt.2 ⟨_,hm,by rw [hr];exact⟨⟨Int.le_refl _,hq1⟩,Int.le_refl _,hb1⟩⟩
 rw [this] at hc
 cases hc
structure l5 (a:iD) (ke:List (List aA)) (eE:List (List (List aA))) (r:Nat->Nat) (gs:List cI) (ofP ofB kU:List Int) (kA:List dO):Prop where
 Cu:mX a
 JM: ¬uJ a
 dr:sm a.aJ a.aU a.aJ.length ke eE
 yo:HI ke eE
 F4:AR a.aU a.aZ (bY 0 eE) r gs ofP ofB kU kA
inductive F5 (N:Nat) (a:iD):Prop
 | err (e:Int) (he:e≠0) (h:fI N a=some (none,e))
 | ok {ke:List (List aA)} {eE:List (List (List aA))} {r:Nat->Nat} {gs:List cI} {ofP ofB kU:List Int} {kA:List dO} (b:l5 a ke eE r gs ofP ofB kU kA)
  (h:fI N a=some (some (a.aJ,a.cW,a.aU,a.aZ,ke,bY 0 eE,dZ a.aU (bY 0 eE),gs,ofP,ofB,kU,kA),0))
theorem opened {a:iD} (hs:qM a) (hN:4398046511104<=N):F5 N a:=by
 obtain⟨x,hx,hI⟩:=xy (N:=N) hs hN
 rcases hI with ⟨he,rfl⟩ | ⟨_,hg,hcl,ke,eE,D,⟨_,rfl⟩ | ⟨hf,r,gs,ofP,ofB,kU,kA,hC,rfl⟩⟩
 ·exact .err _ he hx
 ·exact .err 2 (by omega) hx
 ·exact .ok ⟨hg,hcl,D,hf,hC⟩ hx
end
end Go.Gk
namespace Go.Gk
open Go Classical
section
variable {S R:Type}
theorem Ok.z6 {body:S->Option (Fl S R)} {N n:Nat} {s:S} (ι:S->Int) (Inv:Nat->S->Prop) {Go:S->Prop} {Rt:R->Prop}
  (h1: ∀k s,k<n->ι s= ((k:Nat):Int)->Inv k s->Ok (body s) (Fa (fun s'=>ι s'= ((k+1:Nat):Int)/\Inv (k+1) s') Go Rt))
  (h2: ∀s,ι s= ((n:Nat):Int)->Inv n s->Ok (body s) (Fa (fun _=>False) Go Rt))
  {k0:Nat} (hk:k0<=n) (hi:ι s= ((k0:Nat):Int)) (h0:Inv k0 s) (hn:n<N):Ok (Gk.mZ body N s) (Hp Go Rt):=by
 refine Ok.mZ (fun s=>∃k:Nat,k<=n/\ι s= ((k:Nat):Int)/\Inv k s) (fun s=>n - (ι s).toNat) ?_ ⟨k0,hk,hi,h0⟩ (by omega)
 rintro s ⟨k,hk,e,hI⟩
 by_cases hlt:k<n
 ·refine(h1 k s hlt e hI).mono ?_
  rintro(s' | s' | r) hp
  ·have hp1:ι s'= ((k+1:Nat):Int):=hp.1
   exact⟨⟨k+1,hlt,hp.1,hp.2⟩,by rw [e,hp1];simp only [bP];omega⟩
  ·exact hp
  ·exact hp
 ·have:k=n:=by omega
  subst this
  refine(h2 s e hI).mono ?_
  rintro(s' | s' | r) hp
  ·exact hp.elim
  ·exact hp
  ·exact hp
theorem Jh {k n:Nat} (h:k<n):decide (((k:Nat):Int)< ((n:Nat):Int))=true:=cB (by omega)
theorem Ji (n:Nat):decide (((n:Nat):Int)< ((n:Nat):Int))=false:=bC (by omega)
end
section
variable {N:Nat}
end
end Go.Gk
namespace Go.Gk
open Go Classical
section
variable {α:Type} [DecidableEq α] {N:Nat}
end
section
variable {N:Nat}
end
end Go.Gk
namespace Go.Gk
open Go Classical
theorem wt (n:Nat) (g:Nat->Nat): ((List.range (n+1)).map g).sum= ((List.range n).map g).sum+g n:=by
 rw [List.range_succ,fu,List.sum_append];simp
def HJ (r:aI) (x y:Int):Bool:=(decide (r.X0<=x)&&decide (x<r.X1))&&(decide (r.Y0<=y)&&decide (y<r.Y1))
def HA (a b:aI):Prop:=∀x y,¬(HJ a x y=true/\HJ b x y=true)
theorem ET {r:aI} {x y:Int}:HJ r x y=true↔(r.X0<=x/\x<r.X1)/\r.Y0<=y/\y<r.Y1:=by unfold HJ;simp
theorem tI: ∀{xs:List Int},kY xs->(xo xs).Pairwise (fun p q=>p.2<q.1)
 | [],_=>kO
 | [a],_=>kO
 | a::b::l,h=>by
  unfold xo
  rw [List.pairwise_cons]
  exact⟨fun q hq=>h.tail.head q.1 (yj q hq).1,tI h.tail.tail⟩
def AS (a b:aI):Prop:=a.Y1<=b.Y0\/(a.Y0=b.Y0/\a.Y1=b.Y1/\a.X1<b.X0)
theorem AS.apart {a b:aI} (h:AS a b):HA a b:=fun x y ⟨h1,h2⟩=>by
 rw [ET] at h1 h2
 rcases h with h | h <;> omega
theorem tJ: ∀{s:List aA},dS (s.map bH)->(aL s).Pairwise AS
 | [],_=>kO
 | b::s,h=>by
  rw [lh,List.pairwise_append]
  refine⟨?_,tJ h.tail,fun x hx y hy=>?_⟩
  ·unfold lf
   rw [List.pairwise_map]
   exact List.Pairwise.imp (fun hpq=> .inr ⟨rfl,rfl,hpq⟩) (tI (h.each (bH b) (by simp)).2.2.1)
  ·unfold lf at hx
   obtain⟨p,_,rfl⟩:=cL.1 hx
   obtain⟨c,hc,q,_,rfl⟩:=m8 hy
   exact .inl (h.vN (bH c) (cL.2 ⟨c,hc,rfl⟩))
theorem xz {s:List aA} (h:dS (s.map bH)): ∀r∈aL s,r.X0<r.X1/\r.Y0<r.Y1:=fun r hr=>by
 obtain⟨b,hb,p,hp,rfl⟩:=m8 hr
 have hc:=h.each (bH b) (cL.2 ⟨b,hb,rfl⟩)
 exact⟨AG hc.2.2.1 p hp,hc.1⟩
theorem zT {s:List aA} (h:dS (s.map bH)): (aL s).Nodup:=by
 have h1:=tJ h
 have h2:=xz h
 refine List.Pairwise.imp_of_mem (fun{a b} ha hb hab e=>?_) h1
 subst e
 have:=h2 a ha
 rcases hab with h | h <;> omega
def mD (s:List Bd):Nat:=(s.map (fun b=>b.xs.length / 2)).sum
theorem qN (s t:List Bd):mD (s++t)=mD s+mD t:=by unfold mD;rw [fu,List.sum_append]
theorem Cv (s:List Bd) (b:Bd):mD (ld s b)<=mD s+b.xs.length / 2:=by
 unfold ld
 split
 ·omega
 ·split
  ·rename_i c hc
   have hsp:=pg hc
   have e:mD s=mD s.dropLast+c.xs.length / 2:=by
    conv=>lhs;rw [hsp,qN]
    simp [mD]
   split
   ·rw [qN,e];simp [mD]
   ·rw [qN];simp [mD]
  ·simp [mD]
structure Jx (t:List Bd):Prop where
 each: ∀b∈t,b.y0<b.y1/\kY b.xs/\b.xs.length % 2=0
 ord:t.Pairwise (fun b c=>b.y1<=c.y0)
theorem fold_push: ∀(t out:List Bd),Jx t->dS out->(∀c∈out,∀b∈t,c.y1<=b.y0)->dS (t.foldl ld out)/\mD (t.foldl ld out)<=mD out+mD t/\
  ∀y,rowAt (t.foldl ld out) y=if (∃b∈t,b.y0<=y/\y<b.y1) then rowAt t y else rowAt out y
 | [],out,_,hc,_=>⟨hc,by simp [mD],fun y=>by simp⟩
 | b::t,out,hl,hc,ho=>by
  have hb:=hl.each b (by simp)
  have hord:=List.pairwise_cons.1 hl.ord
  have ho1: ∀c∈out,c.y1<=b.y0:=fun c h=>ho c h b (by simp)
  have h1:=uk hc ho1 hb.2.1 hb.2.2
  have htop:=um ho1 (show b.y0<=b.y1 by omega)
  obtain⟨f1,f2,f3⟩:=fold_push t (ld out b) ⟨fun c hcm=>hl.each c (jM _ hcm),hord.2⟩ h1 (fun c hcm d hd=>by have:=htop c hcm;have:=hord.1 d hd;omega)
  refine⟨f1,?_,fun y=>?_⟩
  ·have:=Cv out b
   have e:mD (b::t)=b.xs.length / 2+mD t:=by simp [mD]
   rw [List.foldl_cons,e];omega
  ·rw [List.foldl_cons,f3 y,uj ho1 (fun c hcm=>(hc.each c hcm).1) (fun h=>absurd h (by omega)),j8]
   by_cases hy:b.y0<=y/\y<b.y1
   ·have hn: ¬∃c∈t,c.y0<=y/\y<c.y1:=fun⟨c,hcm,h⟩=>by have:=hord.1 c hcm;omega
    rw [aD hn,aC hy,aC ⟨b,by simp,hy⟩,aC hy]
   ·rw [aD hy]
    by_cases h: ∃c∈t,c.y0<=y/\y<c.y1
    ·obtain⟨c,hcm,h⟩:=h
     rw [aC ⟨c,hcm,h⟩,aC ⟨c,jM _ hcm,h⟩,aD hy]
    ·rw [aD h,aD hy,aD (show ¬∃c∈b::t,c.y0<=y/\y<c.y1 from fun⟨c,hcm,h2⟩=>by
      rcases ga.1 hcm with rfl | hcm
      ·exact hy h2
      ·exact h ⟨c,hcm,h2⟩)]
noncomputable def mL (C:List aI) (b:aA):Bd:=⟨b.Y0,b.Y1,nU ((xo b.Xs).filter (fun p=>decide ((⟨p.1,b.Y0,p.2,b.Y1⟩:aI)∈C)))⟩
theorem Cw {l m:List (Int×Int)} (h:l.Sublist m): (nU l).Sublist (nU m):=by
 induction h with
 | slnil=>exact List.Sublist.refl _
 | cons a _ ih=>rw [lZ];exact(ih.cons _).cons _
 | cons_cons a _ ih=>rw [lZ,lZ];exact(ih.cons_cons _).cons_cons _
theorem wu (l:List (Int×Int)): (nU l).length % 2=0/\(nU l).length / 2=l.length:=by rw [Ce];omega
theorem xA {s p:List aA} {C:List aI} (hs:dS (s.map bH)) (hp:dS (p.map bH)) (hC: ∀r∈C,r∈aL s) (hcov: ∀x y,tq (p.map bH) x y=vQ C x y): (aL p).length<=C.length:=by
 have hinc: ∀b∈s,kY (mL C b).xs:=fun b hb=>by
  have h1:=Bw hs b hb
  have h2:=Cw (List.filter_sublist (l:=xo b.Xs) (p:=fun p=>decide ((⟨p.1,b.Y0,p.2,b.Y1⟩:aI)∈C)))
  rw [tu (oS hs b hb)] at h2
  exact List.Pairwise.sublist h2 h1
 have hlow:Jx (s.map (mL C)):=by
  refine⟨fun b hb=>?_,?_⟩
  ·obtain⟨c,hc,rfl⟩:=cL.1 hb
   exact⟨(hs.each (bH c) (cL.2 ⟨c,hc,rfl⟩)).1,hinc c hc,(wu _).1⟩
  ·have:=hs.ord
   rw [List.pairwise_map] at this ⊢
   exact List.Pairwise.imp (fun h=>h.1) this
 obtain⟨f1,f2,f3⟩:=fold_push (s.map (mL C)) [] hlow dS.nil (fun c hc=>by cases hc)
 have hrow: ∀{t:List aA},(∀b∈t,b∈s)->∀x y,lJ (rowAt (t.map (mL C)) y) x=true->vQ C x y=true:=by
  intro t ht x y h
  induction t with
  | nil=>cases h
  | cons b t ih=>
   rw [eB,j8] at h
   split at h
   ·rename_i hy
    have hbm:=ht b (by simp)
    have h1:=hinc b hbm
    have h:lJ (nU ((xo b.Xs).filter (fun p=>decide ((⟨p.1,b.Y0,p.2,b.Y1⟩:aI)∈C)))) x=true:=h
    rw [tr h1,vS] at h
    obtain⟨q,hq,h2⟩:=h
    have hq:=iT.1 hq
    exact jt.2 ⟨_,of_decide_eq_true hq.2,h2,hy⟩
   ·exact ih (fun c hc=>ht c (jM _ hc)) h
 have hrow2: ∀x y,vQ C x y=true->lJ (rowAt (s.map (mL C)) y) x=true:=by
  intro x y h
  obtain⟨r,hr,h1,h2⟩:=jt.1 h
  obtain⟨b,hb,q,hq,rfl⟩:=m8 (hC r hr)
  dsimp only at h1 h2
  have key: ∀{t:List aA},(∀c∈t,c∈s)->dS (t.map bH)->b∈t->rowAt (t.map (mL C)) y= (mL C b).xs:=by
   intro t ht hc hbt
   induction t with
   | nil=>cases hbt
   | cons c t ih=>
    rw [eB,j8]
    by_cases hy:c.Y0<=y/\y<c.Y1
    ·rw [aC (show (mL C c).y0<=y/\y< (mL C c).y1 from hy)]
     rcases ga.1 hbt with rfl | hbt
     ·rfl
     ·have:=hc.vN (bH b) (cL.2 ⟨b,hbt,rfl⟩)
      have e1: (bH c).y1=c.Y1:=rfl
      have e2: (bH b).y0=b.Y0:=rfl
      omega
    ·rw [aD (show ¬((mL C c).y0<=y/\y< (mL C c).y1) from hy)]
     rcases ga.1 hbt with rfl | hbt
     ·exact absurd h2 hy
     ·exact ih (fun d hd=>ht d (jM _ hd)) hc.tail hbt
  rw [key (fun c hc=>hc) hs hb]
  have h1':=hinc b hb
  show lJ (nU ((xo b.Xs).filter (fun p=>decide ((⟨p.1,b.Y0,p.2,b.Y1⟩:aI)∈C)))) x=true
  rw [tr h1',vS]
  exact⟨q,iT.2 ⟨hq,cB hr⟩,h1⟩
 have hsame:p.map bH= (s.map (mL C)).foldl ld []:=vP hp f1 fun x y=>by
  rw [hcov,fQ]
  have e:rowAt ((s.map (mL C)).foldl ld []) y=rowAt (s.map (mL C)) y:=by
   rw [f3]
   by_cases h: ∃b∈s.map (mL C),b.y0<=y/\y<b.y1
   ·rw [aC h]
   ·rw [aD h]
    exact(jr fun b hb=>by
     have: ¬(b.y0<=y/\y<b.y1):=fun h2=>h ⟨b,hb,h2⟩
     omega).symm
  unfold tq
  rw [e]
  exact⟨hrow2 x y,hrow (fun b hb=>hb) x y⟩
 have hc1: (aL p).length=mD (p.map bH):=by
  have: ∀p:List aA,(aL p).length=mD (p.map bH):=fun p=>by
   induction p with
   | nil=>rfl
   | cons b p ih=>rw [lh,eA,ku,ih];unfold mD;rw [eB,eB,List.sum_cons];rfl
  exact this p
 have hc2: ∀s:List aA,mD (s.map (mL C))= ((aL s).filter (fun r=>decide (r∈C))).length:=fun s=>by
  induction s with
  | nil=>rfl
  | cons b s ih=>
   rw [lh,iU,eA,<-ih]
   unfold mD
   rw [eB,eB,List.sum_cons]
   congr 1
   show (nU _).length / 2=_
   rw [(wu _).2]
   unfold lf
   rw [List.filter_map,gM];rfl
 have hc3: ((aL s).filter (fun r=>decide (r∈C))).length<=C.length:=dW (List.Nodup.sublist List.filter_sublist (zT hs)) fun r hr=>of_decide_eq_true (iT.1 hr).2
 rw [hc1,hsame]
 have e0:mD ([]:List Bd)=0:=rfl
 have:=hc2 s
 omega
end Go.Gk
namespace Go.Gk
open Go Classical
section
variable {N:Nat}
theorem rM {all:List aI} (w:aI->Nat): ∀(c:List Nat),((c.filterMap (fun i=>all[i]?)).map w).sum= (c.map (fun i=>(all[i]?).elim 0 w)).sum
 | []=>rfl
 | i::c=>by
  rw [eB,List.sum_cons,<-rM w c]
  cases h:all[i]? with
  | none=>rw [List.filterMap_cons_none (f:=fun i=>all[i]?) h];simp
  | some x=>rw [List.filterMap_cons_some (f:=fun i=>all[i]?) h,eB,List.sum_cons];rfl
theorem EU {all:List aI} {u:Nat->Nat} (h: ∀i,i<all.length->u i∈bR all.length u) (w:aI->Nat): ((bR all.length u).map (fun k=>((lr all all.length u k).map w).sum)).sum= (all.map w).sum:=by
 have e: (fun k=>((lr all all.length u k).map w).sum)=fun k=>(((List.range all.length).filter (fun x=>decide (u x=k))).map (fun i=>(all[i]?).elim 0 w)).sum:=by
  funext k;unfold lr;rw [rM];rfl
 rw [e,zS (lj _ _) u _ (fun x hx=>h x (mM.1 hx))]
 have: ∀m,m<=all.length->((List.range m).map (fun i=>(all[i]?).elim 0 w)).sum= ((all.take m).map w).sum:=by
  intro m
  induction m with
  | zero=>intro _;rfl
  | succ m ih=>
   intro hm
   rw [wt,ih (by omega),fA (by omega),fu,List.sum_append,aK (by omega)]
   simp
 rw [this _ (bI _),fy]
theorem wv: ∀{l m:List Nat},l.length=m.length->(∀(j x y:Nat),l[j]? =some x->m[j]? =some y->x<=y)->l.sum<=m.sum
 | [],[],_,_=>bI _
 | [],_::_,h,_=>by simp at h
 | _::_,[],h,_=>by simp at h
 | a::l,b::m,h,hle=>by
  have h1:=hle 0 a b rfl rfl
  have h2:=wv (l:=l) (m:=m) (by simpa using h) fun j x y hx hy=>hle (j+1) x y (by simpa using hx) (by simpa using hy)
  rw [List.sum_cons,List.sum_cons];omega
theorem EV {r hs:List aI} {s:List aA} (h1: ∀x∈r,eJ x=true) (h2: ∀x∈hs,eJ x=true) (hc:dS (s.map bH)) (hl:sD (oO r++oO hs) (kH r++kH hs) (s.map bH)): ∀q∈aL s,eJ q=true/\q.X0<q.X1/\q.Y0<q.Y1:=by
 intro q hq
 have hp:=xz hc q hq
 obtain⟨b,hb,p,hpm,rfl⟩:=m8 hq
 have hll:=hl (bH b) (cL.2 ⟨b,hb,rfl⟩)
 have hm:=yj p hpm
 have bx: ∀c∈oO r++oO hs,-1000000<=c/\c<=1000000:=fun c hcm=>by
  rcases cJ.1 hcm with h | h
  ·obtain⟨x,hx,h⟩:=oQ.1 h
   have:=kb (h1 x hx)
   rcases h with rfl | rfl <;> omega
  ·obtain⟨x,hx,h⟩:=oQ.1 h
   have:=kb (h2 x hx)
   rcases h with rfl | rfl <;> omega
 have by': ∀c∈kH r++kH hs,-1000000<=c/\c<=1000000:=fun c hcm=>by
  rcases cJ.1 hcm with h | h
  ·obtain⟨x,hx,h⟩:=ka.1 h
   have:=kb (h1 x hx)
   rcases h with rfl | rfl <;> omega
  ·obtain⟨x,hx,h⟩:=ka.1 h
   have:=kb (h2 x hx)
   rcases h with rfl | rfl <;> omega
 have g1:=bx _ (hll.2.2 p.1 hm.1)
 have g2:=bx _ (hll.2.2 p.2 hm.2)
 have g3:=by' _ hll.1
 have g4:=by' _ hll.2.1
 exact⟨wg ⟨g1,g3,g2,g4⟩,hp⟩
structure qO (r hs:List aI) (s:List aA) (u:Nat->Nat) (ps:List (List aA)):Prop where
 r1: ∀x∈r,eJ x=true
 r2: ∀x∈hs,eJ x=true
 k1: ∀x∈r,z7 x
 k2: ∀x∈hs,z7 x
 dr:rh r hs s
 pt:pj s u ps
 yo: (aL s).length<=2000
theorem qO.part {r hs:List aI} {s:List aA} {u:Nat->Nat} {ps:List (List aA)} (h:qO r hs s u ps) {p:List aA} (hp:p∈ps):dS (p.map bH)/\(aL p).length<=2000/\∀q∈aL p,eJ q=true/\q.X0<q.X1/\q.Y0<q.Y1:=by
 obtain⟨sx,sy⟩:=h.dr.small h.k1 h.k2
 obtain⟨j,k,g1,g2,g3,g4⟩:=wj h.pt h.dr.can h.dr.lim sx sy hp
 have:=xA h.dr.can g3.can (fun x hx=>by
  obtain⟨i,_,_,hi⟩:=mo.1 hx
  exact gN hi) g3.cover
 have h2:=v8 (aL s) (aL s).length u k
 have:=h.yo
 exact⟨g3.can,by omega,EV h.r1 h.r2 g3.can g4⟩
theorem qO.bR {r hs:List aI} {s:List aA} {u:Nat->Nat} {ps:List (List aA)} (h:qO r hs s u ps): ∀i,i< (aL s).length->u i∈Gk.bR (aL s).length u:=fun i hi=>iH.2 ⟨by have:=h.pt.join.le i hi;omega,h.pt.join.rr i hi⟩
theorem qO.total {r hs:List aI} {s:List aA} {u:Nat->Nat} {ps:List (List aA)} (h:qO r hs s u ps): (ps.map (fun p=>(aL p).length)).sum<=(aL s).length:=by
 have h1:=EU h.bR (fun _=>1)
 have one: ∀l:List aI,(l.map (fun _=>1)).sum=l.length:=fun l=>by
  induction l with
  | nil=>rfl
  | cons x l ih=>simp only [eB,List.sum_cons,ih,kN];omega
 simp only [one] at h1
 rw [<-h1]
 refine wv (by simp [h.pt.len]) fun j x y hx hy=>?_
 rw [gz,Option.map_eq_some_iff] at hx hy
 obtain⟨p,hp,rfl⟩:=hx
 obtain⟨k,hk,rfl⟩:=hy
 have hs:=h.pt.each j k p hk hp
 exact xA h.dr.can hs.can (fun x hx=>by
  obtain⟨i,_,_,hi⟩:=mo.1 hx
  exact gN hi) hs.cover
theorem zU {ps:List (List aA)} {x y:Int}:vQ (ps.flatMap aL) x y=true↔∃p∈ps,vQ (aL p) x y=true:=by
 rw [jt]
 constructor
 ·rintro⟨r,hr,h⟩
  obtain⟨p,hp,hrp⟩:=List.mem_flatMap.1 hr
  exact⟨p,hp,jt.2 ⟨r,hrp,h⟩⟩
 ·rintro⟨p,hp,h⟩
  obtain⟨r,hr,h⟩:=jt.1 h
  exact⟨r,List.mem_flatMap.2 ⟨p,hp,hr⟩,h⟩
theorem qO.cover {r hs:List aI} {s:List aA} {u:Nat->Nat} {ps:List (List aA)} (h:qO r hs s u ps) (x y:Int):vQ (ps.flatMap aL) x y=tq (s.map bH) x y:=by
 rw [<-qZ h.dr.can,fQ,zU]
 constructor
 ·rintro⟨p,hp,hc⟩
  obtain⟨j,hj⟩:=fS hp
  have hjl:=(aW.1 hj).1
  have hk: (Gk.bR (aL s).length u)[j]? =some ((Gk.bR (aL s).length u)[j]'(by rw [<-h.pt.len];exact hjl)):=aK _
  have hs:=h.pt.each j _ _ hk hj
  rw [qZ hs.can,hs.cover] at hc
  obtain⟨q,hq,h2⟩:=jt.1 hc
  obtain⟨i,_,_,hi⟩:=mo.1 hq
  exact jt.2 ⟨q,gN hi,h2⟩
 ·intro hc
  obtain⟨q,hq,h2⟩:=jt.1 hc
  obtain⟨i,hi⟩:=fS hq
  have hil:=(aW.1 hi).1
  obtain⟨j,hj⟩:=fS (h.bR i hil)
  have hjl:j<ps.length:=by rw [h.pt.len];exact(aW.1 hj).1
  have hs:=h.pt.each j _ _ hj (aK hjl)
  refine⟨_,cM hjl,?_⟩
  rw [qZ hs.can,hs.cover]
  exact jt.2 ⟨q,mo.2 ⟨i,hil,rfl,hi⟩,h2⟩
section
variable {a:iD} {ke:List (List aA)} {eE:List (List (List aA))} {r:Nat->Nat} {gs:List cI} {ofP ofB kU:List Int} {kA:List dO}
end
end
end Go.Gk
namespace Go.Gk
open Go Classical
def yu (f:Int->Int->Bool) (x y:Int):Prop:=f x y=true/\∀x' y',f x' y'=true->y<y'\/(y=y'/\x<=x')
theorem yu.unique {f:Int->Int->Bool} {x y x' y':Int} (h:yu f x y) (h':yu f x' y'):x=x'/\y=y':=by
 have h1:=h.2 _ _ h'.1
 have h2:=h'.2 _ _ h.1
 omega
section
variable {N:Nat}
structure BI (all:List aI) (u:Nat->Nat) (i:Nat) (q:List Nat) (done:List Bool) (own:List aI):Prop where
 len:done.length=all.length
 nd:q.Nodup
 lt: ∀k∈q,k<all.length/\u k=i
 hd:i∈q
 dn: ∀k,k<all.length->done[k]? =some (decide (u k<i\/k∈q))
 ow:own.map some=q.map (fun k=>all[k]?)
theorem BI.yo {all:List aI} {u:Nat->Nat} {i:Nat} {q:List Nat} {done:List Bool} {own:List aI} (h:BI all u i q done own):q.length<=all.length:=by
 have:=dW h.nd (m:=List.range all.length) (fun k hk=>by rw [mM];exact(h.lt k hk).1)
 rwa [List.length_range] at this
theorem BI.at_ {all:List aI} {u:Nat->Nat} {i:Nat} {q:List Nat} {done:List Bool} {own:List aI} (h:BI all u i q done own) {p k:Nat} (hk:q[p]? =some k):own[p]? =all[k]? :=by
 have e:=congrArg (fun l=>l[p]?) h.ow
 simp only [gz,hk,Option.map_some] at e
 cases ho:own[p]? with
 | none=>rw [ho] at e;cases e
 | some x=>rw [ho] at e;injection e
theorem BI.mem {all:List aI} {u:Nat->Nat} {i:Nat} {q:List Nat} {done:List Bool} {own:List aI} (h:BI all u i q done own) {r:aI}:r∈own↔∃k∈q,all[k]? =some r:=by
 have:r∈own↔some r∈own.map some:=by simp
 rw [this,h.ow,cL]
end
end Go.Gk
namespace Go.Gk
open Go Classical
section
variable {α β:Type}
theorem DZ {N:Nat} {l:List α} {s:β} {φ:α->β->Option Int} (c:α->Int) (hφ: ∀x,φ x s=some (c x)) (hs: ∀(i j:Nat) (x y:α),i<j->l[i]? =some x->l[j]? =some y->0<=c x->0<c y)
  (hl:l.length<=1048576) (hN:4194304<=N): ∃r,Ds N l s φ=some r/\r.2=l.any (fun x=>c x==0)/\(r.2=true->r.1=Bj l (fun x=>c x==0)):=by
 show Ok (Ds N l s φ) (fun r=>r.2=l.any (fun x=>c x==0)/\(r.2=true->r.1=Bj l (fun x=>c x==0)))
 unfold Ds
 refine Ok.bind (Ok.mZ (Go:=fun st:Int×Int=>∃a:Nat,st.1= ((a:Nat):Int)/\a<=l.length/\(∀j x,j<a->l[j]? =some x->c x<0)/\(∀j x,a<=j->l[j]? =some x->0<=c x)) (Rt:=fun _=>True)
  (fun st=>∃a b:Nat,st= (((a:Nat):Int),((b:Nat):Int))/\a<=b/\b<=l.length/\(∀j x,j<a->l[j]? =some x->c x<0)/\(∀j x,b<=j->l[j]? =some x->0<=c x))
  (fun st=>(st.2 - st.1).toNat) ?_ ⟨0,l.length,rfl,by omega,bI _,fun j x hj=>by omega,fun j x hj hx=>by have:=(aW.1 hx).1;omega⟩ (by simp only;omega)) ?_
 ·rintro st ⟨a,b,rfl,hab,hb,h1,h2⟩
  dsimp only
  by_cases hlt:a<b
  ·have hm: (a+b) / 2<l.length:=by omega
   have hx:l[(a+b) / 2]? =some l[(a+b) / 2]:=aK hm
   rw [show decide (((a:Nat):Int)< ((b:Nat):Int))=true by rw [bQ];omega,aQ,B7 hlt (by omega:b<=4611686018427387904)]
   refine Ok.ix hx (Ok.eq (hφ _) ?_)
   by_cases hc:c l[(a+b) / 2]<0
   ·rw [cB hc,aQ,aB]
    refine Ok.nx ⟨⟨(a+b) / 2+1,b,?_,by omega,hb,fun j x hj hx'=>?_,h2⟩,?_⟩
    ·rw [gT (by omega)]
    ·by_cases e:j= (a+b) / 2
     ·subst e;rw [hx] at hx';injection hx' with hx';rw [<-hx'];exact hc
     ·by_cases h0:c x<0
      ·exact h0
      ·have:=hs j _ x _ (by omega) hx' hx (by omega)
       omega
    ·rw [gT (by omega)];simp only;omega
   ·rw [bC hc,aS,aB]
    refine Ok.nx ⟨⟨a,(a+b) / 2,rfl,by omega,by omega,h1,fun j x hj hx'=>?_⟩,by simp only;omega⟩
    by_cases e:j= (a+b) / 2
    ·subst e;rw [hx] at hx';injection hx' with hx';rw [<-hx'];omega
    ·have:=hs _ j _ x (by omega) hx hx' (by omega)
     omega
  ·rw [show decide (((a:Nat):Int)< ((b:Nat):Int))=false by rw [decide_eq_false_iff_not];omega,aS]
   exact Ok.br ⟨a,rfl,by omega,h1,fun j x hj hx=>h2 j x (by omega) hx⟩
 intro o ho
 refine Ok.cs ho ?_ (fun r hr=>r.elim)
 rintro⟨st1,st2⟩ ⟨a,ha,hle,h1,h2⟩
 dsimp only at ha ⊢
 subst ha
 by_cases hlt:a<l.length
 ·have hx:l[a]? =some l[a]:=aK hlt
  rw [show decide (((a:Nat):Int)< ((l.length:Nat):Int))=true by rw [bQ];omega,aQ,dK hx,aB,hφ,aB,aB]
  refine Ok.ret ?_
  by_cases he:c l[a]=0
  ·have hb: (c l[a]==0)=true:=by rw [beq_iff_eq];exact he
   rw [hb]
   refine⟨(kg.2 ⟨_,cM hlt,hb⟩).symm,fun _=>?_⟩
   rw [Dn hx hb (fun j y hj hy=>by have:=h1 j y hj hy;rw [beq_eq_false_iff_ne];omega)]
  ·have hb: (c l[a]==0)=false:=by rw [beq_eq_false_iff_ne];exact he
   rw [hb]
   refine⟨?_,fun h=>by cases h⟩
   symm
   rw [List.any_eq_false]
   intro x hx'
   obtain⟨j,hj⟩:=fS hx'
   rw [nM,beq_eq_false_iff_ne]
   by_cases hja:j<a
   ·have:=h1 j x hja hj;omega
   ·by_cases e:j=a
    ·subst e;rw [hx] at hj;injection hj with hj;rw [<-hj];exact he
    ·have h3:=h2 a _ (bI _) hx
     have:=hs a j _ x (by omega) hx hj h3
     omega
 ·rw [show decide (((a:Nat):Int)< ((l.length:Nat):Int))=false by rw [decide_eq_false_iff_not];omega,aS,aB]
  refine Ok.ret ⟨?_,fun h=>by cases h⟩
  symm
  rw [List.any_eq_false]
  intro x hx'
  obtain⟨j,hj⟩:=fS hx'
  have:=(aW.1 hj).1
  have:=h1 j x (by omega) hj
  rw [nM,beq_eq_false_iff_ne];omega
end
def uK (p q:fB):Prop:=cX.lt p.Part q.Part\/(p.Part=q.Part/\cX.lt p.fB q.fB)
theorem BC {p q:fB} (h1:p.Part=q.Part) (h2:p.fB=q.fB):p=q:=by cases p;cases q;simp at h1 h2;subst h1;subst h2;rfl
theorem uK.irrefl (p:fB): ¬uK p p:=fun h=>by
 rcases h with h | ⟨_,h⟩
 ·exact cX.lt_irrefl _ h
 ·exact cX.lt_irrefl _ h
theorem uK.trans {p q r:fB} (h1:uK p q) (h2:uK q r):uK p r:=by
 rcases h1 with h1 | ⟨e1,h1⟩ <;> rcases h2 with h2 | ⟨e2,h2⟩
 ·exact .inl (cX.lt_trans h1 h2)
 ·exact .inl (by rw [<-e2];exact h1)
 ·exact .inl (by rw [e1];exact h2)
 ·exact .inr ⟨e1.trans e2,cX.lt_trans h1 h2⟩
theorem uK.total (p q:fB):uK p q\/p=q\/uK q p:=by
 rcases cX.zz p.Part q.Part with h | h | h
 ·exact .inl (.inl h)
 ·rcases cX.zz p.fB q.fB with h' | h' | h'
  ·exact .inl (.inr ⟨h,h'⟩)
  ·exact .inr (.inl (BC h h'))
  ·exact .inr (.inr (.inr ⟨h.symm,h'⟩))
 ·exact .inr (.inr (.inl h))
theorem uK.asymm {p q:fB} (h:uK p q): ¬uK q p:=fun h'=>uK.irrefl p (h.trans h')
theorem uK.ne {p q:fB} (h:uK p q):p≠q:=fun e=>by subst e;exact uK.irrefl _ h
theorem oT {a b:cX}:Lib.compareBytes a.cG b.cG=0↔a=b:=⟨fun h=>cX.ext' ((rY _ _).1 h),fun h=>(rY _ _).2 (by rw [h])⟩
theorem mY {p q:fB}:gh p q=0↔p=q:=by
 unfold gh
 by_cases h:Lib.compareBytes p.Part.cG q.Part.cG=0
 ·rw [aD (by simpa using h),oT]
  exact⟨fun h'=>BC (oT.1 h) h',fun h'=>by rw [h']⟩
 ·rw [aC h]
  exact⟨fun h'=>absurd h' h,fun h'=>absurd (oT.2 (by rw [h'])) h⟩
theorem wx {p q:fB}:gh p q<0↔uK p q:=by
 unfold gh uK
 by_cases h:Lib.compareBytes p.Part.cG q.Part.cG=0
 ·rw [aD (by simpa using h),rX]
  have e:=oT.1 h
  constructor
  ·exact fun h'=> .inr ⟨e,h'⟩
  ·rintro(h' | ⟨_,h'⟩)
   ·rw [e] at h';exact absurd h' (cX.lt_irrefl _)
   ·exact h'
 ·rw [aC h,rX]
  constructor
  ·exact fun h'=> .inl h'
  ·rintro(h' | ⟨e,_⟩)
   ·exact h'
   ·exact absurd (oT.2 e) h
theorem pr {p q:fB}:0<gh p q↔uK q p:=by
 constructor
 ·intro h
  rcases uK.total p q with h' | h' | h'
  ·have:=wx.2 h';omega
  ·have:=mY.2 h';omega
  ·exact h'
 ·intro h
  by_cases h1:gh p q<0
  ·exact absurd (wx.1 h1) h.asymm
  ·by_cases h2:gh p q=0
   ·exact absurd (mY.1 h2).symm h.ne
   ·omega
section
variable {N:Nat}
structure AT (a:iD) (x:cK):Prop where
 name:ot x.Part=true/\isWord x.fB=true
 Hy:0<=x.eK/\x.eK< ((a.aJ.length:Nat):Int)
 at_:rJ x.At=true
structure oU (a:iD):Prop where
 yo:a.aZ.length<=1000
 each: ∀x∈a.aZ,AT a x
 up:a.aZ.Pairwise (fun x y=>uK (kc x) (kc y))
theorem yv {a:iD} {k:Nat} {x:cK} (hx:a.aZ[k]? =some x) (h:kx a k=none):AT a x/\∀y,0<k->a.aZ[k - 1]? =some y->uK (kc y) (kc x):=by
 unfold kx at h
 rw [hx,Option.bind_some] at h
 split at h
 ·rename_i h1
  split at h
  ·rename_i h2
   split at h
   ·cases h
   ·rename_i h3
    rw [bN] at h1 h2
    unfold gL at h2
    rw [bN,bQ,bQ] at h2
    refine⟨⟨h1,⟨by omega,by omega⟩,h2.2⟩,fun y hk hy=>?_⟩
    have h4: ¬gh (kc x) (kc y)<=0:=fun h4=>h3 ⟨hk,y,hy,h4⟩
    exact pr.1 (by omega)
  ·cases h
 ·cases h
theorem AU {a:iD} {k:Nat} {e:Int} (h:kx a k=some e):e≠0:=by
 unfold kx at h
 cases hx:a.aZ[k]? with
 | none=>rw [hx] at h;cases h
 | some x=>
  rw [hx,Option.bind_some] at h
  repeat' split at h
  all_goals first | (injection h with h;omega) | cases h
theorem Cx {a:iD} (h:kd a=0):oU a:=by
 unfold kd at h
 split at h
 ·omega
 rename_i hl
 have hn:mz a.aZ.length (kx a)=none:=by
  cases hf:mz a.aZ.length (kx a) with
  | none=>rfl
  | some e=>
   rw [hf] at h
   obtain⟨k,_,hk,_⟩:=ja.1 hf
   exact absurd h (AU hk)
 rw [iF] at hn
 have hg: ∀(k:Nat) x,a.aZ[k]? =some x->AT a x/\∀y,0<k->a.aZ[k - 1]? =some y->uK (kc y) (kc x):=fun k x hx=>yv hx (hn k (aW.1 hx).1)
 refine⟨by omega,fun x hx=>?_,?_⟩
 ·obtain⟨k,hk⟩:=fS hx
  exact(hg k x hk).1
 ·have hstep: ∀(n i:Nat) x y,a.aZ[i]? =some x->a.aZ[i+n+1]? =some y->uK (kc x) (kc y):=by
   intro n
   induction n with
   | zero=>intro i x y hx hy;exact(hg (i+1) y hy).2 x (by omega) hx
   | succ n ih=>
    intro i x y hx hy
    have hz:i+n+1<a.aZ.length:=by have:=(aW.1 hy).1;omega
    have h1:=ih i x _ hx (aK hz)
    exact h1.trans ((hg (i+ (n+1)+1) y hy).2 _ (by omega) (by rw [show i+ (n+1)+1 - 1=i+n+1 by omega];exact aK hz))
  rw [mO]
  intro i j hi hj hij
  exact hstep (j - i - 1) i _ _ (aK hi) (by rw [show i+ (j - i - 1)+1=j by omega];exact aK hj)
theorem oU.inj {a:iD} (h:oU a) {i j:Nat} {x y:cK} (hx:a.aZ[i]? =some x) (hy:a.aZ[j]? =some y) (e:kc x=kc y):i=j:=by
 obtain⟨h1,rfl⟩:=aW.1 hx
 obtain⟨h2,rfl⟩:=aW.1 hy
 have hp:=mO.1 h.up
 rcases Nat.lt_trichotomy i j with h3 | h3 | h3
 ·exact absurd e (hp i j h1 h2 h3).ne
 ·exact h3
 ·exact absurd e.symm (hp j i h2 h1 h3).ne
theorem zV {l:List cK} {p:fB} (hu:l.Pairwise (fun x y=>uK (kc x) (kc y))) (hl:l.length<=1048576) (hN:4194304<=N) {φ:cK->fB->Option Int} (hφ: ∀x,φ x p=some (gh (kc x) p)):
  ∃r,Ds N l p φ=some r/\(bif (!r.2) then (some (-1)) else (some r.1))=some (Bj l (fun x=>decide (kc x=p))):=by
 obtain⟨r,h1,h2,h3⟩:=DZ (N:=N) (l:=l) (s:=p) (φ:=φ) (fun x=>gh (kc x) p) hφ (fun i j x y hij hx hy hc=>by
  obtain⟨g1,rfl⟩:=aW.1 hx
  obtain⟨g2,rfl⟩:=aW.1 hy
  have hlt:=mO.1 hu i j g1 g2 hij
  refine pr.2 ?_
  by_cases h0:gh (kc l[i]) p=0
  ·rw [<-mY.1 h0];exact hlt
  ·exact(pr.1 (by omega)).trans hlt) hl hN
 have e: (fun x=>gh (kc x) p==0)= (fun x=>decide (kc x=p)):=by
  funext x
  rw [fQ,beq_iff_eq,bQ,mY]
 rw [e] at h2 h3
 refine⟨r,h1,?_⟩
 cases hr:r.2 with
 | true=>simp only [l9,aS];rw [h3 hr]
 | false=>
  simp only [mP,aQ]
  rw [hr] at h2
  rw [Dm h2.symm]
def dL (a:iD) (p:fB):Int:=Bj a.aZ (fun x=>decide (kc x=p))
theorem nZ (a:iD) (p:fB): (dL a p = -1/\∀x∈a.aZ,kc x≠p)\/∃(k:Nat) (x:cK),dL a p= ((k:Nat):Int)/\a.aZ[k]? =some x/\kc x=p:=by
 rcases qX a.aZ (fun x=>decide (kc x=p)) with ⟨h1,h2⟩ | ⟨k,x,h1,h2,h3,_⟩
 ·exact .inl ⟨h1,fun x hx=>of_decide_eq_false (h2 x hx)⟩
 ·exact .inr ⟨k,x,h1,h2,of_decide_eq_true h3⟩
end
end Go.Gk
namespace Go.Gk
open Go Classical
section
variable {N:Nat}
end
end Go.Gk
namespace Go.Gk
open Go Classical
section
variable {N:Nat}
end
section
variable {N:Nat} {a:iD} {ke:List (List aA)} {eE:List (List (List aA))} {r:Nat->Nat} {gs:List cI} {ofP ofB kU:List Int} {kA:List dO}
end
end Go.Gk
namespace Go.Gk
open Go Classical
structure PS (n:Nat) (r:Nat->Nat) (h:Nat) (q:List Nat) (seen:List Bool) (pieces todo:List Int):Prop where
 sl:seen.length=n
 sn: ∀p,p<n->seen[p]? =some (decide (r p<h\/p∈q))
 qn:q.Nodup
 qi: ∀p∈q,p<n/\r p=h
 q0:h∈q
 td:todo=ints q
 pi:kY pieces
 pm: ∀x,x∈pieces↔∃p∈q,x= ((p:Nat):Int)
structure QS (n m:Nat) (tch:List (List Int)) (r:Nat->Nat) (h:Nat) (q qb:List Nat) (tG:List Int) (used:List Bool):Prop where
 ul:used.length=m
 un: ∀k,k<m->used[k]? =some (decide (k∈qb))
 bi:kY tG
 bm: ∀x,x∈tG↔∃k∈qb,x= ((k:Nat):Int)
 bk: ∀k∈qb,k<m/\r (n+k)=h/\∀l,tch[k]? =some l->∀p:Nat,((p:Nat):Int)∈l->p∈q
theorem PS.yo {n:Nat} {r:Nat->Nat} {h:Nat} {q:List Nat} {seen:List Bool} {pieces todo:List Int} (H:PS n r h q seen pieces todo):q.length<=n/\pieces.length<=n:=by
 have h1:=dW H.qn (m:=List.range n) (fun k hk=>by rw [mM];exact(H.qi k hk).1)
 rw [List.length_range] at h1
 have h2:=dW H.pi.nodup (m:=ints q) (fun x hx=>wk.2 ((H.pm x).1 hx))
 rw [lG] at h2
 exact⟨h1,by omega⟩
theorem QS.yo {n m:Nat} {tch:List (List Int)} {r:Nat->Nat} {h:Nat} {q qb:List Nat} {tG:List Int} {used:List Bool} (H:QS n m tch r h q qb tG used):tG.length<=m:=by
 have h2:=dW H.bi.nodup (m:=ints (List.range m)) (fun x hx=>by
  obtain⟨k,hk,e⟩:=(H.bm x).1 hx
  exact wk.2 ⟨k,mM.2 (H.bk k hk).1,e⟩)
 rwa [lG,List.length_range] at h2
section
variable {N:Nat}
end
end Go.Gk
namespace Go.Gk
open Go Classical
structure JL (G G':List cI):Prop where
 len:G'.length=G.length
 each: ∀(g:Nat) x,G[g]? =some x->∃y,G'[g]? =some y/\y.mu=x.mu/\y.aU=x.aU
section
variable {N:Nat}
end
section
variable {N:Nat} {a:iD} {ke:List (List aA)} {eE:List (List (List aA))} {r:Nat->Nat} {gs:List cI} {ofP ofB kU:List Int} {kA:List dO}
theorem l5.qL (b:l5 a ke eE r gs ofP ofB kU kA):oU a:=Cx b.Cu.qL
end
end Go.Gk
namespace Go.Gk
open Go Classical
section
variable {N:Nat} {a:iD} {ke:List (List aA)} {eE:List (List (List aA))} {r:Nat->Nat} {gs:List cI} {ofP ofB kU:List Int} {kA:List dO}
end
section
variable {N:Nat}
end
end Go.Gk
namespace Go.Gk
open Go Classical
section
variable {bs:List bM} {ls:List cK} {pcs:List aH} {r:Nat->Nat} {gs:List cI} {ofP ofB kU:List Int} {kA:List dO}
end
section
variable {N:Nat} {a:iD} {ke:List (List aA)} {eE:List (List (List aA))} {r:Nat->Nat} {gs:List cI} {ofP ofB kU:List Int} {kA:List dO}
end
section
variable {N:Nat}
end
end Go.Gk
namespace Go.Gk
open Go Classical
section
variable {N:Nat} {a:iD} {ke:List (List aA)} {eE:List (List (List aA))} {r:Nat->Nat} {gs:List cI} {ofP ofB kU:List Int} {kA:List dO}
theorem l6 (g:oU a) (p:fB) (hN:4398046511104<=N):dE N a p=some (dL a p):=by
 obtain⟨r,h1,h2⟩:=zV (N:=N) (p:=p) g.up (by have:=g.yo;omega) (by omega) (φ:=gq N) (fun x=>by unfold gq;rw [uz,aB,jB,aB])
 unfold dE
 have e:eD N a.aZ p (gq N)=Ds N a.aZ p (gq N):=rfl
 rw [e,h1,aB];exact h2
end
section
variable {N:Nat}
end
end Go.Gk
namespace Go.Gk
open Go Classical
theorem wR.uniq {n m:Nat} {tch:List (List Int)} {r1 r2:Nat->Nat} (h1:wR n m tch r1) (h2:wR n m tch r2) {i j:Nat} (hi:i<n+m) (hj:j<n+m):r1 i=r1 j↔r2 i=r2 j:=by
 have key: ∀{r1 r2:Nat->Nat},wR n m tch r1->wR n m tch r2->r1 i=r1 j->r2 i=r2 j:=fun{r1 r2} h1 h2 e=>
  (h1.fi (fun x=>r2 i=r2 x) (fun a b hab=>by rw [h2.co a b hab]) i j hi hj e) rfl
 exact⟨key h1 h2,key h2 h1⟩
section
variable {N:Nat} {a:iD} {ke:List (List aA)} {eE:List (List (List aA))} {r:Nat->Nat} {gs:List cI} {ofP ofB kU:List Int} {kA:List dO}
theorem F6 (x y:Int) (u:List Int):gu N x y [] u=cV N u x y:=by
 show (((cV N u x y).bind fun x38=>some x38).bind fun s36=>some s36)=_
 cases cV N u x y <;> rfl
theorem yw {bs:List bM} {pcs:List aH} {l:cK} {h:dO} (hh:mC bs pcs l=some h) (hn:pcs.length+bs.length<=1000000000):
  fJ N h ((pcs.length:Nat):Int)=some ((eH pcs.length h:Nat):Int)/\eH pcs.length h<pcs.length+bs.length:=by
 obtain⟨k,e,h1,h2⟩:=(AQ hh).num
 unfold fJ eH
 cases hB:h.bM with
 | true=>
  have:=(h1 hB).1
  rw [aQ,aC rfl,e,bP,wrap_add (by omega)]
  exact⟨rfl,by omega⟩
 | false=>
  have:=h2 hB
  rw [aS,aD nL,e,bP]
  exact⟨rfl,by omega⟩
structure EW (bs:List bM) (pcs:List aH) (ls:List cK) (r2:Nat->Nat) (j:Nat) (up:List Int) (fm:List (Int×Int)) (out:List Int):Prop where
 uf:UF (pcs.length+bs.length) up r2
 len:out.length=ls.length
 no: ∀i l,i<j->ls[i]? =some l->mC bs pcs l=none->out[i]? =some (-1)
 yes: ∀i l h,i<j->ls[i]? =some l->mC bs pcs l=some h->iu fm ((r2 (eH pcs.length h):Nat):Int)=true/\out[i]? =some (cZ fm ((r2 (eH pcs.length h):Nat):Int) 0)
 low: ∀x,iu fm x=true->∃v:Nat,cZ fm x 0= ((v:Nat):Int)/\v<j
 inj: ∀x y,iu fm x=true->iu fm y=true->cZ fm x 0=cZ fm y 0->x=y
theorem AV {bs:List bM} {pcs:List aH} {ls:List cK} (hn:pcs.length+bs.length<=1000000000) (hp:pcs.length<=1073741824) (hbl:bs.length<=1073741824) (hl:ls.length<=1073741824) (hof:kU=ls.map (yC bs pcs r)) (hat:kA=ls.map (fun l=>(mC bs pcs l).getD ⟨false,0⟩)) (hN:4398046511104<=N):
  ∃r2 c up fm,dF N bs ls pcs (dZ bs pcs) kU kA []=some c/\wR pcs.length bs.length (dZ bs pcs) r2/\EW bs pcs ls r2 ls.length up fm c:=by
 suffices h:Ok (dF N bs ls pcs (dZ bs pcs) kU kA []) (fun c=>∃r2 up fm,wR pcs.length bs.length (dZ bs pcs) r2/\EW bs pcs ls r2 ls.length up fm c) by
  obtain⟨c,h1,r2,up,fm,h2,h3⟩:=h
  exact⟨r2,c,up,fm,h1,h2,h3⟩
 unfold dF
 refine Ok.eq (x:=[]) rfl ?_
 rw [wrap_add (by omega)]
 obtain⟨up0,u1,u2⟩:=qB (N:=N) (n:=pcs.length+bs.length) (by omega)
 refine Ok.eq u1 ?_
 simp only [F6]
 refine Ok.bind (xv (n:=pcs.length) (m:=bs.length) (by unfold dZ;simp) (wm (by omega)) (by omega) (by omega) u2 hN) ?_
 rintro up1 ⟨r2,v1,v2⟩
 refine Ok.eq (x:=up1) rfl (Ok.eq (pd 0 (by omega)) ?_)
 have jy:kA.length=ls.length:=by rw [hat,gM]
 refine Ok.bind (Ok.jS (fun j (st:List Int×List (Int×Int)×List Int)=>EW bs pcs ls r2 j st.1 st.2.1 st.2.2) (by omega) ⟨v1,by simp,fun i l h=>by omega,fun i l h h1=>by omega,fun x hx=>(by cases hx),fun x y hx=>(by cases hx)⟩ ?_) (fun st I=>Ok.ret ⟨r2,st.1,st.2.1,v2,by rw [<-jy];exact I⟩)
 rintro j ⟨up,fm,out⟩ hj I
 rw [jy] at hj
 dsimp only at I ⊢
 have hx:ls[j]? =some ls[j]:=aK hj
 have h1:kA[j]? =some ((mC bs pcs ls[j]).getD ⟨false,0⟩):=by rw [hat,gz,hx];rfl
 have h2:kU[j]? =some (yC bs pcs r ls[j]):=by rw [hof,gz,hx];rfl
 have h3:out[j]? =some (out[j]'(by rw [I.len];exact hj)):=aK _
 have hjo:j<out.length:=by rw [I.len];exact hj
 refine Ok.ix h1 ?_
 cases hh:mC bs pcs ls[j] with
 | none=>
  have e1:yC bs pcs r ls[j] = -1:=by unfold yC su;rw [hh];rfl
  refine Ok.eq (x:=0) rfl (Ok.eq (x:=true) (by rw [dK h2,aB,e1];rfl) ?_)
  refine Ok.ix h3 (Ok.ret ?_)
  dsimp only
  rw [bP]
  refine⟨I.uf,by rw [gC];exact I.len,fun i l hi hil hn=>?_,fun i l h hi hil hs=>?_,fun x hx=>?_,I.inj⟩
  ·by_cases e:i=j
   ·subst e;rw [List.getElem?_set_self hjo]
   ·rw [List.getElem?_set_ne (Ne.symm e)];exact I.no i l (by omega) hil hn
  ·by_cases e:i=j
   ·subst e;rw [hx] at hil;injection hil with hil;subst hil;rw [hh] at hs;cases hs
   ·rw [List.getElem?_set_ne (Ne.symm e)];exact I.yes i l h (by omega) hil hs
  ·obtain⟨v,q1,q2⟩:=I.low x hx;exact⟨v,q1,by omega⟩
 | some h=>
  obtain⟨c1,c2⟩:=yw (N:=N) hh hn
  have e1: ∃g:Nat,yC bs pcs r ls[j]= ((g:Nat):Int):=by unfold yC su;rw [hh];exact⟨_,rfl⟩
  obtain⟨g,e1⟩:=e1
  refine Ok.eq c1 (Ok.eq (x:=false) (by rw [dK h2,aB,e1,bC (show ¬((g:Nat):Int)<0 by omega),aS];rfl) ?_)
  rw [aS]
  obtain⟨up2,t1,t2⟩:=mB (N:=N) I.uf c2 (by omega)
  refine Ok.eq t1 ?_
  dsimp only
  have fin: ∀(up3:List Int) (fm2:List (Int×Int)),UF (pcs.length+bs.length) up3 r2->(∀x,iu fm x=true->iu fm2 x=true/\cZ fm2 x 0=cZ fm x 0)->iu fm2 ((r2 (eH pcs.length h):Nat):Int)=true->(∀x,iu fm2 x=true->∃v:Nat,cZ fm2 x 0= ((v:Nat):Int)/\v<j+1)->(∀x y,iu fm2 x=true->iu fm2 y=true->cZ fm2 x 0=cZ fm2 y 0->x=y)->
    EW bs pcs ls r2 (j+1) up3 fm2 (out.set j (cZ fm2 ((r2 (eH pcs.length h):Nat):Int) 0)):=fun up3 fm2 g1 g2 g3 g4 g5=>by
   refine⟨g1,by rw [gC];exact I.len,fun i l hi hil hn=>?_,fun i l h' hi hil hs=>?_,g4,g5⟩
   ·by_cases e:i=j
    ·subst e;rw [hx] at hil;injection hil with hil;subst hil;rw [hh] at hn;cases hn
    ·rw [List.getElem?_set_ne (Ne.symm e)];exact I.no i l (by omega) hil hn
   ·by_cases e:i=j
    ·subst e;rw [hx] at hil;injection hil with hil;subst hil;rw [hh] at hs;injection hs with hs;subst hs
     exact⟨g3,by rw [List.getElem?_set_self hjo]⟩
    ·obtain⟨q1,q2⟩:=I.yes i l h' (by omega) hil hs
     rw [List.getElem?_set_ne (Ne.symm e),q2,(g2 _ q1).2]
     exact⟨(g2 _ q1).1,rfl⟩
  cases hm:iu fm ((r2 (eH pcs.length h):Nat):Int) with
  | true=>
   rw [l9,aS]
   obtain⟨up3,t3,t4⟩:=mB (N:=N) t2 c2 (by omega)
   refine Ok.eq (x:=(up2,fm)) rfl (Ok.eq t3 (Ok.ix h3 (Ok.ret ?_)))
   dsimp only
   rw [bP]
   exact fin up3 fm t4 (fun x hx=>⟨hx,rfl⟩) hm (fun x hx=>by obtain⟨v,q1,q2⟩:=I.low x hx;exact⟨v,q1,by omega⟩) I.inj
  | false=>
   rw [mP,aQ]
   obtain⟨up3,t3,t4⟩:=mB (N:=N) t2 c2 (by omega)
   obtain⟨up4,t5,t6⟩:=mB (N:=N) t4 c2 (by omega)
   refine Ok.eq (x:=(up3,n0 fm ((r2 (eH pcs.length h):Nat):Int) ((j:Nat):Int))) (by rw [t3,aB]) (Ok.eq t5 (Ok.ix h3 (Ok.ret ?_)))
   dsimp only
   rw [bP]
   refine fin up4 _ t6 (fun x hx=>?_) (by rw [kr];simp) (fun x hx=>?_) (fun x y hx hy e=>?_)
   ·have hne:x≠((r2 (eH pcs.length h):Nat):Int):=fun e=>by rw [e,hm] at hx;cases hx
    rw [kr,iG,aD hne,hx]
    exact⟨by simp,rfl⟩
   ·rw [iG]
    by_cases e:x= ((r2 (eH pcs.length h):Nat):Int)
    ·rw [aC e];exact⟨j,rfl,by omega⟩
    ·rw [aD e]
     rw [kr,bC e,Bool.false_or] at hx
     obtain⟨v,q1,q2⟩:=I.low x hx;exact⟨v,q1,by omega⟩
   ·rw [iG,iG] at e
    rw [kr] at hx hy
    by_cases ex:x= ((r2 (eH pcs.length h):Nat):Int)
    ·by_cases ey:y= ((r2 (eH pcs.length h):Nat):Int)
     ·rw [ex,ey]
     ·rw [aC ex,aD ey] at e
      rw [bC ey,Bool.false_or] at hy
      obtain⟨v,q1,q2⟩:=I.low y hy
      omega
    ·rw [bC ex,Bool.false_or] at hx
     by_cases ey:y= ((r2 (eH pcs.length h):Nat):Int)
     ·rw [aD ex,aC ey] at e
      obtain⟨v,q1,q2⟩:=I.low x hx
      omega
     ·rw [aD ex,aD ey] at e
      rw [bC ey,Bool.false_or] at hy
      exact I.inj x y hx hy e
theorem EX (b:l5 a ke eE r gs ofP ofB kU kA) {x y:cK} {h h':dO} (hx:mC a.aU (bY 0 eE) x=some h) (hy:mC a.aU (bY 0 eE) y=some h'): (su a.aU (bY 0 eE) r x=su a.aU (bY 0 eE) r y)↔r (eH (bY 0 eE).length h)=r (eH (bY 0 eE).length h'):=by
 have gp: ∀{z:cK} {h:dO},mC a.aU (bY 0 eE) z=some h->(live a.aU (bY 0 eE).length ((bY 0 eE).length+a.aU.length) r (bR ((bY 0 eE).length+a.aU.length) r))[gi a.aU (bY 0 eE).length ((bY 0 eE).length+a.aU.length) r (r (eH (bY 0 eE).length h))]? =some (r (eH (bY 0 eE).length h)):=by
  intro z h hz
  obtain⟨k,e,g1,g2⟩:=(AQ hz).num
  have hle:=b.F4.conn.le
  have hrr:=b.F4.conn.rr
  have hd: ∀i,i< (bY 0 eE).length+a.aU.length->r i∈bR ((bY 0 eE).length+a.aU.length) r:=fun i hi=>iT.2 ⟨mM.2 (by have:=hle i hi;omega),by rw [bQ];exact hrr i hi⟩
  unfold eH
  cases hB:h.bM with
  | true=>
   obtain⟨k1,k2⟩:=g1 hB
   rw [aC rfl,e,bP]
   exact(DU (hd _ (by omega)) (Ff k2 (by omega))).2
  | false=>
   have k1:=g2 hB
   rw [aD nL,e,bP]
   exact(DU (hd _ (by omega)) (Fe k1 (by omega))).2
 unfold su
 rw [hx,hy]
 constructor
 ·intro e
  simp only [Option.map_some,Option.some.injEq] at e
  have h1:=gp hx
  have h2:=gp hy
  rw [e,h2] at h1
  injection h1 with h1;exact h1.symm
 ·intro e
  simp only [Option.map_some,Option.some.injEq]
  rw [e]
theorem yx (b:l5 a ke eE r gs ofP ofB kU kA) (h1:fI N a=some (some (a.aJ,a.cW,a.aU,a.aZ,ke,bY 0 eE,dZ a.aU (bY 0 eE),gs,ofP,ofB,kU,kA),0)) {p q:fB} {i k:Nat} {x y:cK} (ep:dL a p= ((i:Nat):Int)) (hx:a.aZ[i]? =some x) (eq:dL a q= ((k:Nat):Int)) (hy:a.aZ[k]? =some y) (hN:4398046511104<=N):
  dU N a [] p q=some ((su a.aU (bY 0 eE) r x).isSome&&decide (su a.aU (bY 0 eE) r x=su a.aU (bY 0 eE) r y),0):=by
 have hf:=b.yo.2
 have hbl:=b.Cu.gb.len
 have hlf:=b.qL.yo
 obtain⟨r2,c,up,fm,c1,c2,c3⟩:=AV (N:=N) (r:=r) (kU:=kU) (kA:=kA) (bs:=a.aU) (pcs:=bY 0 eE) (ls:=a.aZ) (by omega) (by omega) (by omega) (by omega) b.F4.kU b.F4.kA hN
 have hil:=(aW.1 hx).1
 have hkl:=(aW.1 hy).1
 unfold dU
 rw [h1,aB,l6 b.qL p hN,l6 b.qL q hN]
 simp only [Am,bne_self_eq_false,aS,aB]
 have hz: ∀(p0:List (List aI)) (p1:List aI) (p2:List bM) (p3:List cK) (p4:List (List aA)) (p5:List aH) (p6:List (List Int)) (p7:List cI) (p8 p9 p10:List Int) (p11:List dO),gr N p0 p1 p2 p3 p4 p5 p6 p7 p8 p9 p10 p11 []=some 0:=fun _ _ _ _ _ _ _ _ _ _ _ _=>rfl
 rw [hz,aB,bne_self_eq_false,aS,ep,eq,bC (show ¬((i:Nat):Int)<0 by omega),bC (show ¬((k:Nat):Int)<0 by omega),Bool.or_false,aS,c1,aB]
 cases hhx:mC a.aU (bY 0 eE) x with
 | none=>
  have e1:su a.aU (bY 0 eE) r x=none:=by unfold su;rw [hhx];rfl
  rw [dK (c3.no i x hil hx hhx),aB,e1];rfl
 | some h=>
  obtain⟨q1,q2⟩:=c3.yes i x h hil hx hhx
  obtain⟨v,v1,_⟩:=c3.low _ q1
  have e1: (su a.aU (bY 0 eE) r x).isSome=true:=by unfold su;rw [hhx];rfl
  rw [dK q2,aB,v1,cB (show ((v:Nat):Int)>=0 by omega),aQ,aB,e1,Bool.true_and]
  cases hhy:mC a.aU (bY 0 eE) y with
  | none=>
   have e2:su a.aU (bY 0 eE) r y=none:=by unfold su;rw [hhy];rfl
   rw [dK (c3.no k y hkl hy hhy),aB,aB,bC (fun e=>by rw [e,e2] at e1;cases e1),show ((((v:Nat):Int))== -1)=false from by rw [beq_eq_false_iff_ne];omega]
  | some h'=>
   obtain⟨s1,s2⟩:=c3.yes k y h' hkl hy hhy
   obtain⟨w,w1,_⟩:=c3.low _ s1
   rw [dK s2,aB,w1,aB]
   have t1:=(yw (N:=N) hhx (by omega)).2
   have t2:=(yw (N:=N) hhy (by omega)).2
   have key: (((v:Nat):Int)= ((w:Nat):Int))↔su a.aU (bY 0 eE) r x=su a.aU (bY 0 eE) r y:=by
    rw [EX b hhx hhy,wR.uniq b.F4.conn c2 t1 t2]
    constructor
    ·intro e
     have:=c3.inj _ _ q1 s1 (by rw [v1,w1];exact e)
     omega
    ·intro e
     rw [e,w1] at v1;exact v1.symm
   congr 2
   rw [fQ,beq_iff_eq,bQ];exact key
end
def nJ:iD:=⟨[[⟨0,0,1,1⟩]],[],[],[⟨⟨[97]⟩,⟨[49]⟩,0,⟨0,0⟩⟩]⟩
def EY:fB:=⟨⟨[97]⟩,⟨[49]⟩⟩
def pE:aA:=⟨0,1,[0,1]⟩
theorem EZ:nV [⟨0,0,1,1⟩] [pE] where
 can:=⟨fun b hb=>by
  have e:b=bH pE:=by simpa using hb
  subst e
  exact⟨by decide,by decide,by unfold kY;decide,by decide⟩,List.pairwise_singleton _ _⟩
 cover:=fun x y=>by
  show lJ (if (0:Int)<=y/\y<1 then [0,1] else []) x= ((decide ((0:Int)<=x)&&decide (x<1))&&(decide ((0:Int)<=y)&&decide (y<1))||false)
  by_cases h: (0:Int)<=y/\y<1
  ·rw [aC h,cB h.1,cB h.2]
   unfold lJ
   rw [kG,kG,yg]
   by_cases h0: (0:Int)<=x
   ·by_cases h1: (1:Int)<=x
    ·rw [aC h0,aC h1,bC (show ¬x<1 by omega)];simp
    ·rw [aC h0,aD h1,cB h0,cB (show x<1 by omega)];rfl
   ·rw [aD h0,aD (show ¬(1:Int)<=x by omega),bC h0];rfl
  ·rw [aD h]
   have: (decide ((0:Int)<=y)&&decide (y<1))=false:=by
    rw [Bool.eq_false_iff];intro h';rw [bN,bQ,bQ] at h';exact h h'
   rw [this,Bool.and_false];rfl
 lim:=fun b hb=>by
  have e:b=bH pE:=by simpa using hb
  subst e
  exact⟨by decide,by decide,by decide⟩
theorem Jj:nV [] []:=⟨dS.nil,fun _ _=>rfl,fun b hb=>by cases hb⟩
theorem Jk:iB [⟨0,0,1,1⟩]=0:=qI.2 ⟨by decide,fun k a b h1 h2=>(by cases k <;> simp at h2),⟨_,EZ,rfl⟩⟩
theorem Jl:iB []=0:=qI.2 ⟨by decide,fun k a b h1 h2=>(by simp at h2),⟨_,Jj,rfl⟩⟩
theorem F7:qM nJ:=⟨by decide,by decide,by decide,by decide,by decide,by
 intro x hx
 have e:x= ⟨⟨[97]⟩,⟨[49]⟩,0,⟨0,0⟩⟩:=by simpa [nJ] using hx
 subst e;decide⟩
theorem F8:iP nJ=0:=by
 have e1:nJ.aJ.findSome? wT=none:=by
  show [[(⟨0,0,1,1⟩:aI)]].findSome? wT=none
  have:wT [⟨0,0,1,1⟩]=none:=by unfold wT;rw [Jk];simp
  simp [this]
 have e2:kL nJ=0:=by decide
 have e3:kd nJ=0:=by
  unfold kd
  have:mz nJ.aZ.length (kx nJ)=none:=iF.2 fun k hk=>by
   have hk:k<1:=hk
   obtain rfl:k=0:=by omega
   unfold kx
   have hx0:nJ.aZ[0]? =some ⟨⟨[97]⟩,⟨[49]⟩,0,⟨0,0⟩⟩:=rfl
   rw [hx0,Option.bind_some,aC (by decide),aC (by decide),aD (by rintro⟨h,_⟩;omega)]
  rw [this,aD (by decide)];rfl
 have e4: ¬uJ nJ:=by
  rintro⟨i,k,x,y,_,h,_⟩
  simp [nJ] at h
 unfold iP
 rw [aD (by decide),aD (by decide)]
 unfold DY
 rw [e1]
 show (if iB []≠0 then iB [] else yt nJ)=0
 rw [Jl,aD (by simp)]
 unfold yt
 rw [aD (by decide),e2,aD (by simp),e3,aD (by simp),aD e4]
theorem HB {ke:List (List aA)} {eE:List (List (List aA))} (D:sm nJ.aJ nJ.aU nJ.aJ.length ke eE):ke= [[pE]]/\eE= [[[pE]]]:=by
 obtain⟨s,rfl⟩:=List.length_eq_one_iff.1 D.len
 obtain⟨ps,rfl⟩:=List.length_eq_one_iff.1 D.AN
 have hd:=D.dr 0 [⟨0,0,1,1⟩] s (by decide) rfl rfl
 have hs:s= [pE]:=zL hd.can EZ.can fun x y=>by
  rw [hd.cover,EZ.cover]
  show (_&& !vQ [] x y)=_
  simp [vQ]
 subst hs
 obtain⟨u,hu⟩:=D.pt 0 [pE] ps (by decide) rfl rfl
 have u0:u 0=0:=Nat.le_zero.1 (hu.join.le 0 (by decide))
 have hh:bR (aL [pE]).length u= [0]:=by
  show (List.range 1).filter (fun k=>decide (u k=k))= [0]
  simp [List.range_succ,u0]
 obtain⟨p,rfl⟩:=List.length_eq_one_iff.1 (show ps.length=1 by rw [hu.len,hh];rfl)
 have hp:=hu.each 0 0 p (by rw [hh];rfl) rfl
 have hc:lr (aL [pE]) (aL [pE]).length u 0= [⟨0,0,1,1⟩]:=by
  show ((List.range 1).filter (fun i=>decide (u i=0))).filterMap (fun i=>(aL [pE])[i]?)=_
  simp [List.range_succ,u0];rfl
 rw [hc] at hp
 exact⟨rfl,by rw [hp.unique EZ]⟩
section
variable {N:Nat}
theorem BD (hN:4398046511104<=N):fL N=some true:=by
 have key:dU N nJ [] EY EY=some (true,0):=by
  obtain⟨x,hx,hI⟩:=xy (N:=N) F7 hN
  rcases hI with ⟨he,_⟩ | ⟨_,hg,hcl,ke,eE,D,⟨hf,_⟩ | ⟨hf,r,gs,ofP,ofB,kU,kA,hC,rfl⟩⟩
  ·exact absurd F8 he
  ·obtain⟨rfl,rfl⟩:=HB D
   exact absurd ⟨by decide,by decide⟩ hf
  ·have b:l5 nJ ke eE r gs ofP ofB kU kA:=⟨hg,hcl,D,hf,hC⟩
   have e:dL nJ EY= ((0:Nat):Int):=by
    rcases nZ nJ EY with ⟨_,h⟩ | ⟨k,x,h,hk,_⟩
    ·exact absurd rfl (h ⟨⟨[97]⟩,⟨[49]⟩,0,⟨0,0⟩⟩ (by simp [nJ]))
    ·have:k<1:=(aW.1 hk).1
     rw [h];omega
   have hl:nJ.aZ[0]? =some ⟨⟨[97]⟩,⟨[49]⟩,0,⟨0,0⟩⟩:=rfl
   rw [yx b hx e hl e hl hN]
   obtain⟨rfl,rfl⟩:=HB D
   have hh:mC nJ.aU (bY 0 [[[pE]]]) ⟨⟨[97]⟩,⟨[49]⟩,0,⟨0,0⟩⟩=some ⟨false,0⟩:=by decide
   unfold su
   rw [hh];simp
 unfold fL
 have e:dU N (⟨([([(⟨0,0,1,1⟩:aI)]: (List aI))]: (List (List aI))),([]: (List aI)),([]: (List bM)),([(⟨⟨[97]⟩,⟨[49]⟩,0,⟨0,0⟩⟩:cK)]: (List cK))⟩:iD) ([]: (List eT)) (⟨⟨[97]⟩,⟨[49]⟩⟩:fB) (⟨⟨[97]⟩,⟨[49]⟩⟩:fB)=some (true,0):=key
 rw [e,aB];rfl
end
end Go.Gk
namespace Go.Gk
open Go Classical
def tK (n:Nat) (fl:List eT) (v:Nat):Prop:=∃x∈fl,x.Open=true/\eH n x.dO=v
structure HC (bs:List bM) (n m:Nat) (fl:List eT):Prop where
 op: ∀x∈fl,x.Open=true->DV bs n m x.dO
 br: ∀x∈fl,x.Open=false->∃i k:Nat,x.A= ((i:Nat):Int)/\x.B= ((k:Nat):Int)/\i<k/\k<n
def HD (n:Nat) (tch:List (List Int)) (fl:List eT) (i j:Nat):Prop:=Lk n tch i j\/∃x∈fl,x.Open=false/\x.A= ((i:Nat):Int)/\x.B= ((j:Nat):Int)
def HK (n:Nat) (tch:List (List Int)) (fl:List eT) (i j:Nat):Prop:=HD n tch fl i j/\¬tK n fl i/\¬tK n fl j
structure tL (t:Nat) (L:Nat->Nat->Prop) (r:Nat->Nat):Prop where
 le: ∀i,i<t->r i<=i
 rr: ∀i,i<t->r (r i)=r i
 co: ∀i j,L i j->r i=r j
 fi: ∀S:Nat->Prop,(∀i j,L i j->(S i↔S j))->∀i j,i<t->j<t->r i=r j->S i->S j
theorem tL.uniq {t:Nat} {L:Nat->Nat->Prop} {r1 r2:Nat->Nat} (h1:tL t L r1) (h2:tL t L r2) {i j:Nat} (hi:i<t) (hj:j<t):r1 i=r1 j↔r2 i=r2 j:=by
 have key: ∀{r1 r2:Nat->Nat},tL t L r1->tL t L r2->r1 i=r1 j->r2 i=r2 j:=fun{r1 r2} h1 h2 e=>
  (h1.fi (fun x=>r2 i=r2 x) (fun a b hab=>by rw [h2.co a b hab]) i j hi hj e) rfl
 exact⟨key h1 h2,key h2 h1⟩
noncomputable def nC (bs:List bM) (pcs:List aH) (fl:List eT) (l:cK):Option Nat:=(mC bs pcs l).bind fun h=>if tK pcs.length fl (eH pcs.length h) then none else some (eH pcs.length h)
section
variable {N:Nat} {r:Nat->Nat} {kU:List Int} {kA:List dO}
theorem F9 {bs:List bM} {n m:Nat} {h:dO} (hh:DV bs n m h) (hn:n+m<=1000000000):fJ N h ((n:Nat):Int)=some ((eH n h:Nat):Int)/\eH n h<n+m:=by
 obtain⟨k,e,h1,h2⟩:=hh.num
 unfold fJ eH
 cases hB:h.bM with
 | true=>
  have:=(h1 hB).1
  rw [aQ,aC rfl,e,bP,wrap_add (by omega)]
  exact⟨rfl,by omega⟩
 | false=>
  have:=h2 hB
  rw [aS,aD nL,e,bP]
  exact⟨rfl,by omega⟩
def Ec (t:Nat) (L:Nat->Nat->Prop) (op:Nat->Prop) (done:Nat->Nat->Prop) (u:List Int):Prop:=
 ∃r E,UF t u r/\l3 r E/\uv t r E/\(∀p∈E,L p.1 p.2/\¬op p.1/\¬op p.2)/\∀i j,done i j->¬op i->¬op j->(i,j)∈E
theorem Ec.mono {t:Nat} {L:Nat->Nat->Prop} {op:Nat->Prop} {d d':Nat->Nat->Prop} {u:List Int} (h:Ec t L op d u) (hd: ∀i j,d' i j->d i j):Ec t L op d' u:=by
 obtain⟨r,E,h1,h2,h3,h4,h5⟩:=h
 exact⟨r,E,h1,h2,h3,h4,fun i j hij=>h5 i j (hd i j hij)⟩
theorem D0 {t:Nat} {L:Nat->Nat->Prop} {op:Nat->Prop} {done:Nat->Nat->Prop} {u:List Int} {om:List (Int×Bool)} (hom: ∀v:Nat,cZ om ((v:Nat):Int) false=true↔op v) (hI:Ec t L op done u) {i k:Nat} (hi:i<t) (hk:k<t) (ht:t<N) (hL:L i k):
  Ok (gu N ((i:Nat):Int) ((k:Nat):Int) om u) (Ec t L op (fun a b=>done a b\/(a=i/\b=k))):=by
 obtain⟨r,E,h1,h2,h3,h4,h5⟩:=hI
 have skip:op i\/op k->Ec t L op (fun a b=>done a b\/(a=i/\b=k)) u:=fun ho=>⟨r,E,h1,h2,h3,h4,fun a b hab ha hb=>by
  rcases hab with hab | ⟨rfl,rfl⟩
  ·exact h5 a b hab ha hb
  ·rcases ho with ho | ho
   ·exact absurd ho ha
   ·exact absurd ho hb⟩
 unfold gu
 by_cases ho:op i
 ·refine Ok.eq (x:=false) (by rw [(hom i).2 ho];rfl) (Ok.ret (skip (.inl ho)))
 ·have e1:cZ om ((i:Nat):Int) false=false:=by rw [Bool.eq_false_iff];exact fun h=>ho ((hom i).1 h)
  by_cases hp:op k
  ·refine Ok.eq (x:=false) (by rw [e1,(hom k).2 hp];rfl) (Ok.ret (skip (.inr hp)))
  ·have e2:cZ om ((k:Nat):Int) false=false:=by rw [Bool.eq_false_iff];exact fun h=>hp ((hom k).1 h)
   refine Ok.eq (x:=true) (by rw [e1,e2];rfl) ?_
   obtain⟨u2,a1,a2⟩:=Bt (N:=N) h1 hi hk ht
   rw [aQ,a1]
   refine Ok.ret ⟨_,_,a2,h2.join i k (h1.rr i hi),h3.join hi hk,fun p hp'=>?_,fun a b hab ha hb=>?_⟩
   ·rcases cJ.1 hp' with h | h
    ·exact h4 p h
    ·simp at h;subst h;exact⟨hL,ho,hp⟩
   ·rcases hab with hab | ⟨rfl,rfl⟩
    ·exact List.mem_append_left _ (h5 a b hab ha hb)
    ·simp
structure wU (bs:List bM) (pcs:List aH) (fl:List eT) (ls:List cK) (r2:Nat->Nat) (j:Nat) (up:List Int) (fm:List (Int×Int)) (out:List Int):Prop where
 uf:UF (pcs.length+bs.length) up r2
 len:out.length=ls.length
 no: ∀i l,i<j->ls[i]? =some l->nC bs pcs fl l=none->out[i]? =some (-1)
 yes: ∀i l v,i<j->ls[i]? =some l->nC bs pcs fl l=some v->iu fm ((r2 v:Nat):Int)=true/\out[i]? =some (cZ fm ((r2 v:Nat):Int) 0)
 low: ∀x,iu fm x=true->∃(v:Nat) (l:cK) (u:Nat),cZ fm x 0= ((v:Nat):Int)/\v<j/\ls[v]? =some l/\nC bs pcs fl l=some u/\((r2 u:Nat):Int)=x
 inj: ∀x y,iu fm x=true->iu fm y=true->cZ fm x 0=cZ fm y 0->x=y
theorem zW {bs:List bM} {pcs:List aH} {ls:List cK} {fl:List eT} (hfl:HC bs pcs.length bs.length fl) (hfn:fl.length<=1073741824) (hn:pcs.length+bs.length<=1000000000) (hp:pcs.length<=1073741824) (hbl:bs.length<=1073741824) (hl:ls.length<=1073741824) (hof:kU=ls.map (yC bs pcs r)) (hat:kA=ls.map (fun l=>(mC bs pcs l).getD ⟨false,0⟩)) (hN:4398046511104<=N):
  ∃r2 c up fm,dF N bs ls pcs (dZ bs pcs) kU kA fl=some c/\tL (pcs.length+bs.length) (HK pcs.length (dZ bs pcs) fl) r2/\wU bs pcs fl ls r2 ls.length up fm c:=by
 suffices h:Ok (dF N bs ls pcs (dZ bs pcs) kU kA fl) (fun c=>∃r2 up fm,tL (pcs.length+bs.length) (HK pcs.length (dZ bs pcs) fl) r2/\wU bs pcs fl ls r2 ls.length up fm c) by
  obtain⟨c,h1,r2,up,fm,h2,h3⟩:=h
  exact⟨r2,c,up,fm,h1,h2,h3⟩
 unfold dF
 refine Ok.bind (Ok.jS (fun q om=>∀v:Nat,cZ om ((v:Nat):Int) false=true↔tK pcs.length (fl.take q) v) (by omega) (fun v=>⟨fun h=>(by cases h),fun⟨x,hx,_⟩=>(by simp at hx)⟩) (fun q om hq hI=>?_)) ?_
 ·have hx:fl[q]? =some fl[q]:=aK hq
  have hts:=fA hq
  refine Ok.ix hx ?_
  cases ho:fl[q].Open with
  | true=>
   obtain⟨c1,_⟩:=F9 (N:=N) (hfl.op _ (cM hq) ho) hn
   refine Ok.eq (x:=n0 om ((eH pcs.length fl[q].dO:Nat):Int) true) (by rw [aQ,c1,aB]) (Ok.ret fun v=>?_)
   rw [iG,hts]
   by_cases e: ((v:Nat):Int)= ((eH pcs.length fl[q].dO:Nat):Int)
   ·rw [aC e]
    exact⟨fun _=>⟨fl[q],List.mem_append_right _ (List.mem_singleton.2 rfl),ho,by omega⟩,fun _=>rfl⟩
   ·rw [aD e,hI v]
    constructor
    ·rintro⟨x,hx,h1,h2⟩;exact⟨x,List.mem_append_left _ hx,h1,h2⟩
    ·rintro⟨x,hx,h1,h2⟩
     rcases cJ.1 hx with hx | hx
     ·exact⟨x,hx,h1,h2⟩
     ·simp at hx;subst hx;exact absurd (by rw [h2]) e
  | false=>
   refine Ok.eq (x:=om) rfl (Ok.ret fun v=>?_)
   rw [hI v,hts]
   constructor
   ·rintro⟨x,hx,h1,h2⟩;exact⟨x,List.mem_append_left _ hx,h1,h2⟩
   ·rintro⟨x,hx,h1,h2⟩
    rcases cJ.1 hx with hx | hx
    ·exact⟨x,hx,h1,h2⟩
    ·simp at hx;subst hx;rw [ho] at h1;cases h1
 intro om hom
 rw [fy] at hom
 rw [wrap_add (by omega)]
 obtain⟨up0,u1,u2⟩:=qB (N:=N) (n:=pcs.length+bs.length) (by omega)
 refine Ok.eq u1 ?_
 have htl: (dZ bs pcs).length=bs.length:=by unfold dZ;simp
 have hto:=wm (bs:=bs) (pcs:=pcs) (by omega)
 refine Ok.bind (Ok.jS (fun q u=>Ec (pcs.length+bs.length) (HD pcs.length (dZ bs pcs) fl) (tK pcs.length fl) (fun a b=>∃k l,k<q/\(dZ bs pcs)[k]? =some l/\((a:Nat):Int)∈l/\b=pcs.length+k) u) (by omega)
  ⟨_,_,u2,l3.id,uv.id _,fun p hp=>(by cases hp),fun i j ⟨k,l,hk,_⟩=>by omega⟩ (fun q u hq hI=>?_)) ?_
 ·have hqx: (dZ bs pcs)[q]? =some (dZ bs pcs)[q]:=aK hq
  obtain⟨hl1,hl2⟩:=hto _ (cM hq)
  refine Ok.ix hqx ?_
  rw [wrap_add (by omega)]
  refine Ok.bind (Ok.jS (fun t u=>Ec (pcs.length+bs.length) (HD pcs.length (dZ bs pcs) fl) (tK pcs.length fl) (fun a b=>(∃k l,k<q/\(dZ bs pcs)[k]? =some l/\((a:Nat):Int)∈l/\b=pcs.length+k)\/(((a:Nat):Int)∈(dZ bs pcs)[q].take t/\b=pcs.length+q)) u) (by omega)
   (hI.mono fun i j h=>by rcases h with h | ⟨h,_⟩;exact h;simp at h) (fun t u ht hJ=>?_)) (fun u hJ=>Ok.ret (hJ.mono fun i j ⟨k,l,hk,h1,h2,h3⟩=>?_))
  ·have htx: (dZ bs pcs)[q][t]? =some (dZ bs pcs)[q][t]:=aK ht
   obtain⟨i,hi,e⟩:=hl2 _ (cM ht)
   refine Ok.ix htx ?_
   rw [e]
   refine Ok.bind (D0 hom hJ (i:=i) (k:=pcs.length+q) (by omega) (by omega) (by omega) (.inl ⟨q,_,hqx,by rw [<-e];exact cM ht,rfl⟩)) (fun u2 hu2=>Ok.ret (hu2.mono fun a b h=>?_))
   rw [fA ht] at h
   rcases h with h | ⟨h,hb⟩
   ·exact .inl (.inl h)
   ·rcases cJ.1 h with h | h
    ·exact .inl (.inr ⟨h,hb⟩)
    ·rw [List.mem_singleton,e] at h;exact .inr ⟨by omega,hb⟩
  ·by_cases hkq:k<q
   ·exact .inl ⟨k,l,hkq,h1,h2,h3⟩
   ·have:k=q:=by omega
    subst this
    rw [hqx] at h1;injection h1 with h1;subst h1
    exact .inr ⟨by rw [fy];exact h2,h3⟩
 intro u3 h3
 refine Ok.bind (Ok.jS (fun q u=>Ec (pcs.length+bs.length) (HD pcs.length (dZ bs pcs) fl) (tK pcs.length fl) (fun a b=>Lk pcs.length (dZ bs pcs) a b\/∃x∈fl.take q,x.Open=false/\x.A= ((a:Nat):Int)/\x.B= ((b:Nat):Int)) u) (by omega)
  (h3.mono fun i j h=>by
   rcases h with ⟨k,l,h1,h2,h3⟩ | ⟨x,hx,_⟩
   ·exact⟨k,l,(aW.1 h1).1,h1,h2,h3⟩
   ·simp at hx) (fun q u hq hI=>?_)) ?_
 ·have hx:fl[q]? =some fl[q]:=aK hq
  have hts:=fA hq
  refine Ok.ix hx ?_
  cases ho:fl[q].Open with
  | true=>
   refine Ok.eq (x:=u) rfl (Ok.ret (hI.mono fun a b h=>?_))
   rw [hts] at h
   rcases h with h | ⟨x,hx,h1,h2⟩
   ·exact .inl h
   ·rcases cJ.1 hx with hx | hx
    ·exact .inr ⟨x,hx,h1,h2⟩
    ·simp at hx;subst hx;rw [ho] at h1;cases h1
  | false=>
   obtain⟨i,k,e1,e2,e3,e4⟩:=hfl.br _ (cM hq) ho
   rw [mP,aQ,e1,e2]
   refine Ok.bind (P:=Ec (pcs.length+bs.length) (HD pcs.length (dZ bs pcs) fl) (tK pcs.length fl) (fun a b=>(Lk pcs.length (dZ bs pcs) a b\/∃x∈fl.take q,x.Open=false/\x.A= ((a:Nat):Int)/\x.B= ((b:Nat):Int))\/(a=i/\b=k))) (Ok.bind (D0 hom hI (i:=i) (k:=k) (by omega) (by omega) (by omega) (.inr ⟨fl[q],cM hq,ho,e1,e2⟩)) (fun u2 hu2=>Ok.ret hu2)) (fun u2 hu2=>Ok.ret (hu2.mono fun a b h=>?_))
   rw [hts] at h
   rcases h with h | ⟨x,hx,h1,h2,h3⟩
   ·exact .inl (.inl h)
   ·rcases cJ.1 hx with hx | hx
    ·exact .inl (.inr ⟨x,hx,h1,h2,h3⟩)
    ·simp at hx;subst hx
     rw [e1] at h2;rw [e2] at h3
     exact .inr ⟨by omega,by omega⟩
 rintro up1 ⟨r2,E,v1,v2,v3,v4,v5⟩
 rw [fy] at v5
 have hC:tL (pcs.length+bs.length) (HK pcs.length (dZ bs pcs) fl) r2:=
  ⟨v1.le,v1.rr,fun i j h=>v2 (i,j) (v5 i j h.1 h.2.1 h.2.2),fun S hS i j hi hj=>v3 S (fun p hp=>hS p.1 p.2 (v4 p hp)) i j hi hj⟩
 refine Ok.eq (pd 0 (by omega)) ?_
 have jy:kA.length=ls.length:=by rw [hat,gM]
 refine Ok.bind (Ok.jS (fun j (st:List Int×List (Int×Int)×List Int)=>wU bs pcs fl ls r2 j st.1 st.2.1 st.2.2) (by omega) ⟨v1,by simp,fun i l h=>by omega,fun i l h h1=>by omega,fun x hx=>(by cases hx),fun x y hx=>(by cases hx)⟩ ?_) (fun st I=>Ok.ret ⟨r2,st.1,st.2.1,hC,by rw [<-jy];exact I⟩)
 rintro j ⟨up,fm,out⟩ hj I
 rw [jy] at hj
 dsimp only at I ⊢
 have hx:ls[j]? =some ls[j]:=aK hj
 have h1:kA[j]? =some ((mC bs pcs ls[j]).getD ⟨false,0⟩):=by rw [hat,gz,hx];rfl
 have h2:kU[j]? =some (yC bs pcs r ls[j]):=by rw [hof,gz,hx];rfl
 have h3:out[j]? =some (out[j]'(by rw [I.len];exact hj)):=aK _
 have hjo:j<out.length:=by rw [I.len];exact hj
 have hx0:=hx
 have dead:nC bs pcs fl ls[j]=none->wU bs pcs fl ls r2 (j+1) up fm (out.set j (-1)):=fun hnd=>by
  refine⟨I.uf,by rw [gC];exact I.len,fun i l hi hil hn=>?_,fun i l v hi hil hs=>?_,fun x hx=>?_,I.inj⟩
  ·by_cases e:i=j
   ·subst e;rw [List.getElem?_set_self hjo]
   ·rw [List.getElem?_set_ne (Ne.symm e)];exact I.no i l (by omega) hil hn
  ·by_cases e:i=j
   ·subst e;rw [hx] at hil;injection hil with hil;subst hil;rw [hnd] at hs;cases hs
   ·rw [List.getElem?_set_ne (Ne.symm e)];exact I.yes i l v (by omega) hil hs
  ·obtain⟨v,l,u,q1,q2,q3⟩:=I.low x hx;exact⟨v,l,u,q1,by omega,q3⟩
 refine Ok.ix h1 ?_
 cases hh:mC bs pcs ls[j] with
 | none=>
  have e1:yC bs pcs r ls[j] = -1:=by unfold yC su;rw [hh];rfl
  refine Ok.eq (x:=0) rfl (Ok.eq (x:=true) (by rw [dK h2,aB,e1];rfl) ?_)
  refine Ok.ix h3 (Ok.ret ?_)
  dsimp only
  rw [bP]
  exact dead (by unfold nC;rw [hh];rfl)
 | some h=>
  obtain⟨c1,c2⟩:=yw (N:=N) hh hn
  have e1: ∃g:Nat,yC bs pcs r ls[j]= ((g:Nat):Int):=by unfold yC su;rw [hh];exact⟨_,rfl⟩
  obtain⟨g,e1⟩:=e1
  refine Ok.eq c1 ?_
  by_cases hop:tK pcs.length fl (eH pcs.length h)
  ·refine Ok.eq (x:=true) (by rw [dK h2,aB,e1,bC (show ¬((g:Nat):Int)<0 by omega),aS,(hom _).2 hop]) ?_
   refine Ok.ix h3 (Ok.ret ?_)
   dsimp only
   rw [bP]
   exact dead (by unfold nC;rw [hh,Option.bind_some,aC hop])
  have hnd:nC bs pcs fl ls[j]=some (eH pcs.length h):=by unfold nC;rw [hh,Option.bind_some,aD hop]
  refine Ok.eq (x:=false) (by rw [dK h2,aB,e1,bC (show ¬((g:Nat):Int)<0 by omega),aS];rw [Bool.eq_false_iff.2 fun h=>hop ((hom _).1 h)]) ?_
  rw [aS]
  obtain⟨up2,t1,t2⟩:=mB (N:=N) I.uf c2 (by omega)
  refine Ok.eq t1 ?_
  dsimp only
  have fin: ∀(up3:List Int) (fm2:List (Int×Int)),UF (pcs.length+bs.length) up3 r2->(∀x,iu fm x=true->iu fm2 x=true/\cZ fm2 x 0=cZ fm x 0)->iu fm2 ((r2 (eH pcs.length h):Nat):Int)=true->(∀x,iu fm2 x=true->∃(v:Nat) (l:cK) (u:Nat),cZ fm2 x 0= ((v:Nat):Int)/\v<j+1/\ls[v]? =some l/\nC bs pcs fl l=some u/\((r2 u:Nat):Int)=x)->(∀x y,iu fm2 x=true->iu fm2 y=true->cZ fm2 x 0=cZ fm2 y 0->x=y)->
    wU bs pcs fl ls r2 (j+1) up3 fm2 (out.set j (cZ fm2 ((r2 (eH pcs.length h):Nat):Int) 0)):=fun up3 fm2 g1 g2 g3 g4 g5=>by
   refine⟨g1,by rw [gC];exact I.len,fun i l hi hil hn=>?_,fun i l h' hi hil hs=>?_,g4,g5⟩
   ·by_cases e:i=j
    ·subst e;rw [hx] at hil;injection hil with hil;subst hil;rw [hnd] at hn;cases hn
    ·rw [List.getElem?_set_ne (Ne.symm e)];exact I.no i l (by omega) hil hn
   ·by_cases e:i=j
    ·subst e;rw [hx] at hil;injection hil with hil;subst hil;rw [hnd] at hs;injection hs with hs;subst hs
     exact⟨g3,by rw [List.getElem?_set_self hjo]⟩
    ·obtain⟨q1,q2⟩:=I.yes i l h' (by omega) hil hs
     rw [List.getElem?_set_ne (Ne.symm e),q2,(g2 _ q1).2]
     exact⟨(g2 _ q1).1,rfl⟩
  cases hm:iu fm ((r2 (eH pcs.length h):Nat):Int) with
  | true=>
   rw [l9,aS]
   obtain⟨up3,t3,t4⟩:=mB (N:=N) t2 c2 (by omega)
   refine Ok.eq (x:=(up2,fm)) rfl (Ok.eq t3 (Ok.ix h3 (Ok.ret ?_)))
   dsimp only
   rw [bP]
   exact fin up3 fm t4 (fun x hx=>⟨hx,rfl⟩) hm (fun x hx=>by obtain⟨v,l,u,q1,q2,q3⟩:=I.low x hx;exact⟨v,l,u,q1,by omega,q3⟩) I.inj
  | false=>
   rw [mP,aQ]
   obtain⟨up3,t3,t4⟩:=mB (N:=N) t2 c2 (by omega)
   obtain⟨up4,t5,t6⟩:=mB (N:=N) t4 c2 (by omega)
   refine Ok.eq (x:=(up3,n0 fm ((r2 (eH pcs.length h):Nat):Int) ((j:Nat):Int))) (by rw [t3,aB]) (Ok.eq t5 (Ok.ix h3 (Ok.ret ?_)))
   dsimp only
   rw [bP]
   refine fin up4 _ t6 (fun x hx=>?_) (by rw [kr];simp) (fun x hx=>?_) (fun x y hx hy e=>?_)
   ·have hne:x≠((r2 (eH pcs.length h):Nat):Int):=fun e=>by rw [e,hm] at hx;cases hx
    rw [kr,iG,aD hne,hx]
    exact⟨by simp,rfl⟩
   ·rw [iG]
    by_cases e:x= ((r2 (eH pcs.length h):Nat):Int)
    ·rw [aC e];exact⟨j,ls[j],_,rfl,by omega,hx0,hnd,e.symm⟩
    ·rw [aD e]
     rw [kr,bC e,Bool.false_or] at hx
     obtain⟨v,l,u,q1,q2,q3⟩:=I.low x hx;exact⟨v,l,u,q1,by omega,q3⟩
   ·rw [iG,iG] at e
    rw [kr] at hx hy
    by_cases ex:x= ((r2 (eH pcs.length h):Nat):Int)
    ·by_cases ey:y= ((r2 (eH pcs.length h):Nat):Int)
     ·rw [ex,ey]
     ·rw [aC ex,aD ey] at e
      rw [bC ey,Bool.false_or] at hy
      obtain⟨v,_,_,q1,q2,_⟩:=I.low y hy
      omega
    ·rw [bC ex,Bool.false_or] at hx
     by_cases ey:y= ((r2 (eH pcs.length h):Nat):Int)
     ·rw [aD ex,aC ey] at e
      obtain⟨v,_,_,q1,q2,_⟩:=I.low x hx
      omega
     ·rw [aD ex,aD ey] at e
      rw [bC ey,Bool.false_or] at hy
      exact I.inj x y hx hy e
def z9 (n:Nat) (k:Int):Bool:=decide (k>=0)&&decide (k<=((n:Nat):Int) - 1)
def sw (bs:List bM) (n:Nat) (x:eT):Bool:=bif x.Open then (bif x.dO.bM then z9 bs.length x.dO.Number&&uX bs x.dO.Number.toNat else z9 n x.dO.Number) else z9 n x.A&&z9 n x.B
def BE (x:eT):Bool:=bif x.Open then x.A != 0||x.B != 0 else !decide (x.dO= ⟨false,0⟩)
def uL (bs:List bM) (n:Nat) (fl:List eT) (k:Nat):Option Int:=(fl[k]?).bind fun x=>
 if BE x=true then some 3 else if sw bs n x=false then some 9 else if (!x.Open&&decide (x.B<=x.A))=true then some 8 else if x∈fl.take k then some 7 else none
def mE (bs:List bM) (n:Nat) (fl:List eT):Int:=if 20<fl.length then 2 else (mz fl.length (uL bs n fl)).getD 0
theorem wV {l:List eT} {x:eT} (hl:l.length<=1048576):gH N l x=some (decide (x∈l)):=by
 have e:gH N l x=t9 l x:=rfl
 rw [e,yd (by omega)]
theorem ov {a1:List (List aI)} {a2:List aI} {bs:List bM} {a4:List cK} {a5:List (List aA)} {pcs:List aH} {a7:List (List Int)} {a8:List cI} {a9 a10 a11:List Int} {a12:List dO} {fl:List eT} (hp:pcs.length<=1073741824) (hb:bs.length<=1073741824) (hf:fl.length<=1048576):
  gr N a1 a2 bs a4 a5 pcs a7 a8 a9 a10 a11 a12 fl=some (mE bs pcs.length fl):=by
 unfold gr mE
 by_cases h20:20<fl.length
 ·rw [cB (show ((fl.length:Nat):Int)>20 by omega),aQ,aC h20]
 rw [bC (show ¬((fl.length:Nat):Int)>20 by omega),aS,aD h20]
 have w: ∀(n:Nat) (k:Int),n<=1073741824->lz N k 0 (IntKind.wrap .i64 (((n:Nat):Int) - 1))=some (z9 n k):=fun n k hn=>by
  rw [eI (by omega) (by omega)];rfl
 have w1: ∀k:Int,eV N k pcs=some (z9 pcs.length k):=fun k=>by
  unfold eV;rw [w _ _ hp];rfl
 have assoc: ∀{β:Type} (a:Option Bool) (b c:Bool->Option Bool) (g:Bool->Option β),(a.bind fun s=>(b s).bind fun t=>(c t).bind g)= (a.bind fun s=>(b s).bind c).bind g:=fun a b c g=>by
  cases a with
  | none=>rfl
  | some s=>show (b s).bind _= ((b s).bind c).bind g;cases b s <;> rfl
 rw [mh (uL bs pcs.length fl) (by omega) (fun k hk _=>by
  have hx:fl[k]? =some fl[k]:=aK hk
  have hs:rG fl 0 ((k:Nat):Int)=some (fl.take k):=by
   unfold rG
   rw [aC ⟨by omega,by omega,by omega⟩];simp
  rw [dK hx,aB]
  unfold uL
  rw [hx,Option.bind_some]
  have e1: (bif (fl[k].Open&&((fl[k].A != 0)||(fl[k].B != 0))) then (some true) else (bif (!fl[k].Open) then (some (!(decide (fl[k].dO= (⟨false,0⟩:dO))))) else (some false)))=some (BE fl[k]):=by
   unfold BE
   cases fl[k].Open with
   | true=>cases (fl[k].A != 0||fl[k].B != 0) <;> rfl
   | false=>rfl
  rw [e1,aB]
  cases hfm:BE fl[k] with
  | true=>rw [aQ,aC rfl];rfl
  | false=>
   rw [aS,aD nL,w1,w1,w1,w _ _ hb]
   have e2: (((some (z9 pcs.length fl[k].A)).bind fun x117=>bif x117 then ((some (z9 pcs.length fl[k].B)).bind fun x119=>some x119) else (some false)).bind fun s116=>(bif fl[k].Open then ((some (z9 pcs.length fl[k].dO.Number)).bind fun x122=>some x122) else (some s116)).bind fun s121=>(bif (fl[k].Open&&fl[k].dO.bM) then (((some (z9 bs.length fl[k].dO.Number)).bind fun x143=>bif x143 then ((idx bs fl[k].dO.Number).bind fun x145=>some x145.gE) else (some false)).bind fun s142=>some s142) else (some s121)):Option Bool)=some (sw bs pcs.length fl[k]):=by
    unfold sw
    simp only [aB]
    cases fl[k].Open with
    | false=>
     cases z9 pcs.length fl[k].A <;> rfl
    | true=>
     simp only [aQ,Bool.true_and]
     cases hA:z9 pcs.length fl[k].A <;> simp only [aQ,aS,aB]
     all_goals
      cases fl[k].dO.bM with
      | false=>rfl
      | true=>
       simp only [aQ]
       cases hB:z9 bs.length fl[k].dO.Number with
       | false=>rfl
       | true=>
        unfold z9 at hB
        rw [bN,bQ,bQ] at hB
        have hlt:fl[k].dO.Number.toNat<bs.length:=by omega
        have hbx:bs[fl[k].dO.Number.toNat]? =some bs[fl[k].dO.Number.toNat]:=aK hlt
        have hi:=dK hbx
        rw [Int.toNat_of_nonneg hB.1] at hi
        rw [aQ,hi,aB,aB,Bool.true_and]
        unfold uX
        rw [hbx];rfl
   refine(assoc _ _ _ _).trans ((congrArg (fun o=>Option.bind o _) e2).trans ?_)
   rw [aB]
   cases sw bs pcs.length fl[k] with
   | false=>rfl
   | true=>
    rw [l9,aS,aD (by decide)]
    cases (!fl[k].Open&&decide (fl[k].B<=fl[k].A)) with
    | true=>rfl
    | false=>
     rw [aS,aD nL,hs,aB,wV (by rw [cP];omega),aB]
     by_cases hm:fl[k]∈fl.take k
     ·rw [cB hm,aQ,aC hm];rfl
     ·rw [bC hm,aS,aD hm];rfl),aB]
 cases mz fl.length (uL bs pcs.length fl) <;> rfl
theorem qP {bs:List bM} {n:Nat} {fl:List eT} (h:mE bs n fl=0):fl.length<=20/\HC bs n bs.length fl:=by
 unfold mE at h
 split at h
 ·cases h
 rename_i h20
 have hn: ∀k,k<fl.length->uL bs n fl k=none:=by
  cases hf:mz fl.length (uL bs n fl) with
  | none=>exact iF.1 hf
  | some e=>
   rw [hf] at h
   obtain⟨k,hk,he,_⟩:=ja.1 hf
   have h:e=0:=h
   subst h
   unfold uL at he
   rw [aK hk,Option.bind_some] at he
   repeat' split at he
   all_goals (first | (injection he with he;omega) | cases he)
 have hx: ∀x∈fl,sw bs n x=true/\(x.Open=false->x.A<x.B):=fun x hx=>by
  obtain⟨k,hk,rfl⟩:=List.mem_iff_getElem.1 hx
  have:=hn k hk
  unfold uL at this
  rw [aK hk,Option.bind_some] at this
  split at this
  ·cases this
  ·split at this
   ·cases this
   ·rename_i h2
    split at this
    ·cases this
    ·rename_i h3
     refine⟨by simpa using h2,fun ho=>?_⟩
     rw [ho,mP,Bool.true_and,bQ] at h3
     omega
 have inp: ∀{n:Nat} {k:Int},z9 n k=true->∃j:Nat,k= ((j:Nat):Int)/\j<n:=fun{n k} h=>by
  unfold z9 at h
  rw [bN,bQ,bQ] at h
  exact⟨k.toNat,by omega,by omega⟩
 refine⟨by omega,fun x hm ho=>?_,fun x hm ho=>?_⟩
 ·obtain⟨h1,_⟩:=hx x hm
  unfold sw at h1
  rw [ho,aQ] at h1
  cases hB:x.dO.bM with
  | true=>
   rw [hB,aQ,bN] at h1
   obtain⟨j,e,hj⟩:=inp h1.1
   refine⟨j,e,fun _=>⟨hj,?_⟩,fun h=>(by rw [hB] at h;cases h)⟩
   rw [e,bP] at h1;exact h1.2
  | false=>
   rw [hB,aS] at h1
   obtain⟨j,e,hj⟩:=inp h1
   exact⟨j,e,fun h=>(by rw [hB] at h;cases h),fun _=>hj⟩
 ·obtain⟨h1,h2⟩:=hx x hm
  unfold sw at h1
  rw [ho,aS,bN] at h1
  obtain⟨i,e1,hi⟩:=inp h1.1
  obtain⟨k,e2,hk⟩:=inp h1.2
  have:=h2 ho
  exact⟨i,k,e1,e2,by omega,hk⟩
end
end Go.Gk
namespace Go.Gk
open Go Classical
structure Ga (c:List Int):Prop where
 neg: ∀(i:Nat) (x:Int),c[i]? =some x->x<0->x = -1
 own: ∀(i v:Nat),c[i]? =some ((v:Nat):Int)->c[v]? =some ((v:Nat):Int)
def ll (c:List Int) (i k:Nat):Bool:=decide (c.getD i (-1)>=0)&&c.getD i (-1)==c.getD k (-1)
section
variable {r:Nat->Nat}
theorem wU.first {bs:List bM} {pcs:List aH} {fl:List eT} {ls:List cK} {r2:Nat->Nat} {up:List Int} {fm:List (Int×Int)} {c:List Int} (h:wU bs pcs fl ls r2 ls.length up fm c):Ga c where
 neg:=fun i x hx h0=>by
  have hi:=(aW.1 hx).1
  rw [h.len] at hi
  have hl:ls[i]? =some ls[i]:=aK hi
  cases hn:nC bs pcs fl ls[i] with
  | none=>have:=h.no i _ hi hl hn;rw [hx] at this;injection this
  | some u=>
   obtain⟨q1,q2⟩:=h.yes i _ u hi hl hn
   obtain⟨v,_,_,q3,_⟩:=h.low _ q1
   rw [hx,q3] at q2;injection q2 with q2;omega
 own:=fun i v hx=>by
  have hi:=(aW.1 hx).1
  rw [h.len] at hi
  have hl:ls[i]? =some ls[i]:=aK hi
  cases hn:nC bs pcs fl ls[i] with
  | none=>have:=h.no i _ hi hl hn;rw [hx] at this;injection this with this;omega
  | some u=>
   obtain⟨q1,q2⟩:=h.yes i _ u hi hl hn
   obtain⟨v',l',u',q3,q4,q5,q6,q7⟩:=h.low _ q1
   have e:v=v':=by rw [hx,q3] at q2;injection q2 with q2;omega
   subst e
   obtain⟨s1,s2⟩:=h.yes v l' u' q4 q5 q6
   rw [q7,q3] at s2;exact s2
theorem wU.conn {bs:List bM} {pcs:List aH} {fl:List eT} {ls:List cK} {r2:Nat->Nat} {up:List Int} {fm:List (Int×Int)} {c:List Int} (h:wU bs pcs fl ls r2 ls.length up fm c) {i k:Nat} {x y:cK} (hx:ls[i]? =some x) (hy:ls[k]? =some y):
  ll c i k=true↔∃u v,nC bs pcs fl x=some u/\nC bs pcs fl y=some v/\r2 u=r2 v:=by
 have hi:=(aW.1 hx).1
 have hk:=(aW.1 hy).1
 unfold ll
 rw [bN,bQ,beq_iff_eq,List.getD_eq_getElem?_getD,List.getD_eq_getElem?_getD]
 cases hn:nC bs pcs fl x with
 | none=>
  rw [h.no i x hi hx hn,Option.getD_some]
  exact⟨fun h=>absurd h.1 (by decide),fun⟨u,v,e,_⟩=>(by cases e)⟩
 | some u=>
  obtain⟨q1,q2⟩:=h.yes i x u hi hx hn
  obtain⟨a,_,_,q3,_⟩:=h.low _ q1
  rw [q2,Option.getD_some,q3]
  cases hm:nC bs pcs fl y with
  | none=>
   rw [h.no k y hk hy hm,Option.getD_some]
   exact⟨fun h=>absurd h.2 (by omega),fun⟨u,v,_,e,_⟩=>(by cases e)⟩
  | some v=>
   obtain⟨s1,s2⟩:=h.yes k y v hk hy hm
   obtain⟨b,_,_,s3,_⟩:=h.low _ s1
   rw [s2,Option.getD_some,s3]
   constructor
   ·rintro⟨_,e⟩
    have:=h.inj _ _ q1 s1 (by rw [q3,s3];exact e)
    exact⟨u,v,rfl,rfl,by omega⟩
   ·rintro⟨u',v',e1,e2,e3⟩
    injection e1 with e1;injection e2 with e2
    subst e1;subst e2
    rw [e3,s3] at q3
    exact⟨by omega,q3.symm⟩
end
end Go.Gk
namespace Go.Gk
open Go Classical
section
variable {N:Nat} {a:iD} {ke:List (List aA)} {eE:List (List (List aA))} {r:Nat->Nat} {gs:List cI} {ofP ofB kU:List Int} {kA:List dO}
theorem D1 (b:l5 a ke eE r gs ofP ofB kU kA) {fl:List eT} (h0:mE a.aU (bY 0 eE).length fl=0) (hN:4398046511104<=N):
  ∃r2 c up fm,dF N a.aU a.aZ (bY 0 eE) (dZ a.aU (bY 0 eE)) kU kA fl=some c/\tL ((bY 0 eE).length+a.aU.length) (HK (bY 0 eE).length (dZ a.aU (bY 0 eE)) fl) r2/\wU a.aU (bY 0 eE) fl a.aZ r2 a.aZ.length up fm c:=by
 have hf:=b.yo.2
 have hbl:=b.Cu.gb.len
 have hlf:=b.qL.yo
 obtain⟨h20,hok⟩:=qP h0
 exact zW (N:=N) (r:=r) hok (by omega) (by omega) (by omega) (by omega) (by omega) b.F4.kU b.F4.kA hN
theorem wW (b:l5 a ke eE r gs ofP ofB kU kA) (h1:fI N a=some (some (a.aJ,a.cW,a.aU,a.aZ,ke,bY 0 eE,dZ a.aU (bY 0 eE),gs,ofP,ofB,kU,kA),0)) {fl:List eT} (h0:mE a.aU (bY 0 eE).length fl=0) {c:List Int}
  (hc:dF N a.aU a.aZ (bY 0 eE) (dZ a.aU (bY 0 eE)) kU kA fl=some c) (hl:c.length=a.aZ.length) (p q:fB) (hN:4398046511104<=N):
  dU N a fl p q=some (bif decide (dL a p<0)||decide (dL a q<0) then (false,9) else (ll c (dL a p).toNat (dL a q).toNat,0)):=by
 have hf:=b.yo.2
 have hbl:=b.Cu.gb.len
 obtain⟨h20,_⟩:=qP h0
 unfold dU
 rw [h1,aB,l6 b.qL p hN,l6 b.qL q hN]
 simp only [Am,bne_self_eq_false,aS,aB]
 rw [ov (by omega) (by omega) (by omega),h0,aB,bne_self_eq_false,aS]
 rcases nZ a p with ⟨e1,_⟩ | ⟨i,x,e1,hx,_⟩
 ·rw [e1];rfl
 ·rcases nZ a q with ⟨e2,_⟩ | ⟨k,y,e2,hy,_⟩
  ·rw [e2,e1,cB (show (-1:Int)<0 by decide),Bool.or_true,aQ,aQ]
  ·have hi:=(aW.1 hx).1
   have hk:=(aW.1 hy).1
   have ei:c[i]? =some (c[i]'(by omega)):=aK _
   have ek:c[k]? =some (c[k]'(by omega)):=aK _
   rw [e1,e2,bC (show ¬((i:Nat):Int)<0 by omega),bC (show ¬((k:Nat):Int)<0 by omega),Bool.or_false,aS,aS,hc,aB,dK ei,dK ek]
   unfold ll
   rw [bP,bP,List.getD_eq_getElem?_getD,List.getD_eq_getElem?_getD,ei,ek,Option.getD_some,Option.getD_some,aB]
   cases decide (c[i]'(by omega)>=0) <;> rfl
end
end Go.Gk
namespace Go.Gk
open Go Classical
def oV (t u:Test):Int:=if gh t.A u.A≠0 then gh t.A u.A else gh t.B u.B
def nD (a:iD) (l:List Test) (k:Nat):Option Int:=(l[k]?).bind fun t=>
 if dL a t.A<0\/dL a t.B<0 then some 9 else if gh t.B t.A<=0 then some 8 else if 0<k/\((l[k - 1]?).elim false fun u=>decide (oV t u<=0))=true then some 8 else none
def lI (a:iD) (l:List Test):Int:=if 2000<l.length then 2 else (mz l.length (nD a l)).getD 0
structure D2 (a:iD) (t:Test):Prop where
 la:0<=dL a t.A
 lb:0<=dL a t.B
 lt:uK t.A t.B
theorem zX {a:iD} {p:fB} (h:0<=dL a p): ∃(k:Nat) (x:cK),dL a p= ((k:Nat):Int)/\a.aZ[k]? =some x/\kc x=p/\k<a.aZ.length:=by
 rcases nZ a p with ⟨e,_⟩ | ⟨k,x,e,hx,hp⟩
 ·rw [e] at h;omega
 ·exact⟨k,x,e,hx,hp,(aW.1 hx).1⟩
theorem tM {a:iD} {l:List Test} (h:lI a l=0):l.length<=2000/\(∀t∈l,D2 a t)/\∀(k:Nat) t u,0<k->l[k]? =some t->l[k - 1]? =some u->0<oV t u:=by
 unfold lI at h
 split at h
 ·omega
 rename_i hl
 have hn: ∀k,k<l.length->nD a l k=none:=by
  cases hf:mz l.length (nD a l) with
  | none=>exact iF.1 hf
  | some e=>
   rw [hf] at h
   obtain⟨k,hk,he,_⟩:=ja.1 hf
   have h:e=0:=h
   subst h
   unfold nD at he
   rw [aK hk,Option.bind_some] at he
   repeat' split at he
   all_goals (first | (injection he with he;omega) | cases he)
 refine⟨by omega,fun t ht=>?_,fun k t u hk ht hu=>?_⟩
 ·obtain⟨k,hk,rfl⟩:=List.mem_iff_getElem.1 ht
  have:=hn k hk
  unfold nD at this
  rw [aK hk,Option.bind_some] at this
  split at this
  ·cases this
  rename_i h1
  split at this
  ·cases this
  rename_i h2
  exact⟨by omega,by omega,pr.1 (by omega)⟩
 ·have hlt:=(aW.1 ht).1
  have:=hn k hlt
  unfold nD at this
  rw [ht,Option.bind_some] at this
  split at this
  ·cases this
  split at this
  ·cases this
  split at this
  ·cases this
  rename_i h3
  rw [hu] at h3
  simp only [Option.elim_some,bQ] at h3
  omega
def lT (a:iD) (c:List Int) (l:List Test):List Bool:=l.map (fun t=>ll c (dL a t.A).toNat (dL a t.B).toNat)
section
variable {N:Nat}
theorem Gb (u v:Int):nb N [u,v]=some (if u≠0 then u else v):=by
 unfold nb
 rw [s8 (l:=[u,v]) (fun x=>if x≠0 then some x else none) (by simp) (fun k x hx=>by
  rw [dK hx,aB]
  by_cases h:x=0
  ·subst h;rfl
  ·rw [show (x != 0)=true by simpa using h,aQ,aC h];rfl),aB]
 by_cases h:u=0
 ·subst h
  by_cases h':v=0
  ·subst h';rfl
  ·simp [h',ya,Fo.cs]
 ·simp [h,ya,Fo.cs]
theorem uY (t u:Test):fE N t u=some (oV t u):=by
 unfold fE oV
 rw [jB,aB,jB,aB,Gb,aB]
theorem D3 {a:iD} {e:Int} (he:e≠0) (h:fI N a=some (none,e)) (l:List Test):ij N a l=some (none,e):=by
 unfold ij
 rw [h,aB]
 simp only [Am,show (e != 0)=true by simpa using he,aQ]
theorem xB {a:iD} {l:List Test} {fl:List eT} {e:Int} (he:e≠0) (h:ij N a l=some (none,e)):fK N a l fl=some ([],e):=by
 unfold fK
 rw [h,aB]
 simp only [Am,show (e != 0)=true by simpa using he,aQ]
end
section
variable {N:Nat} {a:iD} {ke:List (List aA)} {eE:List (List (List aA))} {r:Nat->Nat} {gs:List cI} {ofP ofB kU:List Int} {kA:List dO}
theorem E0 (b:l5 a ke eE r gs ofP ofB kU kA) (h1:fI N a=some (some (a.aJ,a.cW,a.aU,a.aZ,ke,bY 0 eE,dZ a.aU (bY 0 eE),gs,ofP,ofB,kU,kA),0)) {l:List Test} (hl:l.length<=1048576) (hN:4398046511104<=N):
  (lI a l≠0/\ij N a l=some (none,lI a l))\/(lI a l=0/\ij N a l=some (some (a.aJ,a.cW,a.aU,a.aZ,ke,bY 0 eE,dZ a.aU (bY 0 eE),gs,ofP,ofB,kU,kA),0)):=by
 unfold ij
 rw [h1,aB]
 simp only [Am,bne_self_eq_false,aS]
 by_cases h2:2000<l.length
 ·have e:lI a l=2:=by unfold lI;rw [aC h2]
  rw [cB (show ((l.length:Nat):Int)>2000 by omega),aQ,e]
  exact .inl ⟨by decide,rfl⟩
 rw [bC (show ¬((l.length:Nat):Int)>2000 by omega),aS]
 rw [mh (fun k=>(nD a l k).map (fun c=>(none,c))) (by omega) (fun k hk _=>by
  have hx:l[k]? =some l[k]:=aK hk
  have e1: ((dE N a l[k].A).bind fun x149=>bif (decide (x149<0)) then (some true) else ((dE N a l[k].B).bind fun x153=>some (decide (x153<0))))=some (decide (dL a l[k].A<0)||decide (dL a l[k].B<0)):=by
   rw [l6 b.qL _ hN,l6 b.qL _ hN,aB,aB]
   cases decide (dL a l[k].A<0) <;> rfl
  have e2: (bif (decide ((k:Int)>0)) then ((idx l (IntKind.wrap .i64 ((k:Int) - 1))).bind fun x208=>(fE N l[k] x208).bind fun x211=>some (decide (x211<=0))) else (some false))=some (decide (0<k/\((l[k - 1]?).elim false fun u=>decide (oV l[k] u<=0))=true)):=by
   by_cases h0:0<k
   ·have hp:k - 1<l.length:=by omega
    have hy:l[k - 1]? =some l[k - 1]:=aK hp
    rw [cB (show ((k:Nat):Int)>0 by omega),aQ,k8 h0 (by omega),dK hy,aB,uY,aB,hy]
    simp only [Option.elim_some,h0,true_and,bQ]
   ·rw [bC (show ¬((k:Nat):Int)>0 by omega),aS,bC (fun h=>h0 h.1)]
  rw [dK hx,aB,e1,aB]
  unfold nD
  rw [hx,Option.bind_some]
  by_cases hA:dL a l[k].A<0\/dL a l[k].B<0
  ·rw [aC hA,show (decide (dL a l[k].A<0)||decide (dL a l[k].B<0))=true by rw [dM,bQ,bQ];exact hA]
   rfl
  rw [aD hA,show (decide (dL a l[k].A<0)||decide (dL a l[k].B<0))=false by rw [Bool.or_eq_false_iff,decide_eq_false_iff_not,decide_eq_false_iff_not];omega,aS,jB,aB]
  by_cases hB:gh l[k].B l[k].A<=0
  ·rw [aC hB,cB hB];rfl
  rw [aD hB,bC hB,aS,e2,aB]
  by_cases hC:0<k/\((l[k - 1]?).elim false fun u=>decide (oV l[k] u<=0))=true
  ·rw [aC hC,cB hC];rfl
  ·rw [aD hC,bC hC];rfl),aB,<-Dh]
 have hz:lI a l= (mz l.length (nD a l)).getD 0:=by unfold lI;rw [aD h2]
 cases hf:mz l.length (nD a l) with
 | none=>
  rw [hf] at hz
  exact .inr ⟨hz,rfl⟩
 | some e=>
  rw [hf] at hz
  have hz:lI a l=e:=hz
  refine .inl ⟨?_,by rw [hz];rfl⟩
  obtain⟨k,hk,he,_⟩:=ja.1 hf
  rw [hz]
  unfold nD at he
  rw [aK hk,Option.bind_some] at he
  repeat' split at he
  all_goals (first | (injection he with he;omega) | cases he)
theorem D4 (b:l5 a ke eE r gs ofP ofB kU kA) {fl:List eT} {c:List Int} (hc:dF N a.aU a.aZ (bY 0 eE) (dZ a.aU (bY 0 eE)) kU kA fl=some c) (hcl:c.length=a.aZ.length) {l:List Test} (hl:l.length<=1048576) (ht: ∀t∈l,D2 a t) (hN:4398046511104<=N):
  mg N a.aJ a.cW a.aU a.aZ (bY 0 eE) (dZ a.aU (bY 0 eE)) kU kA l fl=some (lT a c l):=by
 have hA: ∀p,dE N (⟨a.aJ,a.cW,a.aU,a.aZ⟩:iD) p=some (dL a p):=fun p=>l6 b.qL p hN
 unfold mg
 rw [hc,aB]
 rw [EE (s:=([]:List Bool)) (fun k=>lT a c (l.take k)) (by omega) rfl (fun k hk=>by
  have hx:l[k]? =some l[k]:=aK hk
  obtain⟨t1,t2,_⟩:=ht _ (cM hk)
  obtain⟨i,_,e1,_,_,hi⟩:=zX t1
  obtain⟨j,_,e2,_,_,hj⟩:=zX t2
  have ei:c[i]? =some (c[i]'(by omega)):=aK _
  have ej:c[j]? =some (c[j]'(by omega)):=aK _
  have hlen: (lT a c (l.take k)).length=k:=by unfold lT;rw [gM,cP];omega
  have hap: ∀x:Bool,app 1 (lT a c (l.take k)) [x]=some (lT a c (l.take k)++[x]):=fun x=>il (by rw [hlen];simp;omega)
  have hs:lT a c (l.take (k+1))=lT a c (l.take k)++[ll c i j]:=by
   unfold lT
   rw [fA hk,fu,eB,List.map_nil,e1,e2,bP,bP]
  rw [dK hx,aB,hA,aB,hA,aB,e1,e2,dK ei,dK ej,aB,hs]
  unfold ll
  rw [List.getD_eq_getElem?_getD,List.getD_eq_getElem?_getD,ei,ej,Option.getD_some,Option.getD_some]
  cases decide (c[i]'(by omega)>=0) with
  | true=>rw [aQ,aB,aB,hap,aB,aB,Bool.true_and]
  | false=>rw [aS,hap,aB,aB,Bool.false_and]),aB,fy]
theorem Cy (b:l5 a ke eE r gs ofP ofB kU kA) {l:List Test} (h1:ij N a l=some (some (a.aJ,a.cW,a.aU,a.aZ,ke,bY 0 eE,dZ a.aU (bY 0 eE),gs,ofP,ofB,kU,kA),0)) {fl:List eT} (hl:fl.length<=1048576) (h0:mE a.aU (bY 0 eE).length fl≠0):
  fK N a l fl=some ([],mE a.aU (bY 0 eE).length fl):=by
 have hf:=b.yo.2
 have hbl:=b.Cu.gb.len
 have hb: (mE a.aU (bY 0 eE).length fl != 0)=true:=by simpa using h0
 unfold fK
 rw [h1,aB]
 simp only [Am,bne_self_eq_false,aS]
 rw [ov (by omega) (by omega) hl,aB,hb,aQ]
theorem D5 (b:l5 a ke eE r gs ofP ofB kU kA) {l:List Test} (h1:ij N a l=some (some (a.aJ,a.cW,a.aU,a.aZ,ke,bY 0 eE,dZ a.aU (bY 0 eE),gs,ofP,ofB,kU,kA),0)) {fl:List eT} (h0:mE a.aU (bY 0 eE).length fl=0)
  {c:List Int} (hc:dF N a.aU a.aZ (bY 0 eE) (dZ a.aU (bY 0 eE)) kU kA fl=some c) (hcl:c.length=a.aZ.length) (hl:l.length<=1048576) (ht: ∀t∈l,D2 a t) (hN:4398046511104<=N):
  fK N a l fl=some (lT a c l,0):=by
 have hf:=b.yo.2
 have hbl:=b.Cu.gb.len
 obtain⟨h20,_⟩:=qP h0
 unfold fK
 rw [h1,aB]
 simp only [Am,bne_self_eq_false,aS]
 rw [ov (by omega) (by omega) (by omega),h0,aB,bne_self_eq_false,aS,D4 b hc hcl hl ht hN,aB]
theorem Cz {l:List Test} {fl:List eT} {c:List Int} (h:fK N a l fl=some (lT a c l,0)) (hl:l.length<=1048576):
  lB N a l fl=some (l.all (fun t=>ll c (dL a t.A).toNat (dL a t.B).toNat==t.Joined),0):=by
 unfold lB
 rw [h,aB]
 simp only [bne_self_eq_false,aS]
 rw [Bi (l:=l) (fun t=>ll c (dL a t.A).toNat (dL a t.B).toNat != t.Joined) (false,0) (by omega) (fun k x hx=>by
  have hs: (lT a c l)[k]? =some (ll c (dL a x.A).toNat (dL a x.B).toNat):=by unfold lT;rw [gz,hx];rfl
  rw [dK hx,aB,dK hs,aB]
  cases (ll c (dL a x.A).toNat (dL a x.B).toNat != x.Joined) <;> rfl),aB]
 have e:l.all (fun t=>ll c (dL a t.A).toNat (dL a t.B).toNat==t.Joined) = !l.any (fun t=>ll c (dL a t.A).toNat (dL a t.B).toNat != t.Joined):=by
  rw [List.any_eq_not_all_not]
  simp [bne]
 rw [e]
 cases l.any (fun t=>ll c (dL a t.A).toNat (dL a t.B).toNat != t.Joined) <;> rfl
end
inductive Gc (N:Nat) (a:iD) (l:List Test) (fl:List eT):Prop
 | err (e:Int) (he:e≠0) (h:fK N a l fl=some ([],e))
 | ok {ke:List (List aA)} {eE:List (List (List aA))} {r:Nat->Nat} {gs:List cI} {ofP ofB kU:List Int} {kA:List dO} (b:l5 a ke eE r gs ofP ofB kU kA)
  (h1:fI N a=some (some (a.aJ,a.cW,a.aU,a.aZ,ke,bY 0 eE,dZ a.aU (bY 0 eE),gs,ofP,ofB,kU,kA),0))
  (ht:lI a l=0) (hf:mE a.aU (bY 0 eE).length fl=0) {c:List Int} (hc:dF N a.aU a.aZ (bY 0 eE) (dZ a.aU (bY 0 eE)) kU kA fl=some c) (hcl:c.length=a.aZ.length) (h:fK N a l fl=some (lT a c l,0))
section
variable {N:Nat}
theorem zY {a:iD} (ha:qM a) {l:List Test} {fl:List eT} (hl:l.length<=1048576) (hfl:fl.length<=1048576) (hN:4398046511104<=N):Gc N a l fl:=by
 rcases opened (N:=N) ha hN with ⟨e,he,h⟩ | ⟨b,h⟩
 ·exact .err e he (xB he (D3 he h l))
 ·rename_i ke eE r gs ofP ofB kU kA
  rcases E0 b h hl hN with ⟨e1,e2⟩ | ⟨e1,e2⟩
  ·exact .err _ e1 (xB e1 e2)
  ·obtain⟨t1,t2,t3⟩:=tM e1
   by_cases h0:mE a.aU (bY 0 eE).length fl=0
   ·obtain⟨r2,c,up,fm,c1,c2,c3⟩:=D1 b h0 hN
    exact .ok b h e1 h0 c1 c3.len (D5 b e2 h0 c1 c3.len hl t2 hN)
   ·exact .err _ h0 (Cy b e2 hfl h0)
theorem nK {a:iD} {l:List Test} {fl:List eT} (ha:bk a<=1048576) (hl:bk l<=1048576) (hfl:bk fl<=1048576) (hN:4398046511104<=N):dI N a l fl=some true:=by
 have hs:=zR ha
 have hll:l.length<=1048576:=by have:=qe l;omega
 have hfll:fl.length<=1048576:=by have:=qe fl;omega
 unfold dI
 rcases zY (N:=N) hs hll hfll hN with ⟨e,he,h⟩ | ⟨b,h1,ht,hf,hc,hcl,h⟩
 ·rw [h,aB,show ((([]:List Bool),e).2 != 0)=true by simpa using he,aQ,BD hN];rfl
 rename_i ke eE r gs ofP ofB kU kA c
 obtain⟨t1,t2,t3⟩:=tM ht
 have hlen: (lT a c l).length=l.length:=by unfold lT;rw [gM]
 rw [h,aB]
 simp only [bne_self_eq_false,aS]
 rw [hlen,bne_self_eq_false,aS]
 refine Ok.get ?_
 refine Ok.bind (Ok.z6 (n:=l.length) (fun st=>st.2) (fun j st=>st.1= (l.take j).all (fun t=>ll c (dL a t.A).toNat (dL a t.B).toNat==t.Joined)) (Go:=fun st=>st.1=l.all (fun t=>ll c (dL a t.A).toNat (dL a t.B).toNat==t.Joined)) (Rt:=fun _=>False) ?_ ?_ (mN _) rfl rfl (by omega)) ?_
 ·rintro j ⟨u,i⟩ hj e hu
  dsimp only at e hu ⊢
  subst e
  have hx:l[j]? =some l[j]:=aK hj
  have hsx: (lT a c l)[j]? =some (ll c (dL a l[j].A).toNat (dL a l[j].B).toNat):=by unfold lT;rw [gz,hx];rfl
  obtain⟨q1,q2,_⟩:=t2 _ (cM hj)
  have hcn:dU N a fl l[j].A l[j].B=some (ll c (dL a l[j].A).toNat (dL a l[j].B).toNat,0):=by
   rw [wW b h1 hf hc hcl l[j].A l[j].B hN,bC (show ¬dL a l[j].A<0 by omega),bC (show ¬dL a l[j].B<0 by omega)];rfl
  rw [Jh hj,aQ]
  refine Ok.ix hx (Ok.ix hx (Ok.eq hcn (Ok.eq (x:=false) (by
   simp only [bne_self_eq_false,aS]
   rw [dK hsx,aB,bne_self_eq_false]) ?_)))
  rw [aS]
  refine Ok.eq (x:=(l.take (j+1)).all (fun t=>ll c (dL a t.A).toNat (dL a t.B).toNat==t.Joined)) ?_ (Ok.nx ⟨gT (by omega),rfl⟩)
  rw [dK hsx,dK hx,aB,aB,hu,fA hj,List.all_append,List.all_cons,List.all_nil,Bool.and_true]
  cases (l.take j).all (fun t=>ll c (dL a t.A).toNat (dL a t.B).toNat==t.Joined) <;> rfl
 ·rintro⟨u,i⟩ e hu
  dsimp only at e hu ⊢
  subst e
  rw [Ji,aS]
  exact Ok.br (by dsimp only;rw [hu,fy])
 intro o ho
 refine Ok.cs ho ?_ (fun r hr=>hr.elim)
 rintro⟨u,i⟩ hu
 dsimp only at hu ⊢
 subst hu
 refine Ok.eq (Cz h hll) (Ok.eq (x:=true) ?_ (Ok.ret rfl))
 dsimp only
 rw [BD hN]
 simp
end
end Go.Gk
