/-
  Printed texts: Go functions as plain functions, and that they are. No statement of the seed is proved here.
-/
import Derived.Test.YtlffnmkhgkppkaaGreatDoorG1
import Derived.Test.YtlffnmkhgkppkaaGreatDoorA2
set_option linter.unusedVariables false
set_option linter.unusedSimpArgs false
set_option linter.unusedSectionVars false
set_option maxRecDepth 100000
set_option maxHeartbeats 4000000
namespace Go.Gk
open Go Go.Proofs
variable (N:Nat) {E w:World} {i0 i1:Nat} {p0 p1 p2 p3 res:Int} {v0 v1:Value} {V:List HP}
theorem g9 {p0:cH} {res:aH} (j:Holds E w V) (h0:V[i0]? =some (rd v0 p0)) (o:fG N p0=some res):
    Calls bN 54 [v0].toArray w (iv (pI E V res)):=by
 unfold fG at o
 refine enter Tryz.func54 zr zr ?_
 have j:=j.dup (i0+0) h0
 refine RC.sr (RL.cX 0 v0 j zr fun aa w j=>?_)
 refine RL.alloc j pT.z fun ab w j=>?_
 refine RL.nq (RC.y5 mixed ?_)
 have j:=j.drew
 refine RO.go (RL.bT zr AA (RO.nx (RL.bT zr AB (RO.nx (RL.aX (f:=(fun x=>x.At.X)) 1 j zr (Fd.comp (f:=fun(x:cH)=>x.At) (fun(x:jE)=>x.X) wq q8) dH (RO.nx (RL.bT zr vh (RO.nx ?_))))))))
 refine RL.aX 1 j zr qj dH (RO.nx (RL.quo p0.eI 2 (RO.nx (RL.kr p0.At.X (IntKind.wrap .i64 (Int.tdiv p0.eI 2)) (RO.nx (RL.bT zr AA (RO.nx (RL.bT zr AD ?_))))))))
 refine RO.nx (RL.aX (f:=(fun x=>x.At.Y)) 1 j zr (Fd.comp (f:=fun(x:cH)=>x.At) (fun(x:jE)=>x.Y) wq q9) dH (RO.nx (RL.bT zr vh (RO.nx (RL.aX 1 j zr qj dH (RO.nx (RL.quo p0.eI 2 (RO.nx ?_))))))))
 refine RL.kr p0.At.Y (IntKind.wrap .i64 (Int.tdiv p0.eI 2)) (RO.nx (aR (vi (IntKind.wrap .i64 (p0.At.X - (IntKind.wrap .i64 (Int.tdiv p0.eI 2))))) (RO.nx (aR (vi (IntKind.wrap .i64 (p0.At.Y - (IntKind.wrap .i64 (Int.tdiv p0.eI 2))))) (RO.last (aG (RC.sr (mv (vi (IntKind.wrap .i64 (p0.At.X - (IntKind.wrap .i64 (Int.tdiv p0.eI 2))))) ?_))))))))
 refine mv (vi (IntKind.wrap .i64 (p0.At.Y - (IntKind.wrap .i64 (Int.tdiv p0.eI 2))))) (mv (vi (IntKind.wrap .i64 (p0.At.X - (IntKind.wrap .i64 (Int.tdiv p0.eI 2))))) (RL.bT zr vh (RL.aX 1 j zr qj dH (RL.kr (IntKind.wrap .i64 (p0.At.X - (IntKind.wrap .i64 (Int.tdiv p0.eI 2)))) p0.eI (mv (vi (IntKind.wrap .i64 (p0.At.Y - (IntKind.wrap .i64 (Int.tdiv p0.eI 2))))) (RL.bT zr vh (RL.aX 1 j zr qj dH (RL.kr (IntKind.wrap .i64 (p0.At.Y - (IntKind.wrap .i64 (Int.tdiv p0.eI 2)))) p0.eI ?_))))))))
 have j:=((j.sc Int (IntKind.wrap .i64 (p0.At.X - (IntKind.wrap .i64 (Int.tdiv p0.eI 2))))).sc Int (IntKind.wrap .i64 (p0.At.Y - (IntKind.wrap .i64 (Int.tdiv p0.eI 2))))).sc Int (IntKind.wrap .i64 ((IntKind.wrap .i64 (p0.At.X - (IntKind.wrap .i64 (Int.tdiv p0.eI 2))))+p0.eI))
 have j:=j.sc Int (IntKind.wrap .i64 ((IntKind.wrap .i64 (p0.At.Y - (IntKind.wrap .i64 (Int.tdiv p0.eI 2))))+p0.eI))
 refine RL.build (⟨(IntKind.wrap .i64 (p0.At.X - (IntKind.wrap .i64 (Int.tdiv p0.eI 2)))),(IntKind.wrap .i64 (p0.At.Y - (IntKind.wrap .i64 (Int.tdiv p0.eI 2)))),(IntKind.wrap .i64 ((IntKind.wrap .i64 (p0.At.X - (IntKind.wrap .i64 (Int.tdiv p0.eI 2))))+p0.eI)),(IntKind.wrap .i64 ((IntKind.wrap .i64 (p0.At.Y - (IntKind.wrap .i64 (Int.tdiv p0.eI 2))))+p0.eI))⟩:aH) trivial rfl j [(0,(vi (IntKind.wrap .i64 (p0.At.X - (IntKind.wrap .i64 (Int.tdiv p0.eI 2)))))),(1,(vi (IntKind.wrap .i64 (p0.At.Y - (IntKind.wrap .i64 (Int.tdiv p0.eI 2)))))),(2,(vi (IntKind.wrap .i64 ((IntKind.wrap .i64 (p0.At.X - (IntKind.wrap .i64 (Int.tdiv p0.eI 2))))+p0.eI)))),(3,(vi (IntKind.wrap .i64 ((IntKind.wrap .i64 (p0.At.Y - (IntKind.wrap .i64 (Int.tdiv p0.eI 2))))+p0.eI))))] rfl EY rfl (fun M hs g=>by have h:=uu M;exact dY.cons (f:=fun(x:aH) y=>{x with X0:=y}) h qg (g.sat 3 _ rfl).1 fun _ h=>dY.cons (f:=fun(x:aH) y=>{x with Y0:=y}) h tk (g.sat 2 _ rfl).1 fun _ h=>dY.cons (f:=fun(x:aH) y=>{x with X1:=y}) h qh (g.sat 1 _ rfl).1 fun _ h=>dY.cons (f:=fun(x:aH) y=>{x with Y1:=y}) h tm (g.sat 0 _ rfl).1 fun _ h=>dY.nil h) fun ad j=>?_
 refine RL.bM 5 j 0 zr jd fun w j=>?_
 refine RL.nt (RC.ret ?_)
 obtain rfl:=oi o
 exact IH 5 j jd fun ae j=>(j.pk 9 [0])
theorem tS {p0: (List aA)} {res:aH} (j:Holds E w V) (h0:V[i0]? =some (rd v0 p0)) (hb:lY N p0=some res):
    Calls bN 129 [v0].toArray w (iv (pI E V res)):=by
 unfold lY at hb
 refine enter Tryz.func129 zr zr ?_
 have j:=j.dup (i0+0) h0
 refine RC.sr (RL.alloc j pT.z fun bf w j=>?_)
 refine RL.nq ?_
 obtain⟨bj,bo,hb⟩:=bd hb
 obtain⟨bb,bp,hb⟩:=bd hb
 obtain⟨a8,bq,hb⟩:=bd hb
 obtain⟨bk,br,hb⟩:=bd hb
 obtain⟨bc,bt,hb⟩:=bd hb
 obtain⟨a9,bu,hb⟩:=bd hb
 refine RC.D3 E V mixed [1,0,0,0,0,0,1,0,0,0,1,0,0,0,0,0,1,1,0,1,0,0,0,0,0,0] [1,2,3,4,7,8,11,12,13,14,20,21,23,24,25] (fun(x:Value×Value×Value×Value×Value×Value×Value×Value×Value×Value×Value×Value×Value×Nat)=>(fun ah ai aj ak al an ao aq ar au av aw ax ae=>[(0,6,v0),(1,7,ah),(2,8,ai),(3,9,aj),(4,10,ak),(5,11,(vi bb)),(6,12,v0),(7,13,al),(8,14,an),(9,15,(vi a8.Y0)),(10,16,v0),(11,17,ao),(12,18,aq),(13,19,ar),(14,20,au),(15,21,(vi bc)),(16,22,v0),(17,23,v0),(18,24,(vi p0.length)),(19,25,(vi (IntKind.wrap .i64 ((p0.length:Int) - 1)))),(20,26,av),(21,27,aw),(22,28,(vi a9.Y1)),(23,29,ax),(24,3,(vp ae 0))]) x.1 x.2.1 x.2.2.1 x.2.2.2.1 x.2.2.2.2.1 x.2.2.2.2.2.1 x.2.2.2.2.2.2.1 x.2.2.2.2.2.2.2.1 x.2.2.2.2.2.2.2.2.1 x.2.2.2.2.2.2.2.2.2.1 x.2.2.2.2.2.2.2.2.2.2.1 x.2.2.2.2.2.2.2.2.2.2.2.1 x.2.2.2.2.2.2.2.2.2.2.2.2.1 x.2.2.2.2.2.2.2.2.2.2.2.2.2) [(0,v0),(2,vp bf 0)] [] (fun(D:Nat->Bool) (x:Value×Value×Value×Value×Value×Value×Value×Value×Value×Value×Value×Value×Value×Nat)=>(fun ah ai aj ak al an ao aq ar au av aw ax ae=>[bif D 0 then (pt ah bj) else aW,bif D 1 then (pt ai bj.Xs) else aW,bif D 2 then (rd aj bj.Xs) else aW,bif D 3 then (pt ak bb) else aW,bif D 4 then (pt al a8) else aW,bif D 5 then (pt an a8.Y0) else aW,bif D 6 then (pt ao bk) else aW,bif D 7 then (pt aq bk.Xs) else aW,bif D 8 then (rd ar bk.Xs) else aW,bif D 9 then (pt au bc) else aW,bif D 10 then (pt av a9) else aW,bif D 11 then (pt aw a9.Y1) else aW,bif D 12 then (rd ax (⟨bb,a8.Y0,bc,a9.Y1⟩:aH)) else aW,bif D 14 then (bx 75 ae (⟨bb,a8.Y0,bc,a9.Y1⟩:aH)) else (bif D 13 then (raw 75 ae 4) else aW),raw 75 bf 4,rd v0 p0]) x.1 x.2.1 x.2.2.1 x.2.2.2.1 x.2.2.2.2.1 x.2.2.2.2.2.1 x.2.2.2.2.2.2.1 x.2.2.2.2.2.2.2.1 x.2.2.2.2.2.2.2.2.1 x.2.2.2.2.2.2.2.2.2.1 x.2.2.2.2.2.2.2.2.2.2.1 x.2.2.2.2.2.2.2.2.2.2.2.1 x.2.2.2.2.2.2.2.2.2.2.2.2.1 x.2.2.2.2.2.2.2.2.2.2.2.2.2) (fun x=>by kernel_rfl) ?_ ⟨fun _=>g8 gn,?_,?_,?_,?_,?_,fun _=>g8 gn,?_,?_,?_,fun _=>g8 gn,?_,?_,?_,?_,?_,fun _=>g8 gn,fun _=>g8 gn,?_,fun _=>IV gn rfl,?_,?_,?_,?_,?_,?_,trivial⟩ ?_
 ·have j:=((((((((((((j.drew).aW).aW).aW).aW).aW).aW).aW).aW).aW).aW).aW).aW
  have j:=(j.aW).aW
  exact⟨(undef,undef,undef,undef,undef,undef,undef,undef,undef,undef,undef,undef,undef,0),eR.none,(CV zr),zt,j⟩
 ·rintro D U w hD o ag ⟨⟨ah,ai,aj,ak,al,an,ao,aq,ar,au,av,aw,ax,ae⟩,hv,ha,_,j⟩
  obtain⟨O,rfl⟩:=(ac (hv.at 0 rfl (o.1 rfl)) az).eQ
  have j:=j.bS 0 hD
  refine RL.cM 15 j kR bo fun bw j=>?_
  have j:=(j.pl 17 [0,2,3,4,5,6,7,8,9,10,11,12,13,14,15,16]).bZ 0 true rfl aW
  exact RL.nil ⟨rfl,(bw,ai,aj,ak,al,an,ao,aq,ar,au,av,aw,ax,ae),hv.pu 1,ha.u,zt,j⟩
 ·rintro D U w hD o ag ⟨⟨ah,ai,aj,ak,al,an,ao,aq,ar,au,av,aw,ax,ae⟩,hv,ha,_,j⟩
  obtain⟨O,rfl⟩:=(ac (hv.at 1 rfl (o.1 rfl)) az).eQ
  have j:=(j.bY 0 (o.1 rfl)).bS 1 hD
  refine RL.j9 0 j zr lk dK fun bz j=>?_
  have j:=((j.pl 17 [1,0,3,4,5,6,7,8,9,10,11,12,13,14,15,16]).bZ 0 (D 1) (o.1 rfl) aW).bZ 1 true rfl aW
  exact RL.nil ⟨rfl,(ah,bz,aj,ak,al,an,ao,aq,ar,au,av,aw,ax,ae),hv.pu 2,ha.u,zt,j⟩
 ·rintro D U w hD o ag ⟨⟨ah,ai,aj,ak,al,an,ao,aq,ar,au,av,aw,ax,ae⟩,hv,ha,_,j⟩
  obtain⟨O,rfl⟩:=(ac (hv.at 2 rfl (o.1 rfl)) az).eQ
  have j:=(j.bY 1 (o.1 rfl)).bS 2 hD
  refine RL.cD 1 bj.Xs j fJ fun b0 j=>?_
  have j:=((j.pl 17 [1,2,0,4,5,6,7,8,9,10,11,12,13,14,15,16]).bZ 1 (D 2) (o.1 rfl) aW).bZ 2 true rfl aW
  exact RL.nil ⟨rfl,(ah,ai,b0,ak,al,an,ao,aq,ar,au,av,aw,ax,ae),hv.pu 3,ha.u,zt,j⟩
 ·rintro D U w hD o ag ⟨⟨ah,ai,aj,ak,al,an,ao,aq,ar,au,av,aw,ax,ae⟩,hv,ha,_,j⟩
  obtain⟨O,rfl⟩:=(ac (hv.at 3 rfl (o.1 rfl)) az).eQ
  have j:=(j.bY 2 (o.1 rfl)).bS 3 hD
  refine RL.cM 2 j fF bp fun b1 j=>?_
  have j:=((j.pl 17 [1,2,3,0,5,6,7,8,9,10,11,12,13,14,15,16]).bZ 2 (D 3) (o.1 rfl) aW).bZ 3 true rfl aW
  exact RL.nil ⟨rfl,(ah,ai,aj,b1,al,an,ao,aq,ar,au,av,aw,ax,ae),hv.pu 4,ha.u,zt,j⟩
 ·rintro D U w hD o ag ⟨⟨ah,ai,aj,ak,al,an,ao,aq,ar,au,av,aw,ax,ae⟩,hv,ha,_,j⟩
  obtain⟨O,rfl⟩:=(ac (hv.at 4 rfl (o.1 rfl)) az).eQ
  have j:=j.bY 3 (o.1 rfl)
  refine RL.bU bb 3 j dH ?_
  have j:=j.bZ 3 (D 4) (o.1 rfl) aW
  exact RL.nil ⟨rfl,(ah,ai,aj,ak,al,an,ao,aq,ar,au,av,aw,ax,ae),hv.pu 5,ha.u,zt,j⟩
 ·rintro D U w hD o ag ⟨⟨ah,ai,aj,ak,al,an,ao,aq,ar,au,av,aw,ax,ae⟩,hv,ha,_,j⟩
  obtain⟨O,rfl⟩:=(ac (hv.at 6 rfl (o.1 rfl)) az).eQ
  have j:=j.bS 4 hD
  refine RL.cM 15 j kR bq fun b2 j=>?_
  have j:=(j.pl 17 [1,2,3,4,0,6,7,8,9,10,11,12,13,14,15,16]).bZ 4 true rfl aW
  exact RL.nil ⟨rfl,(ah,ai,aj,ak,b2,an,ao,aq,ar,au,av,aw,ax,ae),hv.pu 7,ha.u,zt,j⟩
 ·rintro D U w hD o ag ⟨⟨ah,ai,aj,ak,al,an,ao,aq,ar,au,av,aw,ax,ae⟩,hv,ha,_,j⟩
  obtain⟨O,rfl⟩:=(ac (hv.at 7 rfl (o.1 rfl)) az).eQ
  have j:=(j.bY 4 (o.1 rfl)).bS 5 hD
  refine RL.j9 4 j zr oD ga fun b3 j=>?_
  have j:=((j.pl 17 [1,2,3,4,5,0,7,8,9,10,11,12,13,14,15,16]).bZ 4 (D 7) (o.1 rfl) aW).bZ 5 true rfl aW
  exact RL.nil ⟨rfl,(ah,ai,aj,ak,al,b3,ao,aq,ar,au,av,aw,ax,ae),hv.pu 8,ha.u,zt,j⟩
 ·rintro D U w hD o ag ⟨⟨ah,ai,aj,ak,al,an,ao,aq,ar,au,av,aw,ax,ae⟩,hv,ha,_,j⟩
  obtain⟨O,rfl⟩:=(ac (hv.at 8 rfl (o.1 rfl)) az).eQ
  have j:=j.bY 5 (o.1 rfl)
  refine RL.bU a8.Y0 5 j dH ?_
  have j:=j.bZ 5 (D 8) (o.1 rfl) aW
  exact RL.nil ⟨rfl,(ah,ai,aj,ak,al,an,ao,aq,ar,au,av,aw,ax,ae),hv.pu 9,ha.u,zt,j⟩
 ·rintro D U w hD o ag ⟨⟨ah,ai,aj,ak,al,an,ao,aq,ar,au,av,aw,ax,ae⟩,hv,ha,_,j⟩
  obtain⟨O,rfl⟩:=(ac (hv.at 10 rfl (o.1 rfl)) az).eQ
  have j:=j.bS 6 hD
  refine RL.cM 15 j kR br fun b4 j=>?_
  have j:=(j.pl 17 [1,2,3,4,5,6,0,8,9,10,11,12,13,14,15,16]).bZ 6 true rfl aW
  exact RL.nil ⟨rfl,(ah,ai,aj,ak,al,an,b4,aq,ar,au,av,aw,ax,ae),hv.pu 11,ha.u,zt,j⟩
 ·rintro D U w hD o ag ⟨⟨ah,ai,aj,ak,al,an,ao,aq,ar,au,av,aw,ax,ae⟩,hv,ha,_,j⟩
  obtain⟨O,rfl⟩:=(ac (hv.at 11 rfl (o.1 rfl)) az).eQ
  have j:=(j.bY 6 (o.1 rfl)).bS 7 hD
  refine RL.j9 6 j zr lk dK fun b5 j=>?_
  have j:=((j.pl 17 [1,2,3,4,5,6,7,0,9,10,11,12,13,14,15,16]).bZ 6 (D 11) (o.1 rfl) aW).bZ 7 true rfl aW
  exact RL.nil ⟨rfl,(ah,ai,aj,ak,al,an,ao,b5,ar,au,av,aw,ax,ae),hv.pu 12,ha.u,zt,j⟩
 ·rintro D U w hD o ag ⟨⟨ah,ai,aj,ak,al,an,ao,aq,ar,au,av,aw,ax,ae⟩,hv,ha,_,j⟩
  obtain⟨O,rfl⟩:=(ac (hv.at 12 rfl (o.1 rfl)) az).eQ
  have j:=(j.bY 7 (o.1 rfl)).bS 8 hD
  refine RL.cD 7 bk.Xs j fJ fun b6 j=>?_
  have j:=((j.pl 17 [1,2,3,4,5,6,7,8,0,10,11,12,13,14,15,16]).bZ 7 (D 12) (o.1 rfl) aW).bZ 8 true rfl aW
  exact RL.nil ⟨rfl,(ah,ai,aj,ak,al,an,ao,aq,b6,au,av,aw,ax,ae),hv.pu 13,ha.u,zt,j⟩
 ·rintro D U w hD o ag ⟨⟨ah,ai,aj,ak,al,an,ao,aq,ar,au,av,aw,ax,ae⟩,hv,ha,_,j⟩
  obtain⟨O,rfl⟩:=(ac (hv.at 13 rfl (o.1 rfl)) az).eQ
  have j:=(j.bY 8 (o.1 rfl)).bS 9 hD
  refine RL.cM 8 j fF bt fun b7 j=>?_
  have j:=((j.pl 17 [1,2,3,4,5,6,7,8,9,0,11,12,13,14,15,16]).bZ 8 (D 13) (o.1 rfl) aW).bZ 9 true rfl aW
  exact RL.nil ⟨rfl,(ah,ai,aj,ak,al,an,ao,aq,ar,b7,av,aw,ax,ae),hv.pu 14,ha.u,zt,j⟩
 ·rintro D U w hD o ag ⟨⟨ah,ai,aj,ak,al,an,ao,aq,ar,au,av,aw,ax,ae⟩,hv,ha,_,j⟩
  obtain⟨O,rfl⟩:=(ac (hv.at 14 rfl (o.1 rfl)) az).eQ
  have j:=j.bY 9 (o.1 rfl)
  refine RL.bU bc 9 j dH ?_
  have j:=j.bZ 9 (D 14) (o.1 rfl) aW
  exact RL.nil ⟨rfl,(ah,ai,aj,ak,al,an,ao,aq,ar,au,av,aw,ax,ae),hv.pu 15,ha.u,zt,j⟩
 ·rintro D U w hD o ag ⟨⟨ah,ai,aj,ak,al,an,ao,aq,ar,au,av,aw,ax,ae⟩,hv,ha,_,j⟩
  obtain⟨O,rfl⟩:=(ac (hv.at 17 rfl (o.1 rfl)) az).eQ
  refine RL.cC 15 p0 j ot ?_
  exact RL.nil ⟨rfl,(ah,ai,aj,ak,al,an,ao,aq,ar,au,av,aw,ax,ae),hv.pu 18,ha.u,zt,j⟩
 ·rintro D U w hD o ag ⟨⟨ah,ai,aj,ak,al,an,ao,aq,ar,au,av,aw,ax,ae⟩,hv,ha,_,j⟩
  obtain⟨O,rfl⟩:=(ac (hv.at 16 rfl (o.1 rfl)) (ac (hv.at 19 rfl (o.2.1 rfl)) az)).eQ
  have j:=j.bS 10 hD
  refine RL.cM 15 j kR bu fun b8 j=>?_
  have j:=(j.pl 17 [1,2,3,4,5,6,7,8,9,10,0,12,13,14,15,16]).bZ 10 true rfl aW
  exact RL.nil ⟨rfl,(ah,ai,aj,ak,al,an,ao,aq,ar,au,b8,aw,ax,ae),hv.pu 20,ha.u,zt,j⟩
 ·rintro D U w hD o ag ⟨⟨ah,ai,aj,ak,al,an,ao,aq,ar,au,av,aw,ax,ae⟩,hv,ha,_,j⟩
  obtain⟨O,rfl⟩:=(ac (hv.at 20 rfl (o.1 rfl)) az).eQ
  have j:=(j.bY 10 (o.1 rfl)).bS 11 hD
  refine RL.j9 10 j zr mB eY fun b9 j=>?_
  have j:=((j.pl 17 [1,2,3,4,5,6,7,8,9,10,11,0,13,14,15,16]).bZ 10 (D 20) (o.1 rfl) aW).bZ 11 true rfl aW
  exact RL.nil ⟨rfl,(ah,ai,aj,ak,al,an,ao,aq,ar,au,av,b9,ax,ae),hv.pu 21,ha.u,zt,j⟩
 ·rintro D U w hD o ag ⟨⟨ah,ai,aj,ak,al,an,ao,aq,ar,au,av,aw,ax,ae⟩,hv,ha,_,j⟩
  obtain⟨O,rfl⟩:=(ac (hv.at 21 rfl (o.1 rfl)) az).eQ
  have j:=j.bY 11 (o.1 rfl)
  refine RL.bU a9.Y1 11 j dH ?_
  have j:=j.bZ 11 (D 21) (o.1 rfl) aW
  exact RL.nil ⟨rfl,(ah,ai,aj,ak,al,an,ao,aq,ar,au,av,aw,ax,ae),hv.pu 22,ha.u,zt,j⟩
 ·rintro D U w hD o ag ⟨⟨ah,ai,aj,ak,al,an,ao,aq,ar,au,av,aw,ax,ae⟩,hv,ha,_,j⟩
  obtain⟨O,rfl⟩:=(ac (hv.at 5 rfl (o.1 rfl)) (ac (hv.at 9 rfl (o.2.1 rfl)) (ac (hv.at 15 rfl (o.2.2.1 rfl)) (ac (hv.at 22 rfl (o.2.2.2.1 rfl)) az)))).eQ
  have j:=((((j.bS 12 hD).sc Int bb).sc Int a8.Y0).sc Int bc).sc Int a9.Y1
  refine RL.build (⟨bb,a8.Y0,bc,a9.Y1⟩:aH) trivial rfl j [(0,vi bb),(1,vi a8.Y0),(2,vi bc),(3,vi a9.Y1)] rfl EY rfl (fun M hs g=>by have h:=uu M;exact dY.cons (f:=fun(x:aH) y=>{x with X0:=y}) h qg (g.sat 3 _ rfl).1 fun _ h=>dY.cons (f:=fun(x:aH) y=>{x with Y0:=y}) h tk (g.sat 2 _ rfl).1 fun _ h=>dY.cons (f:=fun(x:aH) y=>{x with X1:=y}) h qh (g.sat 1 _ rfl).1 fun _ h=>dY.cons (f:=fun(x:aH) y=>{x with Y1:=y}) h tm (g.sat 0 _ rfl).1 fun _ h=>dY.nil h) fun ca j=>?_
  have j:=(j.pl 21 [5,6,7,8,9,10,11,12,13,14,15,16,0,18,19,20]).bZ 12 true rfl aW
  exact RL.nil ⟨rfl,(ah,ai,aj,ak,al,an,ao,aq,ar,au,av,aw,ca,ae),hv.pu 23,ha.u,zt,j⟩
 ·rintro D U w hD o ag ⟨⟨ah,ai,aj,ak,al,an,ao,aq,ar,au,av,aw,ax,ae⟩,hv,ha,_,j⟩
  obtain⟨O,rfl⟩:=(az (U:=U)).eQ
  have j:=(j.bS 13 (nh ag hD 25)).bS 13 hD
  refine RL.alloc j pT.z fun bl w j=>?_
  have j:=((j.pl 17 [1,2,3,4,5,6,7,8,9,10,11,12,13,0,15,16]).bZ 13 true rfl aW).fT 13 (D 25) (nh ag hD 25) (bx 75 bl (⟨bb,a8.Y0,bc,a9.Y1⟩:aH))
  exact RL.nil ⟨rfl,(ah,ai,aj,ak,al,an,ao,aq,ar,au,av,aw,ax,bl),hv.pu 24,ha.u,zt,j⟩
 ·rintro D U w hD o ag ⟨⟨ah,ai,aj,ak,al,an,ao,aq,ar,au,av,aw,ax,ae⟩,hv,ha,_,j⟩
  obtain⟨O,rfl⟩:=(ac (hv.at 23 rfl (o.2.1 rfl)) (ac (hv.at 24 rfl (o.1 rfl)) az)).eQ
  have j:=((j.bY 12 (o.2.1 rfl)).bS 13 hD).bY 13 (o.1 rfl)
  refine RL.bM 13 j 12 zr jd fun w j=>?_
  have j:=(j.bZ 12 (D 23) (o.2.1 rfl) aW).bZ 13 true rfl (bif D 24 then (raw 75 ae 4) else aW)
  exact RL.nil ⟨rfl,(ah,ai,aj,ak,al,an,ao,aq,ar,au,av,aw,ax,ae),hv.n1,ha,zt,j⟩
 rintro D U w a6 ⟨⟨ah,ai,aj,ak,al,an,ao,aq,ar,au,av,aw,ax,ae⟩,hv,ha,_,j⟩
 have j:=((((((j.bY 0 (iT a6 1)).bY 1 (iT a6 2)).bY 2 (iT a6 3)).bY 3 (iT a6 4)).bY 4 (iT a6 7)).bY 5 (iT a6 8)).bY 6 (iT a6 11)
 have j:=((((((j.bY 7 (iT a6 12)).bY 8 (iT a6 13)).bY 9 (iT a6 14)).bY 10 (iT a6 20)).bY 11 (iT a6 21)).bY 12 (iT a6 23)).bY 13 (iT a6 25)
 obtain⟨O,rfl⟩:=(ac (hv.at 24 rfl (iT a6 24)) (ac (ha.at 0 rfl) (ac (ha.at 1 rfl) az))).eQ
 refine aG (RC.seq (RC.sr (mv v0 (RL.cC 15 p0 j ot (mv (vi 0) (RL.nt ?_))))))
 obtain⟨af,hN,hb⟩:=bd hb
 refine RC.fold (fun(bg:Nat) (af:aH)=>SH E V [(2,vp bf 0),(3,vp ae 0),(30,v0),(31,vi p0.length),(32,vi bg)] [raw 75 bf 4,bx 75 ae af,rd v0 p0]) (fun(af:aH)=>SH E V [(2,vp bf 0),(3,vp ae 0)] [raw 75 bf 4,bx 75 ae af,rd v0 p0]) hN ?_ ?_ ?_ ?_
 ·exact j.sp 16 [14,13,15]
 ·rintro hm af _ w ⟨O,rfl,j⟩
  refine RC.sr (ic ((p0.length:Int)) ((p0.length:Int)) (RL.nq (RC.dS pD (RC.ex ?_))))
  exact⟨rfl,j.sp 3 [0,1,2]⟩
 ·rintro hm bg af s' _ w hk ⟨O,rfl,j⟩ hb
  refine RC.sr (ic ((bg:Int)) ((p0.length:Int)) (RL.nq (RC.dR (pC hk) (RC.ss (RC.bs ?_)))))
  obtain⟨ba,cc,hb⟩:=bd hb
  refine RL.cM 2 j kR cc fun cd j=>(RL.cD 0 ba j vg fun cf j=>(RL.alloc j B5.z fun bh w j=>?_))
  refine RL.bM 0 j 1 zr vg fun w j=>?_
  refine RL.nt ?_
  obtain⟨a5,cg,hb⟩:=bd hb
  obtain⟨a7,ch,hb⟩:=bd hb
  refine RC.D3 E V mixed [1,0,1,0,0,0,0,1,0,1,0,1,0,0,1,0,0,0,1,0,1,0] [3,4,10,12,15,19,21] (fun(x:Value×Value×Value×Value×Value)=>(fun ay a0 a1 a2 a3=>[(0,36,(vp ae 0)),(1,37,(vi af.X0)),(2,38,(vp bh 2)),(3,39,ay),(4,40,a0),(5,41,(vi a5)),(6,42,(vi (if a5<af.X0 then a5 else af.X0))),(7,43,(vp ae 2)),(8,44,(vi af.X1)),(9,45,(vp bh 2)),(10,46,a1),(11,47,(vp bh 2)),(12,48,a2),(13,49,(vi ba.Xs.length)),(14,50,(vi (IntKind.wrap .i64 ((ba.Xs.length:Int) - 1)))),(15,51,a3),(16,52,(vi a7)),(17,53,(vi (if af.X1<a7 then a7 else af.X1))),(18,54,(vp ae 0)),(20,55,(vp ae 2))]) x.1 x.2.1 x.2.2.1 x.2.2.2.1 x.2.2.2.2) [(2,vp bf 0),(3,vp ae 0),(5,vp bh 0),(30,v0),(31,vi p0.length),(32,vi bg)] [] (fun(D:Nat->Bool) (x:Value×Value×Value×Value×Value)=>(fun ay a0 a1 a2 a3=>[bif D 0 then (rd ay ba.Xs) else aW,bif D 1 then (pt a0 a5) else aW,bif D 2 then (rd a1 ba.Xs) else aW,bif D 3 then (rd a2 ba.Xs) else aW,bif D 4 then (pt a3 a7) else aW,bx 188 bh ba,rd cf ba,pt cd ba,raw 75 bf 4,bif D 6 then (bx 75 ae {{af with X0:=(if a5<af.X0 then a5 else af.X0)} with X1:=(if af.X1<a7 then a7 else af.X1)}) else (bif D 5 then (bx 75 ae {af with X0:=(if a5<af.X0 then a5 else af.X0)}) else (bx 75 ae af)),rd v0 p0]) x.1 x.2.1 x.2.2.1 x.2.2.2.1 x.2.2.2.2) (fun x=>by kernel_rfl) ?_ ⟨fun _=>nn gn kJ,?_,fun _=>nn gn lk,?_,?_,?_,?_,fun _=>nn gn lF,?_,fun _=>nn gn lk,?_,fun _=>nn gn lk,?_,?_,fun _=>IV gn rfl,?_,?_,?_,fun _=>nn gn kJ,?_,fun _=>nn gn lF,?_,trivial⟩ ?_
  ·have j:=(((((j.drew).aW).aW).aW).aW).aW
   exact⟨(undef,undef,undef,undef,undef),eR.none,(CV zr),zt,j⟩
  ·rintro D U w hD o ag ⟨⟨ay,a0,a1,a2,a3⟩,hv,ha,_,j⟩
   obtain⟨O,rfl⟩:=(ac (hv.at 0 rfl (o.1 rfl)) az).eQ
   have j:=(j.bS 9 (nh ag hD 21)).bS 9 (nh ag hD 19)
   refine RL.aX 9 j zr fV dH ?_
   have j:=(j.fT 9 (D 19) (nh ag hD 19) (bx 75 ae {af with X0:=(if a5<af.X0 then a5 else af.X0)})).fT 9 (D 21) (nh ag hD 21) (bx 75 ae {{af with X0:=(if a5<af.X0 then a5 else af.X0)} with X1:=(if af.X1<a7 then a7 else af.X1)})
   exact RL.nil ⟨rfl,(ay,a0,a1,a2,a3),hv.pu 1,ha.u,zt,j⟩
  ·rintro D U w hD o ag ⟨⟨ay,a0,a1,a2,a3⟩,hv,ha,_,j⟩
   obtain⟨O,rfl⟩:=(ac (hv.at 2 rfl (o.1 rfl)) az).eQ
   have j:=j.bS 0 hD
   refine RL.aS 5 j zr dK fJ fun cj j=>?_
   have j:=(j.pl 12 [0,2,3,4,5,6,7,8,9,10,11]).bZ 0 true rfl aW
   exact RL.nil ⟨rfl,(cj,a0,a1,a2,a3),hv.pu 3,ha.u,zt,j⟩
  ·rintro D U w hD o ag ⟨⟨ay,a0,a1,a2,a3⟩,hv,ha,_,j⟩
   obtain⟨O,rfl⟩:=(ac (hv.at 3 rfl (o.1 rfl)) az).eQ
   have j:=(j.bY 0 (o.1 rfl)).bS 1 hD
   refine RL.cM 0 j fF cg fun ck j=>?_
   have j:=((j.pl 12 [1,0,3,4,5,6,7,8,9,10,11]).bZ 0 (D 3) (o.1 rfl) aW).bZ 1 true rfl aW
   exact RL.nil ⟨rfl,(ay,ck,a1,a2,a3),hv.pu 4,ha.u,zt,j⟩
  ·rintro D U w hD o ag ⟨⟨ay,a0,a1,a2,a3⟩,hv,ha,_,j⟩
   obtain⟨O,rfl⟩:=(ac (hv.at 4 rfl (o.1 rfl)) az).eQ
   have j:=j.bY 1 (o.1 rfl)
   refine RL.bU a5 1 j dH ?_
   have j:=j.bZ 1 (D 4) (o.1 rfl) aW
   exact RL.nil ⟨rfl,(ay,a0,a1,a2,a3),hv.pu 5,ha.u,zt,j⟩
  ·rintro D U w hD o ag ⟨⟨ay,a0,a1,a2,a3⟩,hv,ha,_,j⟩
   obtain⟨O,rfl⟩:=(ac (hv.at 1 rfl (o.1 rfl)) (ac (hv.at 5 rfl (o.2.1 rfl)) az)).eQ
   refine RL.min af.X0 a5 ?_
   exact RL.nil ⟨rfl,(ay,a0,a1,a2,a3),hv.pu 6,ha.u,zt,j⟩
  ·rintro D U w hD o ag ⟨⟨ay,a0,a1,a2,a3⟩,hv,ha,_,j⟩
   obtain⟨O,rfl⟩:=(ac (hv.at 7 rfl (o.1 rfl)) az).eQ
   have j:=(j.bS 9 (nh ag hD 21)).bS 9 (nh ag hD 19)
   refine RL.aX 9 j zr gL dH ?_
   have j:=(j.fT 9 (D 19) (nh ag hD 19) (bx 75 ae {af with X0:=(if a5<af.X0 then a5 else af.X0)})).fT 9 (D 21) (nh ag hD 21) (bx 75 ae {{af with X0:=(if a5<af.X0 then a5 else af.X0)} with X1:=(if af.X1<a7 then a7 else af.X1)})
   exact RL.nil ⟨rfl,(ay,a0,a1,a2,a3),hv.pu 8,ha.u,zt,j⟩
  ·rintro D U w hD o ag ⟨⟨ay,a0,a1,a2,a3⟩,hv,ha,_,j⟩
   obtain⟨O,rfl⟩:=(ac (hv.at 9 rfl (o.1 rfl)) az).eQ
   have j:=j.bS 2 hD
   refine RL.aS 5 j zr dK fJ fun cl j=>?_
   have j:=(j.pl 12 [1,2,0,4,5,6,7,8,9,10,11]).bZ 2 true rfl aW
   exact RL.nil ⟨rfl,(ay,a0,cl,a2,a3),hv.pu 10,ha.u,zt,j⟩
  ·rintro D U w hD o ag ⟨⟨ay,a0,a1,a2,a3⟩,hv,ha,_,j⟩
   obtain⟨O,rfl⟩:=(ac (hv.at 11 rfl (o.1 rfl)) az).eQ
   have j:=j.bS 3 hD
   refine RL.aS 5 j zr dK fJ fun cm j=>?_
   have j:=(j.pl 12 [1,2,3,0,5,6,7,8,9,10,11]).bZ 3 true rfl aW
   exact RL.nil ⟨rfl,(ay,a0,a1,cm,a3),hv.pu 12,ha.u,zt,j⟩
  ·rintro D U w hD o ag ⟨⟨ay,a0,a1,a2,a3⟩,hv,ha,_,j⟩
   obtain⟨O,rfl⟩:=(ac (hv.at 12 rfl (o.1 rfl)) az).eQ
   have j:=j.bY 3 (o.1 rfl)
   refine RL.cC 3 ba.Xs j m0 ?_
   have j:=j.bZ 3 (D 12) (o.1 rfl) aW
   exact RL.nil ⟨rfl,(ay,a0,a1,a2,a3),hv.pu 13,ha.u,zt,j⟩
  ·rintro D U w hD o ag ⟨⟨ay,a0,a1,a2,a3⟩,hv,ha,_,j⟩
   obtain⟨O,rfl⟩:=(ac (hv.at 10 rfl (o.1 rfl)) (ac (hv.at 14 rfl (o.2.1 rfl)) az)).eQ
   have j:=(j.bY 2 (o.1 rfl)).bS 4 hD
   refine RL.cM 2 j fF ch fun cn j=>?_
   have j:=((j.pl 12 [1,2,3,4,0,6,7,8,9,10,11]).bZ 2 (D 10) (o.1 rfl) aW).bZ 4 true rfl aW
   exact RL.nil ⟨rfl,(ay,a0,a1,a2,cn),hv.pu 15,ha.u,zt,j⟩
  ·rintro D U w hD o ag ⟨⟨ay,a0,a1,a2,a3⟩,hv,ha,_,j⟩
   obtain⟨O,rfl⟩:=(ac (hv.at 15 rfl (o.1 rfl)) az).eQ
   have j:=j.bY 4 (o.1 rfl)
   refine RL.bU a7 4 j dH ?_
   have j:=j.bZ 4 (D 15) (o.1 rfl) aW
   exact RL.nil ⟨rfl,(ay,a0,a1,a2,a3),hv.pu 16,ha.u,zt,j⟩
  ·rintro D U w hD o ag ⟨⟨ay,a0,a1,a2,a3⟩,hv,ha,_,j⟩
   obtain⟨O,rfl⟩:=(ac (hv.at 8 rfl (o.1 rfl)) (ac (hv.at 16 rfl (o.2.1 rfl)) az)).eQ
   refine RL.max af.X1 a7 ?_
   exact RL.nil ⟨rfl,(ay,a0,a1,a2,a3),hv.pu 17,ha.u,zt,j⟩
  ·rintro D U w hD o ag ⟨⟨ay,a0,a1,a2,a3⟩,hv,ha,_,j⟩
   obtain⟨O,rfl⟩:=(ac (hv.at 6 rfl (o.2.1 rfl)) (ac (hv.at 18 rfl (o.1 rfl)) az)).eQ
   have j:=((j.bS 9 (nh ag hD 21)).bS 9 hD).sc Int (if a5<af.X0 then a5 else af.X0)
   refine RL.Bq 10 j zr zr zr 0 zr qg dH fun w j=>?_
   have j:=((j.pl 12 [1,2,3,4,5,6,7,8,9,10,11]).bZ 9 true rfl (bx 75 ae af)).fT 9 (D 21) (nh ag hD 21) (bx 75 ae {{af with X0:=(if a5<af.X0 then a5 else af.X0)} with X1:=(if af.X1<a7 then a7 else af.X1)})
   exact RL.nil ⟨rfl,(ay,a0,a1,a2,a3),hv.n1,ha,zt,j⟩
  ·rintro D U w hD o ag ⟨⟨ay,a0,a1,a2,a3⟩,hv,ha,_,j⟩
   obtain⟨O,rfl⟩:=(ac (hv.at 17 rfl (o.2.1 rfl)) (ac (hv.at 19 rfl (o.1 rfl)) az)).eQ
   have j:=((j.bS 9 hD).bY 9 (o.2.2.1 rfl)).sc Int (if af.X1<a7 then a7 else af.X1)
   refine RL.Bq 10 j zr zr zr 0 zr qh dH fun w j=>?_
   have j:=(j.pl 12 [1,2,3,4,5,6,7,8,9,10,11]).bZ 9 true rfl (bif D 19 then (bx 75 ae {af with X0:=(if a5<af.X0 then a5 else af.X0)}) else (bx 75 ae af))
   exact RL.nil ⟨rfl,(ay,a0,a1,a2,a3),hv.n1,ha,zt,j⟩
  rintro D U w a6 ⟨⟨ay,a0,a1,a2,a3⟩,hv,ha,_,j⟩
  have j:=(((((j.bY 0 (iT a6 3)).bY 1 (iT a6 4)).bY 2 (iT a6 10)).bY 3 (iT a6 12)).bY 4 (iT a6 15)).bY 9 (iT a6 21)
  obtain⟨O,rfl⟩:=(ac (ha.at 0 rfl) (ac (ha.at 1 rfl) (ac (ha.at 2 rfl) (ac (ha.at 3 rfl) (ac (ha.at 4 rfl) (ac (ha.at 5 rfl) az)))))).eQ
  refine cG (aG (RC.region (RL.inc hk hm (mv (vi ((bg+1:Nat):Int)) (RL.nil ?_)))))
  obtain rfl:=oi hb
  exact⟨rfl,j.sp 11 [8,9,10]⟩
 rintro _ w ⟨O,rfl,j⟩
 refine aG (RC.sr (RL.aS (f:=(fun x=>x)) 1 j zr Fd.self jd fun cp j=>(RL.bM 1 j 0 zr jd fun w j=>?_)))
 refine RL.nt (RC.ret ?_)
 obtain rfl:=oi hb
 exact IH 1 j jd fun cq j=>(j.pk 5 [0])
theorem vr {p0: (List aA)} {res:Bool} (j:Holds E w V) (h0:V[i0]? =some (rd v0 p0)) (hb:lz N p0=some res):
    Calls bN 74 [v0].toArray w (iv (bH E V res)):=by
 unfold lz at hb
 refine enter Tryz.func74 zr zr ?_
 have j:=j.dup (i0+0) h0
 refine RC.sr (aR (vb false) (RL.nq ?_))
 obtain⟨ad,o,hb⟩:=bd hb
 refine RC.jn (fun(ad:Bool)=>SH E V [(2,vb ad)] []) ad ?_ ?_
 ·refine RC.region (mv v0 (RL.cC 0 p0 j ot (ic ((p0.length:Int)) 0 (mv (vb ((p0.length:Int)==0)) (gG o (fun aa o=>?_) fun aa o=>?_)))))
  ·refine cB aa (cB aa (cB aa (gH aa (vb true) (aR (vb true) (RL.nil ?_)))))
   obtain rfl:=oi o
   exact⟨rfl,j.sp 1 []⟩
  refine RL.move v0 (cg aa) ?_
  obtain⟨ai,af,o⟩:=bd o
  refine RL.call (cg aa) zr JR [v0] zr (aF (tS N (i0:=0) j zr af) ?_)
  rintro ag w j
  obtain⟨ae,ah,o⟩:=bd o
  refine RL.call (cg aa) zr H6 [ag] zr (aF (rL N (i0:=0) j zr ah) ?_)
  rintro _ w ⟨rfl,j⟩
  refine gH aa (vb ae) (aR (vb ae) (RL.nil ?_))
  obtain rfl:=oi o
  exact⟨rfl,j.sp 2 []⟩
 rintro _ w ⟨O,rfl,j⟩
 refine aG (RC.ret ?_)
 obtain rfl:=oi hb
 exact cS ⟨rfl,j.drop 0⟩
def xy (E:World) (V:List HP) (res:aH×Int) (v:Value) (w:World):Prop:=∃u0:Value,v = .tuple #[u0,(vi res.2)]/\Holds E w ([rd u0 res.1]++V)
theorem qx {p0:cH} {res:aH×Int} (j:Holds E w V) (h0:V[i0]? =some (rd v0 p0)) (o:jX N p0=some res):
    Calls bN 37 [v0].toArray w (iv (xy E V res)):=by
 unfold jX at o
 refine enter Tryz.func37 zr zr ?_
 have j:=j.dup (i0+0) h0
 refine RC.sr (RL.cX 0 v0 j zr fun af w j=>?_)
 refine RL.alloc j pT.z fun ag w j=>?_
 refine aR (vi 0) (RL.nq (RC.seq ?_))
 obtain⟨ad,hj,o⟩:=bd o
 refine RC.jn (fun(ad:Bool)=>SH E V [(1,vp af 0),(2,vp ag 0),(14,vb ad)] [bx 101 af p0,raw 75 ag 4]) ad ?_ ?_
 ·refine RC.region (RL.bT zr vh (RL.aX 1 j zr qj dH ?_))
  obtain⟨ah,aj,hj⟩:=bd hj
  refine RL.call zt zr F5 [(vi p0.eI),(vi 1),(vi 10000)] zr (aF (ko N (p0:=p0.eI) (p1:=1) (p2:=10000) j aj) ?_)
  rintro _ w ⟨rfl,j⟩
  refine RL.not ah (mv (vb (!ah)) (gG hj (fun aa hj=>?_) fun aa hj=>?_))
  ·refine cB aa (cB aa (cB aa (cB aa (gH aa (vb true) (RL.nil ?_)))))
   obtain rfl:=oi hj
   exact⟨rfl,j.sp 3 [1,0]⟩
  refine RL.bT (hg:=(cg aa)) zr AA (RL.aS (hg:=(cg aa)) 1 j zr wq Hy fun ak j=>?_)
  obtain⟨ai,al,hj⟩:=bd hj
  refine RL.call (cg aa) zr JQ [ak] zr (aF (qw N (i0:=0) j zr al) ?_)
  rintro _ w ⟨rfl,j⟩
  refine RL.not (hg:=(cg aa)) ai (gH aa (vb (!ai)) (RL.nil ?_))
  obtain rfl:=oi hj
  exact⟨rfl,j.sp 4 [2,1]⟩
 rintro _ w ⟨O,rfl,j⟩
 refine aG (fU o (fun hc o=>?_) fun hc o=>?_)
 ·refine RC.sr (RL.build (⟨0,0,0,0⟩:aH) trivial rfl j [] rfl EY rfl (fun M hs g=>by have h:=uu M;exact dY.nil h) fun a2 j=>?_)
  refine RL.bM 2 j 0 zr jd fun w j=>?_
  refine aR (vi 1) (RL.nt (RC.rt ?_))
  obtain rfl:=oi o
  exact zu 2 j jd fun an j=>⟨an,zr,j.pk 4 [0]⟩
 refine RC.sx (RL.aS (f:=(fun x=>x)) 0 j zr Fd.self mf fun ao j=>?_)
 obtain⟨aq,ar,o⟩:=bd o
 refine RL.call zt zr EZ [ao] zr (aF (g9 N (i0:=0) j zr ar) ?_)
 rintro a3 w j
 refine RL.alloc j pT.z fun a4 w j=>?_
 refine RL.bM 0 j 1 zr jd fun w j=>?_
 refine RL.nq (RC.sr (RL.aS (f:=(fun x=>x)) 0 j zr Fd.self jd fun au j=>(RL.fD ([aq]: (List aH)) j [au] mZ pT (fun M hs g=>⟨(g.sat 0 _ zr).1,zt⟩) fun av w j=>?_)))
 have j:=j.freeze 0
 obtain⟨a5,aw,o⟩:=bd o
 refine RL.call zt zr F3 [av] zr (aF (lI N (i0:=0) j zr aw) ?_)
 rintro ax w j
 have j:=j.freeze 0
 obtain⟨ay,az,o⟩:=bd o
 refine RL.call zt zr Ll [ax] zr (aF (vr N (i0:=0) j zr az) ?_)
 rintro _ w ⟨rfl,j⟩
 refine RL.not ay (RL.nt (fU o (fun hc o=>?_) fun hc o=>?_))
 ·refine RC.sr (RL.build (⟨0,0,0,0⟩:aH) trivial rfl j [] rfl EY rfl (fun M hs g=>by have h:=uu M;exact dY.nil h) fun a6 j=>?_)
  refine RL.bM 8 j 0 zr jd fun w j=>?_
  refine aR (vi 1) (RL.nt (RC.rt ?_))
  obtain rfl:=oi o
  exact zu 8 j jd fun a0 j=>⟨a0,zr,j.pk 10 [0]⟩
 refine RC.sx (RL.aS (f:=(fun x=>x)) 3 j zr Fd.self jd fun a7 j=>(RL.bM 8 j 0 zr jd fun w j=>?_))
 refine aR (vi 0) (RL.nt (RC.ret ?_))
 obtain rfl:=oi o
 exact zu 8 j jd fun a1 j=>⟨a1,zr,j.pk 10 [0]⟩
def tT (E:World) (V:List HP) (r:Int) (U:Nat->Value) (w:World):Prop:=nB bN 47 Tryz.f51 (aV E V r) .ret U w
theorem sG {p0:iM} (j:Holds E w V) (h0:V[i0]? =some (rd v0 p0)) (o:jG N p0=some res):
    Calls bN 51 [v0].toArray w (iv (aV E V res)):=by
 unfold jG at o
 refine enter Tryz.func51 zr zr ?_
 have j:=j.dup (i0+0) h0
 refine RC.sr (RL.cX 0 v0 j zr fun a0 w j=>?_)
 refine aR (vi 0) (RL.nq (RC.sr (RL.bT zr oU (RL.aS 0 j zr sm x5 fun a1 j=>(RL.cC 0 p0.aJ j ze (ic ((p0.aJ.length:Int)) 500 (RL.nt (fU o (fun hc o=>?_) fun hc o=>?_))))))))
 ·refine RC.sr (aR (vi 2) (RL.nt (RC.rt ?_)))
  obtain rfl:=oi o
  exact cS ⟨rfl,j.drop 3⟩
 refine RC.sx (RL.bT zr wx (RL.aS 1 j zr ql EV fun a2 j=>(RL.cC 0 p0.aI j B4 (aR (vi p0.aI.length) (RL.nq (RC.sr (RL.bT zr oU (RL.aS 2 j zr sm x5 fun ag j=>?_))))))))
 refine RL.cC 0 p0.aJ j ze (mv (vi 0) (RL.nt ?_))
 obtain⟨a3,hN,o⟩:=bd o
 refine RC.range (fun(ah:Nat) (ai:Unit)=>SH E V [(3,vi p0.aI.length),(16,ag),(17,vi p0.aJ.length),(18,vi ah)] [rd ag p0.aJ]) (fun(ai:Unit)=>SH E V [] [rd ag p0.aJ]) (tT E V) hN ?_ ?_ ?_ ?_ ?_
 ·exact j.sp 5 [0]
 ·rintro hm ai _ w ⟨O,rfl,j⟩
  refine RC.sr (ic ((p0.aJ.length:Int)) ((p0.aJ.length:Int)) (RL.nq (RC.dS pD (RC.ex ?_))))
  exact⟨rfl,j.sp 1 [0]⟩
 ·rintro hm ah ai fl _ w hk ⟨O,rfl,j⟩ o
  refine RC.sr (ic ((ah:Int)) ((p0.aJ.length:Int)) (RL.nq (RC.dR (pC hk) (RC.ss (RC.bs ?_)))))
  obtain⟨ad,au,o⟩:=bd o
  refine RL.cM 0 j B6 au fun a5 j=>(RL.cD 0 ad j mf fun a6 j=>(RL.alloc j zH.z fun a7 w j=>?_))
  refine RL.bM 0 j 1 zr mf fun w j=>?_
  refine RL.nq (RC.sr (RL.aS (f:=(fun x=>x)) 0 j zr Fd.self mf fun av j=>?_))
  obtain⟨ae,aw,o⟩:=bd o
  refine RL.call zt zr JS [av] zr (aF (qx N (i0:=0) j zr aw) ?_)
  rintro _ w ⟨an,rfl,j⟩
  refine mv (.tuple #[an,(vi ae.2)]) (RL.extract an (RL.extract (vi ae.2) (RL.alloc j pT.z fun a8 w j=>?_)))
  refine RL.bM 0 j 1 zr jd fun w j=>?_
  refine aR (vi ae.2) (RL.ns (mv (vi ae.2) (ic ae.2 0 (RL.nt (fU o (fun hc o=>?_) fun hc o=>?_)))))
  ·refine RC.sr (mv (vi ae.2) (aR (vi ae.2) (RL.nt (RC.rt (qV (cO ?_))))))
   obtain rfl:=oi o
   exact⟨rfl,cS ⟨rfl,j.drop 7⟩⟩
  refine RC.ss ?_
  obtain⟨aj,hj,o⟩:=bd o
  refine RC.jn (fun(aj:Bool)=>SH E V [(3,vi p0.aI.length),(16,ag),(17,vi p0.aJ.length),(18,vi ah),(45,vb aj)] [rd ag p0.aJ]) aj ?_ ?_
  ·refine RC.region (RL.bT zr ri (RL.aX 3 j zr nE dH (mv (vi p0.aI.length) (RL.kr (p0.aI.length:Int) 1 ?_))))
   obtain⟨ao,ax,hj⟩:=bd hj
   refine RL.call zt zr F5 [(vi ad.cY),(vi 0),(vi (IntKind.wrap .i64 ((p0.aI.length:Int) - 1)))] zr (aF (ko N (p0:=ad.cY) (p1:=0) (p2:=(IntKind.wrap .i64 ((p0.aI.length:Int) - 1))) j ax) ?_)
   rintro _ w ⟨rfl,j⟩
   refine RL.not ao (mv (vb (!ao)) (gG hj (fun aa hj=>?_) fun aa hj=>?_))
   ·refine cB aa (cB aa (cB aa (cB aa (cB aa (cB aa (cB aa (cB aa (gH aa (vb true) ?_))))))))
    refine RL.nil ?_
    obtain rfl:=oi hj
    exact⟨rfl,j.sp 7 [6]⟩
   refine RL.bT (hg:=(cg aa)) zr tp (RL.aX (hg:=(cg aa)) 3 j zr oK dH (RL.bT (hg:=(cg aa)) zr ri (RL.aX (hg:=(cg aa)) 3 j zr nE dH (RL.move (vi p0.aI.length) (cg aa) (RL.kr (hg:=(cg aa)) (p0.aI.length:Int) 1 ?_)))))
   obtain⟨aq,ay,hj⟩:=bd hj
   refine RL.call (cg aa) zr F5 [(vi ad.To),(vi ad.cY),(vi (IntKind.wrap .i64 ((p0.aI.length:Int) - 1)))] zr (aF (ko N (p0:=ad.To) (p1:=ad.cY) (p2:=(IntKind.wrap .i64 ((p0.aI.length:Int) - 1))) j ay) ?_)
   rintro _ w ⟨rfl,j⟩
   refine RL.not (hg:=(cg aa)) aq (gH aa (vb (!aq)) (RL.nil ?_))
   obtain rfl:=oi hj
   exact⟨rfl,j.sp 7 [6]⟩
  rintro _ w ⟨O,rfl,j⟩
  refine aG (fU o (fun hc o=>?_) fun hc o=>?_)
  rotate_left
  ·refine RC.skip (cG (aG (RC.region (RL.inc hk hm (mv (vi ((ah+1:Nat):Int)) (RL.nil ?_))))))
   obtain rfl:=oi o
   exact⟨rfl,j.sp 1 [0]⟩
  refine RC.sr (aR (vi 1) (RL.nt (RC.rb (cO ?_))))
  obtain rfl:=oi o
  exact⟨rfl,cS ⟨rfl,j.drop 1⟩⟩
 ·intro r U w e hK
  subst e
  refine cO ?_
  obtain rfl:=oi o
  exact hK
 rintro ai _ w rfl ⟨O,rfl,j⟩
 rw [Fo.gw] at o
 refine aG (RC.sr (aR (vi 0) (RL.nt (RC.ret ?_))))
 obtain rfl:=oi o
 exact cS ⟨rfl,j.drop 1⟩
theorem mn {p0:dO} (o:Holds E w V) (j:gQ N p0 p1=some res):
    Calls bN 167 [(str p0),(.int .u8 p1)].toArray w (iv (aV E V res)):=by
 unfold gQ at j
 refine enter Tryz.func167 zr zr (RC.sr (aR (vi 0) (RL.ns (mv (str p0) (mv (.int .u8 p1) (RL.xQ (vi (Lib.indexByte p0.cR (Int.toNat p1).toUInt8)) zr [(str p0),(.int .u8 p1)] zr (Hv p0 p1 w) (aR (vi (Lib.indexByte p0.cR (Int.toNat p1).toUInt8)) (RL.nt ?_))))))))
 refine RC.ret ?_
 obtain rfl:=oi j
 exact cS ⟨rfl,o.drop 0⟩
theorem sH {p0 p1:dO} (o:Holds E w V) (j:jH N p0 p1=some res):
    Calls bN 217 [(str p0),(str p1)].toArray w (iv (aV E V res)):=by
 unfold jH at j
 refine enter Tryz.func217 zr zr (RC.sr (aR (vi 0) (RL.ns (mv (str p1) (RL.lens p1 B7 (aR (vi p1.cR.length) (RL.nq (RC.bs ?_))))))))
 refine mv (vi p1.cR.length) (ic ((p1.cR.length:Int)) 0 (mv (vb ((p1.cR.length:Int)==0)) (RL.gs true ((p1.cR.length:Int)==0) (str p1) rfl rfl rfl dW (RL.gs true ((p1.cR.length:Int)==0) (str p0) rfl rfl rfl dW (RL.gs true ((p1.cR.length:Int)==0) (vb (p1.Af p0)) rfl rfl rfl (Hi .eql p1 p0 rfl (fun h=>by exact(dN h:cv (true&&(((p1.cR.length:Int)==0)==false)) (str p1)= (str p1))) (fun h=>by exact(dN h:cv (true&&(((p1.cR.length:Int)==0)==false)) (str p0)= (str p0))) rfl) (RL.pick ((p1.cR.length:Int)==0) (vb (((p1.cR.length:Int)==0)||(p1.Af p0))) (oO true) (aR (vb (((p1.cR.length:Int)==0)||(p1.Af p0))) (RL.nt ?_))))))))
 refine fU j (fun hc j=>?_) fun hc j=>?_
 ·refine RC.sr (aR (vi 0) (RL.nt (RC.rb (cO ?_))))
  obtain rfl:=oi j
  exact cS ⟨rfl,o.drop 0⟩
 refine RC.sr (mv (vi p1.cR.length) (ic ((p1.cR.length:Int)) 1 (aR (vb ((p1.cR.length:Int)==1)) (RL.nt (fU j (fun hc j=>?_) fun hc j=>?_)))))
 ·refine RC.sr (mv (str p0) (mv (str p1) ?_))
  obtain⟨ab,ad,j⟩:=bd j
  refine RL.idxs p1 0 ab zr zr zr B7 ad ?_
  obtain⟨ae,af,j⟩:=bd j
  refine RL.call zt zr Ic [(str p0),(.int .u8 (ab.toNat:Int))] zr (aF (mn N (p0:=p0) (p1:=(ab.toNat:Int)) o af) ?_)
  rintro _ w ⟨rfl,o⟩
  refine aR (vi ae) (RL.nt (RC.rb (cO ?_)))
  obtain rfl:=oi j
  exact cS ⟨rfl,o.drop 0⟩
 refine RC.sr (mv (vi p1.cR.length) (mv (str p0) (RL.lens p0 B7 (ic ((p1.cR.length:Int)) ((p0.cR.length:Int)) (aR (vb (decide ((p1.cR.length:Int)>=(p0.cR.length:Int)))) (RL.nt (fU j (fun hc j=>?_) fun hc j=>?_)))))))
 rotate_left
 ·cases j
 refine RC.sr (aR (vi (-1)) (RL.nt (RC.rb (cO ?_))))
 obtain rfl:=oi j
 exact cS ⟨rfl,o.drop 0⟩
theorem qy {p0 p1:dO} (o:Holds E w V) (j:kW N p0 p1=some res):
    Calls bN 203 [(str p0),(str p1)].toArray w (iv (aV E V res)):=by
 unfold kW at j
 refine enter Tryz.func203 zr zr (RC.sr (aR (vi 0) (RL.ns (mv (str p0) (mv (str p1) ?_)))))
 obtain⟨aa,ab,j⟩:=bd j
 refine RL.call zt zr JU [(str p0),(str p1)] zr (aF (sH N (p0:=p0) (p1:=p1) o ab) ?_)
 rintro _ w ⟨rfl,o⟩
 refine aR (vi aa) (RL.nt (RC.ret ?_))
 obtain rfl:=oi j
 exact cS ⟨rfl,o.drop 0⟩
def xz (E:World) (V:List HP) (r:Int) (U:Nat->Value) (w:World):Prop:=nB bN 34 Tryz.f202 (aV E V r) .ret U w
theorem wB {p0 p1:dO} (hw:Holds E w V) (j:mj N p0 p1=some res):
    Calls bN 202 [(str p0),(str p1)].toArray w (iv (aV E V res)):=by
 unfold mj at j
 refine enter Tryz.func202 zr zr (RC.sr (aR (vi 0) (RL.nq (RC.sr (mv (str p1) (RL.lens p1 B7 (ic ((p1.cR.length:Int)) 0 (RL.nt ?_))))))))
 refine fU j (fun hc j=>?_) fun hc j=>?_
 ·cases j
 refine RC.ss (RC.sr (mv (str p1) (RL.lens p1 B7 (ic ((p1.cR.length:Int)) 1 (RL.nt (fU j (fun hc j=>?_) fun hc j=>?_))))))
 ·refine RC.sr (mv (str p0) (mv (str p1) ?_))
  obtain⟨ad,af,j⟩:=bd j
  refine RL.idxs p1 0 ad zr zr zr B7 af (RL.xQ (vi ((Lib.countByte p0.cR (Int.toNat (ad.toNat:Int)).toUInt8:Nat):Int)) zr [(str p0),(.int .u8 (ad.toNat:Int))] zr (Ln p0 (ad.toNat:Int) w) (aR (vi ((Lib.countByte p0.cR (Int.toNat (ad.toNat:Int)).toUInt8:Nat):Int)) (RL.nt (RC.rt ?_))))
  obtain rfl:=oi j
  exact cS ⟨rfl,hw.drop 0⟩
 refine RC.sx (aR (vi 0) (RL.nt ?_))
 obtain⟨al,hN,j⟩:=bd j
 refine RC.iter (fun(o:dO×Int)=>SH E V [(0,(str o.1)),(1,(str p1)),(4,vi 0),(5,vi o.2)] []) (fun(o:dO×Int)=>SH E V [(4,vi 0)] []) (xz E V) hN ?_ ?_ ?_ ?_
 ·exact hw.sp 0 []
 ·rintro o fl _ w ⟨O,rfl,hw⟩ j
  refine RC.bs (mv (str o.1) (mv (str p1) ?_))
  obtain⟨ae,ah,j⟩:=bd j
  refine RL.call zt zr Ie [(str o.1),(str p1)] zr (aF (qy N (p0:=o.1) (p1:=p1) hw ah) ?_)
  rintro _ w ⟨rfl,hw⟩
  refine aR (vi ae) (RL.nq (RC.sr (mv (vi ae) (ic ae ((-1)) (RL.nt (fU j (fun hc j=>?_) fun hc j=>?_))))))
  ·refine RC.sr (mv (vi o.2) (aR (vi o.2) (RL.nt (RC.rt (qV ?_)))))
   obtain rfl:=oi j
   exact⟨rfl,cS ⟨rfl,hw.drop 0⟩⟩
  refine RC.sx (mv (vi o.2) (RL.kr o.2 1 (aR (vi (IntKind.wrap .i64 (o.2+1))) (RL.nt (RC.region (mv (str o.1) (mv (vi ae) (mv (str p1) ?_))))))))
  refine RL.lens p1 B7 (RL.kr ae (p1.cR.length:Int) ?_)
  obtain⟨ai,aj,j⟩:=bd j
  refine RL.um o.1 zr zr B7 (.inl zr) (.inr ⟨rfl,zr⟩) aj (aR (str ai) (RL.nil (cG ?_)))
  obtain rfl:=oi j
  exact⟨rfl,hw.sp 0 []⟩
 ·intro r U w e hK
  subst e
  obtain rfl:=oi j
  exact hK
 rintro o _ w rfl ⟨O,rfl,hw⟩
 rw [Fo.gw] at j
 obtain rfl:=oi j
 refine DN ?_
 exact cS ⟨rfl,hw.drop 0⟩
theorem tU {p0 p1:dO} {res: (List dO)} (o:Holds E w V) (j:lZ N p0 p1 p2 p3=some res):
    Calls bN 166 [(str p0),(str p1),(vi p2),(vi p3)].toArray w (iv (oV E V res)):=by
 unfold lZ at j
 refine enter Tryz.func166 zr zr (RC.sr (aR (.slice none 0 0) (RL.nq (RC.sr (mv (vi p3) (ic p3 0 (RL.nt (fU j (fun hc j=>?_) fun hc j=>?_))))))))
 ·refine RC.sr (aR (.slice none 0 0) (RL.nt (RC.rt ?_)))
  obtain rfl:=oi j
  have o:=o.dC dO 9
  exact cS (o.pk 1 [0])
 refine RC.ss (RC.sr (mv (str p1) (RL.EL p1 ⟨[]⟩ zt zr zr zr zr (RL.nt (fU j (fun hc j=>?_) fun hc j=>?_)))))
 ·cases j
 refine RC.ss (RC.sr (mv (vi p3) (ic p3 0 (RL.nt ?_))))
 obtain⟨ab,hj,j⟩:=bd j
 refine RC.jn (fun(ab:Int)=>SH E V [(0,(str p0)),(1,(str p1)),(2,vi p2),(3,vi ab)] []) ab ?_ ?_
 ·refine fU hj (fun hc hj=>?_) fun hc hj=>?_
  rotate_left
  ·refine RC.skip ?_
   obtain rfl:=oi hj
   exact⟨rfl,o.sp 0 []⟩
  refine RC.region (mv (str p0) (mv (str p1) ?_))
  obtain⟨aj,ak,hj⟩:=bd hj
  refine RL.call zt zr JV [(str p0),(str p1)] zr (aF (wB N (p0:=p0) (p1:=p1) o ak) ?_)
  rintro _ w ⟨rfl,o⟩
  refine RL.kr aj 1 (aR (vi (IntKind.wrap .i64 (aj+1))) (RL.nil ?_))
  obtain rfl:=oi hj
  exact⟨rfl,o.sp 0 []⟩
 rintro _ w ⟨O,rfl,o⟩
 refine aG (RC.sr (mv (vi ab) (mv (str p0) (RL.lens p0 B7 (RL.kr (p0.cR.length:Int) 1 (RL.min ab (IntKind.wrap .i64 ((p0.cR.length:Int)+1)) (aR (vi (if (IntKind.wrap .i64 ((p0.cR.length:Int)+1))<ab then (IntKind.wrap .i64 ((p0.cR.length:Int)+1)) else ab)) (RL.ns ?_))))))))
 refine mv (vi (if (IntKind.wrap .i64 ((p0.cR.length:Int)+1))<ab then (IntKind.wrap .i64 ((p0.cR.length:Int)+1)) else ab)) ?_
 obtain⟨ay,al,j⟩:=bd j
 refine RL.mk (if (IntKind.wrap .i64 ((p0.cR.length:Int)+1))<ab then (IntKind.wrap .i64 ((p0.cR.length:Int)+1)) else ab) o JW Ma al fun ae w o=>?_
 refine aR ae (RL.ns (mv (vi (if (IntKind.wrap .i64 ((p0.cR.length:Int)+1))<ab then (IntKind.wrap .i64 ((p0.cR.length:Int)+1)) else ab)) (RL.kr (if (IntKind.wrap .i64 ((p0.cR.length:Int)+1))<ab then (IntKind.wrap .i64 ((p0.cR.length:Int)+1)) else ab) 1 (aR (vi (IntKind.wrap .i64 ((if (IntKind.wrap .i64 ((p0.cR.length:Int)+1))<ab then (IntKind.wrap .i64 ((p0.cR.length:Int)+1)) else ab) - 1))) (RL.ns (aR (vi 0) (RL.nq ?_)))))))
 obtain⟨az,hN,j⟩:=bd j
 refine RC.iter (fun(aa:dO×(List dO)×Int)=>SH E V [(0,(str aa.1)),(1,(str p1)),(2,vi p2),(3,(vi (IntKind.wrap .i64 ((if (IntKind.wrap .i64 ((p0.cR.length:Int)+1))<ab then (IntKind.wrap .i64 ((p0.cR.length:Int)+1)) else ab) - 1)))),(9,ae),(10,vi aa.2.2)] [own 9 ae aa.2.1]) (fun(aa:dO×(List dO)×Int)=>SH E V [(0,(str aa.1)),(9,ae),(10,vi aa.2.2)] [own 9 ae aa.2.1]) (fun(r:Empty) _ _=>r.elim) hN ?_ ?_ ?_ ?_
 ·exact o.sp 1 [0]
 ·rintro aa fl _ w ⟨O,rfl,o⟩ j
  refine RC.seq (RC.sr (mv (vi aa.2.2) (mv (vi (IntKind.wrap .i64 ((if (IntKind.wrap .i64 ((p0.cR.length:Int)+1))<ab then (IntKind.wrap .i64 ((p0.cR.length:Int)+1)) else ab) - 1))) (ic aa.2.2 ((IntKind.wrap .i64 ((if (IntKind.wrap .i64 ((p0.cR.length:Int)+1))<ab then (IntKind.wrap .i64 ((p0.cR.length:Int)+1)) else ab) - 1))) (RL.nt (fU j (fun hc j=>?_) fun hc j=>?_))))))
  rotate_left
  ·refine RC.ex ?_
   obtain rfl:=oi j
   exact⟨rfl,o.sp 1 [0]⟩
  refine RC.sn (RC.bs (mv (str aa.1) (mv (str p1) ?_)))
  obtain⟨ag,ao,j⟩:=bd j
  refine RL.call zt zr Ie [(str aa.1),(str p1)] zr (aF (qy N (p0:=aa.1) (p1:=p1) o ao) ?_)
  rintro _ w ⟨rfl,o⟩
  refine aR (vi ag) (RL.nq (RC.sr (mv (vi ag) (ic ag 0 (RL.nt (fU j (fun hc j=>?_) fun hc j=>?_))))))
  ·refine RC.ex (FM ?_)
   obtain rfl:=oi j
   exact⟨rfl,o.sp 1 [0]⟩
  refine RC.sx (mv ae (mv (vi aa.2.2) (mv (str aa.1) (mv (vi ag) (mv (vi p2) (RL.kr ag p2 ?_))))))
  obtain⟨aq,ar,j⟩:=bd j
  refine RL.um aa.1 zr zr B7 (.inr ⟨rfl,zr⟩) (.inl zr) ar ?_
  obtain⟨a1,ah,j⟩:=bd j
  refine RL.bO 0 o zr zr D7 ah ?_
  have o:=o.sc dO aq
  refine RL.iJ (f:=(fun _ y=>y)) 1 0 o (ku 1 o ah 0) (bC ah).2.1 zr Fs.self F9 fun w o=>?_
  refine RL.ns (mv (str aa.1) (mv (vi ag) (mv (str p1) (RL.lens p1 B7 (RL.kr ag (p1.cR.length:Int) ?_)))))
  obtain⟨au,av,j⟩:=bd j
  refine RL.um aa.1 zr zr B7 (.inl zr) (.inr ⟨rfl,zr⟩) av (aR (str au) (RL.nt (RC.region (mv (vi aa.2.2) (RL.kr aa.2.2 1 (aR (vi (IntKind.wrap .i64 (aa.2.2+1))) (RL.nil (cG ?_))))))))
  obtain rfl:=oi j
  exact⟨rfl,o.sp 2 [1]⟩
 ·intro r _ _ _ _
  exact r.elim
 rintro aa _ w rfl ⟨O,rfl,o⟩
 rw [Fo.gw] at j
 refine aG (RC.sr (mv ae (mv (vi aa.2.2) (mv (str aa.1) ?_))))
 obtain⟨a2,ai,j⟩:=bd j
 refine RL.bO 0 o zr zr D7 ai ?_
 have o:=o.sc dO aa.1
 refine RL.iJ (f:=(fun _ y=>y)) 1 0 o (ku 1 o ai 0) (bC ai).2.1 zr Fs.self F9 fun w o=>?_
 refine RL.ns (mv ae (mv (vi aa.2.2) (RL.kr aa.2.2 1 ?_)))
 obtain⟨a3,aw,j⟩:=bd j
 refine RL.uW 1 zr o zr zr D7 (.inr ⟨rfl,zr⟩) (.inl zr) aw fun ax o=>(aR ax (RL.nt (RC.ret ?_)))
 obtain rfl:=oi j
 exact cS (o.pk 2 [1])
theorem wC {p0 p1:dO} {res: (List dO)} (o:Holds E w V) (j:kX N p0 p1=some res):
    Calls bN 134 [(str p0),(str p1)].toArray w (iv (oV E V res)):=by
 unfold kX at j
 refine enter Tryz.func134 zr zr (RC.sr (aR (.slice none 0 0) (RL.ns (mv (str p0) (mv (str p1) ?_)))))
 obtain⟨ad,aa,j⟩:=bd j
 refine RL.call zt zr JX [(str p0),(str p1),(vi 0),(vi (-1))] zr (aF (tU N (p0:=p0) (p1:=p1) (p2:=0) (p3:=(-1)) o aa) ?_)
 rintro ab w o
 refine aR ab (RL.nt (RC.ret ?_))
 obtain rfl:=oi j
 exact cS (o.pk 1 [0])
def px (E:World) (V:List HP) (r:Int) (U:Nat->Value) (w:World):Prop:=nB bN 19 Tryz.f165 (aV E V r) .ret U w
theorem oY {p0: (List dO)} {p1:dO->Option Bool} (j:Holds E w V) (h0:V[i0]? =some (rd v0 p0)) (h1:G8 bN E V v1 p1 (fun(r:Bool)=>Value.bool r)) (o:kd N p0 p1=some res):
    Calls bN 165 [v0,v1].toArray w (iv (aV E V res)):=by
 unfold kd at o
 refine enter Tryz.func165 zr zr ?_
 have j:=j.dup (i0+0) h0
 refine RC.sr (aR (vi 0) (RL.nq (RC.sr (mv v0 (RL.cC 0 p0 j JZ (mv (vi 0) (RL.nt ?_)))))))
 obtain⟨al,hN,o⟩:=bd o
 refine RC.range (fun(aa:Nat) (ab:Unit)=>SH E V [(0,v0),(1,v1),(7,vi p0.length),(8,vi aa)] [rd v0 p0]) (fun(ab:Unit)=>SH E V [] [rd v0 p0]) (px E V) hN ?_ ?_ ?_ ?_ ?_
 ·exact j.sp 1 [0]
 ·rintro hm ab _ w ⟨O,rfl,j⟩
  refine RC.sr (ic ((p0.length:Int)) ((p0.length:Int)) (RL.nq (RC.dS pD (RC.ex ?_))))
  exact⟨rfl,j.sp 1 [0]⟩
 ·rintro hm aa ab fl _ w hk ⟨O,rfl,j⟩ o
  refine RC.sr (ic ((aa:Int)) ((p0.length:Int)) (RL.nq (RC.dR (pC hk) (RC.ss (RC.bs (mv (vi aa) (aR (vi aa) (RL.ns ?_))))))))
  refine mv v1 (mv v0 (mv (vi aa) ?_))
  obtain⟨af,ah,o⟩:=bd o
  refine RL.cM 0 j D7 ah fun ao j=>(RL.bU af 0 j F9 ?_)
  have j:=j.sc dO af
  obtain⟨aq,ai,o⟩:=bd o
  refine RL.Aj 0 zr j zr h1 3 zr zr zr ai fun w j=>(RL.nt (fU o (fun hc o=>?_) fun hc o=>?_))
  rotate_left
  ·refine RC.skip (cG (aG (RC.region (RL.inc hk hm (mv (vi ((aa+1:Nat):Int)) (RL.nil ?_))))))
   obtain rfl:=oi o
   exact⟨rfl,j.sp 3 [2]⟩
  refine RC.sr (mv (vi aa) (aR (vi aa) (RL.nt (RC.rb (cO ?_)))))
  obtain rfl:=oi o
  exact⟨rfl,cS ⟨rfl,j.drop 3⟩⟩
 ·intro r U w e hK
  subst e
  refine cO ?_
  obtain rfl:=oi o
  exact hK
 rintro ab _ w rfl ⟨O,rfl,j⟩
 rw [Fo.gw] at o
 refine aG (RC.sr (aR (vi (-1)) (RL.nt (RC.ret ?_))))
 obtain rfl:=oi o
 exact cS ⟨rfl,j.drop 1⟩
theorem nT {p0: (List dO)} {p1:dO->Option Bool} {res:Bool} (j:Holds E w V) (h0:V[i0]? =some (rd v0 p0)) (h1:G8 bN E V v1 p1 (fun(r:Bool)=>Value.bool r)) (o:gD N p0 p1=some res):
    Calls bN 133 [v0,v1].toArray w (iv (bH E V res)):=by
 unfold gD at o
 refine enter Tryz.func133 zr zr ?_
 have j:=j.dup (i0+0) h0
 refine RC.sr (aR (vb false) (RL.ns (mv v0 (mv v1 ?_))))
 obtain⟨aa,ab,o⟩:=bd o
 refine RL.call zt zr J0 [v0,v1] zr (aF (oY N (i0:=0) j zr (h1.lift 1 zr) ab) ?_)
 rintro _ w ⟨rfl,j⟩
 refine ic aa 0 (aR (vb (decide (aa>=0))) (RL.nt (RC.ret ?_)))
 obtain rfl:=oi o
 exact cS ⟨rfl,j.drop 1⟩
theorem sI {p0:dO} (o:Holds E w V) (j:fO N p0 p1=some res):
    Calls bN 136 [(str p0),(.int .u8 p1)].toArray w (iv (aV E V res)):=by
 unfold fO at j
 refine enter Tryz.func136 zr zr (RC.sr (aR (vi 0) (RL.ns (mv (str p0) (mv (.int .u8 p1) ?_)))))
 obtain⟨aa,ab,j⟩:=bd j
 refine RL.call zt zr Ic [(str p0),(.int .u8 p1)] zr (aF (mn N (p0:=p0) (p1:=p1) o ab) ?_)
 rintro _ w ⟨rfl,o⟩
 refine aR (vi aa) (RL.nt (RC.ret ?_))
 obtain rfl:=oi j
 exact cS ⟨rfl,o.drop 0⟩
def wD (E:World) (V:List HP) (r:Bool) (U:Nat->Value) (w:World):Prop:=nB bN 49 Tryz.f94 (bH E V r) .ret U w
theorem pK {p0:dO} {res:Bool} (hw:Holds E w V) (o:iq N p0=some res):
    Calls bN 94 [(str p0)].toArray w (iv (bH E V res)):=by
 unfold iq at o
 refine enter Tryz.func94 zr zr (RC.sr (aR (vb false) (RL.nq (RC.sr (mv (str p0) (RL.lens p0 B7 (mv (vi 0) (RL.nt ?_))))))))
 obtain⟨ar,hN,o⟩:=bd o
 refine RC.range (fun(ab:Nat) (af:Unit)=>SH E V [(0,(str p0)),(6,vi p0.cR.length),(7,vi ab)] []) (fun(af:Unit)=>SH E V [(0,(str p0))] []) (wD E V) hN ?_ ?_ ?_ ?_ ?_
 ·exact hw.sp 0 []
 ·rintro hm af _ w ⟨O,rfl,hw⟩
  refine RC.sr (ic ((p0.cR.length:Int)) ((p0.cR.length:Int)) (RL.nq (RC.dS pD (RC.ex ?_))))
  exact⟨rfl,hw.sp 0 []⟩
 ·rintro hm ab af fl _ w hk ⟨O,rfl,hw⟩ o
  refine RC.sr (ic ((ab:Int)) ((p0.cR.length:Int)) (RL.nq (RC.dR (pC hk) (RC.ss (RC.bs (mv (vi ab) (aR (vi ab) (RL.ns ?_))))))))
  refine mv (str p0) (mv (vi ab) ?_)
  obtain⟨j,al,o⟩:=bd o
  refine RL.idxs p0 (ab:Int) j zr zr zr B7 al (aR (.int .u8 (j.toNat:Int)) (RL.nq ?_))
  obtain⟨ag,hj,o⟩:=bd o
  refine RC.jn (fun(ag:Bool)=>SH E V [(0,(str p0)),(6,vi p0.cR.length),(7,vi ab),(39,vb ag)] []) ag ?_ ?_
  ·refine RC.region (mv (.int .u8 (j.toNat:Int)) (ic ((j.toNat:Int)) 65 (mv (vb (decide ((j.toNat:Int)<65))) (RL.gs true (decide ((j.toNat:Int)<65)) (.int .u8 (j.toNat:Int)) rfl rfl rfl dW (RL.gs true (decide ((j.toNat:Int)<65)) (vb (decide ((j.toNat:Int)>90))) rfl rfl rfl (fN .gtr .u8 (j.toNat:Int) 90 rfl (fun h=>by exact(dN h:cv (true&&((decide ((j.toNat:Int)<65))==false)) (.int .u8 (j.toNat:Int))= (.int .u8 (j.toNat:Int)))) (fun _=>rfl) rfl) (RL.pick (decide ((j.toNat:Int)<65)) (vb ((decide ((j.toNat:Int)<65))||(decide ((j.toNat:Int)>90)))) (oO true) (mv (vb ((decide ((j.toNat:Int)<65))||(decide ((j.toNat:Int)>90)))) (RL.gs true ((decide ((j.toNat:Int)<65))||(decide ((j.toNat:Int)>90))) (.int .u8 (j.toNat:Int)) rfl rfl rfl dW ?_))))))))
   refine RL.gs true ((decide ((j.toNat:Int)<65))||(decide ((j.toNat:Int)>90))) (vb (decide ((j.toNat:Int)<97))) rfl rfl rfl (fN .lss .u8 (j.toNat:Int) 97 rfl (fun h=>by exact(dN h:cv (true&&(((decide ((j.toNat:Int)<65))||(decide ((j.toNat:Int)>90)))==true)) (.int .u8 (j.toNat:Int))= (.int .u8 (j.toNat:Int)))) (fun _=>rfl) rfl) (RL.gs true ((decide ((j.toNat:Int)<65))||(decide ((j.toNat:Int)>90))) (vb (decide ((j.toNat:Int)<97))) rfl rfl rfl (dW (hx:=fun h=>by exact(dN h:cv (true&&(((decide ((j.toNat:Int)<65))||(decide ((j.toNat:Int)>90)))==true)) (vb (decide ((j.toNat:Int)<97)))= (vb (decide ((j.toNat:Int)<97)))))) (RL.gs (true&&(((decide ((j.toNat:Int)<65))||(decide ((j.toNat:Int)>90)))==true)) (decide ((j.toNat:Int)<97)) (.int .u8 (j.toNat:Int)) rfl rfl rfl dW (RL.gs (true&&(((decide ((j.toNat:Int)<65))||(decide ((j.toNat:Int)>90)))==true)) (decide ((j.toNat:Int)<97)) (vb (decide ((j.toNat:Int)>122))) rfl rfl rfl (fN .gtr .u8 (j.toNat:Int) 122 rfl (fun h=>by exact(dN h:cv ((true&&(((decide ((j.toNat:Int)<65))||(decide ((j.toNat:Int)>90)))==true))&&((decide ((j.toNat:Int)<97))==false)) (.int .u8 (j.toNat:Int))= (.int .u8 (j.toNat:Int)))) (fun _=>rfl) rfl) (RL.gs true ((decide ((j.toNat:Int)<65))||(decide ((j.toNat:Int)>90))) (vb ((decide ((j.toNat:Int)<97))||(decide ((j.toNat:Int)>122)))) rfl rfl rfl (ti (decide ((j.toNat:Int)<97)) rfl (fun h=>by exact(dN h:cv (true&&(((decide ((j.toNat:Int)<65))||(decide ((j.toNat:Int)>90)))==true)) (vb (decide ((j.toNat:Int)<97)))= (vb (decide ((j.toNat:Int)<97))))) (fun h=>by exact oO (h:=h) (true&&(((decide ((j.toNat:Int)<65))||(decide ((j.toNat:Int)>90)))==true)))) (RL.pick ((decide ((j.toNat:Int)<65))||(decide ((j.toNat:Int)>90))) (vb (((decide ((j.toNat:Int)<65))||(decide ((j.toNat:Int)>90)))&&((decide ((j.toNat:Int)<97))||(decide ((j.toNat:Int)>122))))) (k7 true) (mv (vb (((decide ((j.toNat:Int)<65))||(decide ((j.toNat:Int)>90)))&&((decide ((j.toNat:Int)<97))||(decide ((j.toNat:Int)>122))))) (RL.gs true (((decide ((j.toNat:Int)<65))||(decide ((j.toNat:Int)>90)))&&((decide ((j.toNat:Int)<97))||(decide ((j.toNat:Int)>122)))) (.int .u8 (j.toNat:Int)) rfl rfl rfl dW (RL.gs true (((decide ((j.toNat:Int)<65))||(decide ((j.toNat:Int)>90)))&&((decide ((j.toNat:Int)<97))||(decide ((j.toNat:Int)>122)))) (vb (decide ((j.toNat:Int)<48))) rfl rfl rfl (fN .lss .u8 (j.toNat:Int) 48 rfl (fun h=>by exact(dN h:cv (true&&((((decide ((j.toNat:Int)<65))||(decide ((j.toNat:Int)>90)))&&((decide ((j.toNat:Int)<97))||(decide ((j.toNat:Int)>122))))==true)) (.int .u8 (j.toNat:Int))= (.int .u8 (j.toNat:Int)))) (fun _=>rfl) rfl) ?_))))))))
   refine RL.gs true (((decide ((j.toNat:Int)<65))||(decide ((j.toNat:Int)>90)))&&((decide ((j.toNat:Int)<97))||(decide ((j.toNat:Int)>122)))) (vb (decide ((j.toNat:Int)<48))) rfl rfl rfl (dW (hx:=fun h=>by exact(dN h:cv (true&&((((decide ((j.toNat:Int)<65))||(decide ((j.toNat:Int)>90)))&&((decide ((j.toNat:Int)<97))||(decide ((j.toNat:Int)>122))))==true)) (vb (decide ((j.toNat:Int)<48)))= (vb (decide ((j.toNat:Int)<48)))))) (RL.gs (true&&((((decide ((j.toNat:Int)<65))||(decide ((j.toNat:Int)>90)))&&((decide ((j.toNat:Int)<97))||(decide ((j.toNat:Int)>122))))==true)) (decide ((j.toNat:Int)<48)) (.int .u8 (j.toNat:Int)) rfl rfl rfl dW (RL.gs (true&&((((decide ((j.toNat:Int)<65))||(decide ((j.toNat:Int)>90)))&&((decide ((j.toNat:Int)<97))||(decide ((j.toNat:Int)>122))))==true)) (decide ((j.toNat:Int)<48)) (vb (decide ((j.toNat:Int)>57))) rfl rfl rfl (fN .gtr .u8 (j.toNat:Int) 57 rfl (fun h=>by exact(dN h:cv ((true&&((((decide ((j.toNat:Int)<65))||(decide ((j.toNat:Int)>90)))&&((decide ((j.toNat:Int)<97))||(decide ((j.toNat:Int)>122))))==true))&&((decide ((j.toNat:Int)<48))==false)) (.int .u8 (j.toNat:Int))= (.int .u8 (j.toNat:Int)))) (fun _=>rfl) rfl) (RL.gs true (((decide ((j.toNat:Int)<65))||(decide ((j.toNat:Int)>90)))&&((decide ((j.toNat:Int)<97))||(decide ((j.toNat:Int)>122)))) (vb ((decide ((j.toNat:Int)<48))||(decide ((j.toNat:Int)>57)))) rfl rfl rfl (ti (decide ((j.toNat:Int)<48)) rfl (fun h=>by exact(dN h:cv (true&&((((decide ((j.toNat:Int)<65))||(decide ((j.toNat:Int)>90)))&&((decide ((j.toNat:Int)<97))||(decide ((j.toNat:Int)>122))))==true)) (vb (decide ((j.toNat:Int)<48)))= (vb (decide ((j.toNat:Int)<48))))) (fun h=>by exact oO (h:=h) (true&&((((decide ((j.toNat:Int)<65))||(decide ((j.toNat:Int)>90)))&&((decide ((j.toNat:Int)<97))||(decide ((j.toNat:Int)>122))))==true)))) (RL.pick (((decide ((j.toNat:Int)<65))||(decide ((j.toNat:Int)>90)))&&((decide ((j.toNat:Int)<97))||(decide ((j.toNat:Int)>122)))) (vb ((((decide ((j.toNat:Int)<65))||(decide ((j.toNat:Int)>90)))&&((decide ((j.toNat:Int)<97))||(decide ((j.toNat:Int)>122))))&&((decide ((j.toNat:Int)<48))||(decide ((j.toNat:Int)>57))))) (k7 true) (mv (vb ((((decide ((j.toNat:Int)<65))||(decide ((j.toNat:Int)>90)))&&((decide ((j.toNat:Int)<97))||(decide ((j.toNat:Int)>122))))&&((decide ((j.toNat:Int)<48))||(decide ((j.toNat:Int)>57))))) (gG hj (fun ad hj=>?_) fun ad hj=>?_))))))
   rotate_left
   ·refine cB ad (cB ad (cB ad (gH ad (vb false) (RL.nil ?_))))
    obtain rfl:=oi hj
    exact⟨rfl,hw.sp 0 []⟩
   refine RL.move (.int .u8 (j.toNat:Int)) (cg ad) ?_
   obtain⟨aj,an,hj⟩:=bd hj
   refine RL.call (cg ad) zr J3 [(str ⟨[95,43,45,35]⟩),(.int .u8 (j.toNat:Int))] zr (aF (sI N (p0:=⟨[95,43,45,35]⟩) (p1:=(j.toNat:Int)) hw an) ?_)
   rintro _ w ⟨rfl,hw⟩
   refine RL.lr aj 0 (cg ad) (gH ad (vb (decide (aj<0))) (RL.nil ?_))
   obtain rfl:=oi hj
   exact⟨rfl,hw.sp 0 []⟩
  rintro _ w ⟨O,rfl,hw⟩
  refine aG (fU o (fun hc o=>?_) fun hc o=>?_)
  rotate_left
  ·refine RC.skip (cG (aG (RC.region (RL.inc hk hm (mv (vi ((ab+1:Nat):Int)) (RL.nil ?_))))))
   obtain rfl:=oi o
   exact⟨rfl,hw.sp 0 []⟩
  refine RC.sr (aR (vb false) (RL.nt (RC.rb (cO ?_))))
  obtain rfl:=oi o
  exact⟨rfl,cS ⟨rfl,hw.drop 0⟩⟩
 ·intro r U w e hK
  subst e
  refine cO ?_
  obtain rfl:=oi o
  exact hK
 rintro af _ w rfl ⟨O,rfl,hw⟩
 rw [Fo.gw] at o
 refine aG (RC.sr (mv (str p0) (RL.lens p0 B7 (ic ((p0.cR.length:Int)) 1 (mv (vb (decide ((p0.cR.length:Int)>=1))) (RL.gs true (decide ((p0.cR.length:Int)>=1)) (str p0) rfl rfl rfl dW (RL.gs true (decide ((p0.cR.length:Int)>=1)) (vi p0.cR.length) rfl rfl rfl (Hj (s:=p0) rfl (fun h=>by exact(dN h:cv (true&&((decide ((p0.cR.length:Int)>=1))==true)) (str p0)= (str p0))) B7) (RL.gs true (decide ((p0.cR.length:Int)>=1)) (vb (decide ((p0.cR.length:Int)<=40))) rfl rfl rfl (fN .leq .i64 (p0.cR.length:Int) 40 rfl (fun h=>by exact(dN h:cv (true&&((decide ((p0.cR.length:Int)>=1))==true)) (vi p0.cR.length)= (vi p0.cR.length))) (fun _=>rfl) rfl) ?_))))))))
 refine RL.pick (decide ((p0.cR.length:Int)>=1)) (vb ((decide ((p0.cR.length:Int)>=1))&&(decide ((p0.cR.length:Int)<=40)))) (k7 true) (aR (vb ((decide ((p0.cR.length:Int)>=1))&&(decide ((p0.cR.length:Int)<=40)))) (RL.nt (RC.ret ?_)))
 obtain rfl:=oi o
 exact cS ⟨rfl,hw.drop 0⟩
theorem sJ {p0:dO} {res:Bool} (o:Holds E w V) (j:gE N p0=some res):
    Calls bN 135 [(str p0)].toArray w (iv (bH E V res)):=by
 unfold gE at j
 refine enter Tryz.func135 zr zr (RC.sr (aR (vb false) (RL.ns (mv (str p0) ?_))))
 obtain⟨aa,ab,j⟩:=bd j
 refine RL.call zt zr J4 [(str p0)] zr (aF (pK N (p0:=p0) o ab) ?_)
 rintro _ w ⟨rfl,o⟩
 refine RL.not aa (aR (vb (!aa)) (RL.nt (RC.ret ?_)))
 obtain rfl:=oi j
 exact cS ⟨rfl,o.drop 0⟩
theorem vt {p0:dO} {res:Bool} (j:Holds E w V) (hb:lA N p0=some res):
    Calls bN 93 [(str p0)].toArray w (iv (bH E V res)):=by
 unfold lA at hb
 refine enter Tryz.func93 zr zr (RC.sr (aR (vb false) (RL.nq ?_)))
 obtain⟨ad,hj,hb⟩:=bd hb
 refine RC.jn (fun(ad:Bool)=>SH E V [(2,vb ad)] []) ad ?_ ?_
 ·refine RC.region (mv (str p0) (RL.lens p0 B7 (ic ((p0.cR.length:Int)) 200 (mv (vb (decide ((p0.cR.length:Int)<=200))) (gG hj (fun o hj=>?_) fun o hj=>?_)))))
  rotate_left
  ·refine cB o (cB o (cB o (cB o (gH o (vb false) (aR (vb false) (RL.nil ?_))))))
   obtain rfl:=oi hj
   exact⟨rfl,j.sp 0 []⟩
  refine RL.move (str p0) (cg o) ?_
  obtain⟨ai,af,hj⟩:=bd hj
  refine RL.call (cg o) zr JY [(str p0),(str ⟨[47]⟩)] zr (aF (wC N (p0:=p0) (p1:=⟨[47]⟩) j af) ?_)
  rintro ag w j
  have j:=j.freeze 0
  obtain⟨ae,ah,hj⟩:=bd hj
  refine RL.call (cg o) rfl J6 [ag,(.func (.func 135) #[] #[])] rfl (aF (nT N (i0:=0) j rfl ⟨135,[],rfl,J5,fun w Γl v y0 r i j hi hr=>by obtain rfl:=j.Bp (γ:=dO) hi;exact aF (sJ N (p0:=y0) j hr) fun _ _ h=>h⟩ ah) ?_)
  rintro _ w ⟨rfl,j⟩
  refine RL.not (hg:=(cg o)) ae (gH o (vb (!ae)) (aR (vb (!ae)) (RL.nil ?_)))
  obtain rfl:=oi hj
  exact⟨rfl,j.sp 1 []⟩
 rintro _ w ⟨O,rfl,j⟩
 refine aG (RC.ret ?_)
 obtain rfl:=oi hb
 exact cS ⟨rfl,j.drop 0⟩
def yd (E:World) (V:List HP) (res:fL) (v:Value) (w:World):Prop:=Holds E w ([rd v res]++V)
theorem mC {p0:eW} {res:fL} (j:Holds E w V) (h0:V[i0]? =some (rd v0 p0)) (o:kF N p0=some res):
    Calls bN 78 [v0].toArray w (iv (yd E V res)):=by
 unfold kF at o
 refine enter Tryz.func78 zr zr ?_
 have j:=j.dup (i0+0) h0
 refine RC.sr (RL.cX 0 v0 j zr fun aa w j=>?_)
 refine RL.alloc j J7.z fun ab w j=>?_
 refine RL.ns (RL.bT zr F8 (RL.aX 1 j zr zD F9 (RL.bT zr Ga (RL.aX 1 j zr zF F9 ?_))))
 have j:=(j.sc dO p0.Part).sc dO p0.fL
 refine RL.build (⟨p0.Part,p0.fL⟩:fL) trivial rfl j [(0,(str p0.Part)),(1,(str p0.fL))] rfl Lp rfl (fun M hs g=>by have h:=JB M;exact dY.cons (f:=fun(x:fL) y=>{x with Part:=y}) h FY (g.sat 1 _ rfl).1 fun _ h=>dY.cons (f:=fun(x:fL) y=>{x with fL:=y}) h FZ (g.sat 0 _ rfl).1 fun _ h=>dY.nil h) fun ad j=>?_
 refine RL.bM 3 j 0 zr qo fun w j=>?_
 refine RL.nt (RC.ret ?_)
 obtain rfl:=oi o
 exact IH 3 j qo fun ae j=>(j.pk 7 [0])
theorem pX {p0 p1:dO} (o:Holds E w V) (j:k9 N p0 p1=some res):
    Calls bN 163 [(str p0),(str p1)].toArray w (iv (aV E V res)):=by
 unfold k9 at j
 refine enter Tryz.func163 zr zr (RC.sr (aR (vi 0) (RL.ns (mv (str p0) (mv (str p1) (RL.xQ (vi (Lib.compareBytes p0.cR p1.cR)) zr [(str p0),(str p1)] zr (Lq p0 p1 w) (aR (vi (Lib.compareBytes p0.cR p1.cR)) (RL.nt ?_))))))))
 refine RC.ret ?_
 obtain rfl:=oi j
 exact cS ⟨rfl,o.drop 0⟩
theorem oZ {p0 p1:dO} (o:Holds E w V) (j:mA N p0 p1=some res):
    Calls bN 130 [(str p0),(str p1)].toArray w (iv (aV E V res)):=by
 unfold mA at j
 refine enter Tryz.func130 zr zr (RC.sr (aR (vi 0) (RL.ns (mv (str p0) (mv (str p1) ?_)))))
 obtain⟨aa,ab,j⟩:=bd j
 refine RL.call zt zr J8 [(str p0),(str p1)] zr (aF (pX N (p0:=p0) (p1:=p1) o ab) ?_)
 rintro _ w ⟨rfl,o⟩
 refine aR (vi aa) (RL.nt (RC.ret ?_))
 obtain rfl:=oi j
 exact cS ⟨rfl,o.drop 0⟩
theorem m8 {p0 p1:fL} (j:Holds E w V) (h0:V[i0]? =some (rd v0 p0)) (h1:V[i1]? =some (rd v1 p1)) (o:gJ N p0 p1=some res):
    Calls bN 77 [v0,v1].toArray w (iv (aV E V res)):=by
 unfold gJ at o
 refine enter Tryz.func77 zr zr ?_
 have j:=(j.dup (i0+0) h0).dup (i1+1) h1
 refine RC.sr (RL.cX 1 v0 j zr fun ag w j=>?_)
 refine RL.cX 1 v1 j zr fun ah w j=>?_
 refine aR (vi 0) (RL.nq (RC.sr (RL.bT zr Gb (RL.aX 1 j zr B0 F9 (RL.bT zr Gb (RL.aX 0 j zr B0 F9 ?_))))))
 obtain⟨aa,ab,o⟩:=bd o
 refine RL.call zt zr Ig [(str p0.Part),(str p1.Part)] zr (aF (oZ N (p0:=p0.Part) (p1:=p1.Part) j ab) ?_)
 rintro _ w ⟨rfl,j⟩
 refine aR (vi aa) (RL.ns (mv (vi aa) (ic aa 0 (RL.nt (fU o (fun hc o=>?_) fun hc o=>?_)))))
 ·refine RC.sr (mv (vi aa) (aR (vi aa) (RL.nt (RC.rt ?_))))
  obtain rfl:=oi o
  exact cS ⟨rfl,j.drop 4⟩
 refine RC.sx (RL.bT zr Gc (RL.aX 1 j zr B1 F9 (RL.bT zr Gc (RL.aX 0 j zr B1 F9 ?_))))
 obtain⟨ae,af,o⟩:=bd o
 refine RL.call zt zr Ig [(str p0.fL),(str p1.fL)] zr (aF (oZ N (p0:=p0.fL) (p1:=p1.fL) j af) ?_)
 rintro _ w ⟨rfl,j⟩
 refine aR (vi ae) (RL.nt (RC.ret ?_))
 obtain rfl:=oi o
 exact cS ⟨rfl,j.drop 4⟩
def tV (E:World) (V:List HP) (r:Int) (U:Nat->Value) (w:World):Prop:=nB bN 60 Tryz.f52 (aV E V r) .ret U w
theorem sK {p0:iM} (j:Holds E w V) (h0:V[i0]? =some (rd v0 p0)) (hb:jI N p0=some res):
    Calls bN 52 [v0].toArray w (iv (aV E V res)):=by
 unfold jI at hb
 refine enter Tryz.func52 zr zr ?_
 have j:=j.dup (i0+0) h0
 refine RC.sr (RL.cX 0 v0 j zr fun ag w j=>?_)
 have j:=j.jw (i:=0) rfl
 refine aR (vi 0) (RL.nq (RC.sr (RL.j9 0 j zr x6 sq fun bk j=>(RL.cD 0 p0.bG j F6 fun bl j=>(RL.cC 0 p0.bG j Hz (ic ((p0.bG.length:Int)) 1000 (RL.nt (fU hb (fun hc hb=>?_) fun hc hb=>?_))))))))
 ·refine RC.sr (aR (vi 2) (RL.nt (RC.rt ?_)))
  obtain rfl:=oi hb
  exact cS ⟨rfl,j.drop 4⟩
 refine RC.ss (RC.sr (RL.j9 2 j zr x6 sq fun bm j=>(RL.cD 0 p0.bG j F6 fun ah j=>(RL.cC 0 p0.bG j Hz (mv (vi 0) (RL.nt ?_))))))
 obtain⟨bn,hN,hb⟩:=bd hb
 refine RC.range (fun(ad:Nat) (ak:Unit)=>SH E V [(1,vp ag 0),(10,ah),(11,vi p0.bG.length),(12,vi ad)] [pt (vp ag 0) p0,rd ah p0.bG]) (fun(ak:Unit)=>SH E V [] [pt (vp ag 0) p0,rd ah p0.bG]) (tV E V) hN ?_ ?_ ?_ ?_ ?_
 ·exact j.sp 6 [4,0]
 ·rintro hm ak _ w ⟨O,rfl,j⟩
  refine RC.sr (ic ((p0.bG.length:Int)) ((p0.bG.length:Int)) (RL.nq (RC.dS pD (RC.ex ?_))))
  exact⟨rfl,j.sp 2 [0,1]⟩
 ·rintro hm ad ak fl _ w hk ⟨O,rfl,j⟩ hb
  refine RC.sr (ic ((ad:Int)) ((p0.bG.length:Int)) (RL.nq (RC.dR (pC hk) (RC.ss (RC.bs (mv (vi ad) ?_))))))
  obtain⟨ai,a1,hb⟩:=bd hb
  refine RL.cM 1 j F7 a1 fun bp j=>(RL.cD 0 ai j x8 fun bq j=>(RL.alloc j JT.z fun al w j=>?_))
  refine aR (vi ad) (RL.bM 0 j 1 zr x8 fun w j=>?_)
  refine RL.nt (RC.block (RC.seq ?_))
  obtain⟨an,o,hb⟩:=bd hb
  refine RC.jn (fun(an:Bool)=>SH E V [(1,vp ag 0),(3,vi ad),(4,vp al 0),(10,ah),(11,vi p0.bG.length),(12,vi ad),(17,vb an)] [pt (vp ag 0) p0,bx 77 al ai,rd ah p0.bG]) an ?_ ?_
  ·refine RC.region (RL.bT zr F8 (RL.aX 0 j zr zD F9 ?_))
   obtain⟨ay,a2,o⟩:=bd o
   refine RL.call zt zr Lo [(str ai.Part)] zr (aF (vt N (p0:=ai.Part) j a2) ?_)
   rintro _ w ⟨rfl,j⟩
   refine RL.not ay (mv (vb (!ay)) (gG o (fun ae o=>?_) fun ae o=>?_))
   ·refine cB ae (cB ae (cB ae (cB ae (gH ae (vb true) (aR (vb true) (RL.nil ?_))))))
    obtain rfl:=oi o
    exact⟨rfl,j.sp 5 [3,0,4]⟩
   refine RL.bT (hg:=(cg ae)) zr Ga (RL.aX (hg:=(cg ae)) 0 j zr zF F9 ?_)
   obtain⟨ao,a3,o⟩:=bd o
   refine RL.call (cg ae) zr J4 [(str ai.fL)] zr (aF (pK N (p0:=ai.fL) j a3) ?_)
   rintro _ w ⟨rfl,j⟩
   refine RL.not (hg:=(cg ae)) ao (gH ae (vb (!ao)) (aR (vb (!ao)) (RL.nil ?_)))
   obtain rfl:=oi o
   exact⟨rfl,j.sp 5 [3,0,4]⟩
  rintro _ w ⟨O,rfl,j⟩
  refine aG (fU hb (fun hc hb=>?_) fun hc hb=>?_)
  ·refine RC.sr (aR (vi 5) (RL.nt (RC.rb (qV (cO ?_)))))
   obtain rfl:=oi hb
   exact⟨rfl,cS ⟨rfl,j.drop 3⟩⟩
  refine RC.seq ?_
  obtain⟨aq,o,hb⟩:=bd hb
  refine RC.jn (fun(aq:Bool)=>SH E V [(1,vp ag 0),(3,vi ad),(4,vp al 0),(10,ah),(11,vi p0.bG.length),(12,vi ad),(28,vb aq)] [pt (vp ag 0) p0,bx 77 al ai,rd ah p0.bG]) aq ?_ ?_
  ·refine RC.region (RL.bT zr Db (RL.aX 1 j zr wu dH (RL.j9 0 j zr wx ql fun br j=>(RL.cD 0 p0.aI j EV fun bt j=>(RL.cC 0 p0.aI j B4 (RL.kr (p0.aI.length:Int) 1 ?_))))))
   obtain⟨az,a4,o⟩:=bd o
   refine RL.call zt zr F5 [(vi ai.eT),(vi 0),(vi (IntKind.wrap .i64 ((p0.aI.length:Int) - 1)))] zr (aF (ko N (p0:=ai.eT) (p1:=0) (p2:=(IntKind.wrap .i64 ((p0.aI.length:Int) - 1))) j a4) ?_)
   rintro _ w ⟨rfl,j⟩
   refine RL.not az (mv (vb (!az)) (gG o (fun af o=>?_) fun af o=>?_))
   ·refine cB af (cB af (cB af (cB af (gH af (vb true) (aR (vb true) (RL.nil ?_))))))
    obtain rfl:=oi o
    exact⟨rfl,j.sp 5 [2,3,4]⟩
   refine RL.bT (hg:=(cg af)) zr Dc (RL.aS (hg:=(cg af)) 3 j zr wv Hy fun a5 j=>?_)
   obtain⟨ar,a6,o⟩:=bd o
   refine RL.call (cg af) zr JQ [a5] zr (aF (qw N (i0:=0) j zr a6) ?_)
   rintro _ w ⟨rfl,j⟩
   refine RL.not (hg:=(cg af)) ar (gH af (vb (!ar)) (aR (vb (!ar)) (RL.nil ?_)))
   obtain rfl:=oi o
   exact⟨rfl,j.sp 6 [3,4,5]⟩
  rintro _ w ⟨O,rfl,j⟩
  refine aG (fU hb (fun hc hb=>?_) fun hc hb=>?_)
  ·refine RC.sr (aR (vi 1) (RL.nt (RC.rb (qV (cO ?_)))))
   obtain rfl:=oi hb
   exact⟨rfl,cS ⟨rfl,j.drop 3⟩⟩
  refine RC.seq ?_
  obtain⟨au,o,hb⟩:=bd hb
  refine RC.jn (fun(au:Bool)=>SH E V [(1,vp ag 0),(10,ah),(11,vi p0.bG.length),(12,vi ad),(43,vb au)] [pt (vp ag 0) p0,rd ah p0.bG]) au ?_ ?_
  ·refine RC.Bj mixed [0,0,0,0,2,1,1,1,1,1,1,2,2,0,0,0] [0,1,2,3,5,6,7,8,9,10,4,11,12,13,14,15] ?_
   have j:=j.drew
   refine DP.e0 zr (mv (vi ad) (bR zr (ic ((ad:Int)) 0 (bR zr (mv (vb (decide ((ad:Int)>0))) (DP.d0 (gG o (fun ab o=>?_) fun ab o=>?_)))))))
   rotate_left
   ·refine DP.e0 zr (cB ab (DP.d0 (DP.e1 undef zr (fun w=>cB ab DP.d1) (DP.e1 undef zr (fun w=>cB ab DP.d1) (DP.e1 undef zr (fun w=>cB ab DP.d1) (DP.e1 undef zr (fun w=>cB ab DP.d1) (DP.e1 undef zr (fun w=>cB ab DP.d1) (DP.e1 undef zr (fun w=>cB ab DP.d1) ?_))))))))
    refine DP.e2 zr (cB ab (IX zr (cB ab (IX zr (cB ab (zb zr (cB ab (bR zr ?_))))))))
    refine gH ab (vb false) (bR zr (aR (vb false) (DP.d0 (DP.z ?_))))
    obtain rfl:=oi o
    exact⟨rfl,j.sp 3 [0,2]⟩
   refine DP.e0 zr (RL.aS (hg:=(cg ab)) (f:=(fun x=>x)) 1 j zr Fd.self x8 fun a7 j=>(DP.d0 (DP.JA 1 zr (cg ab) j zr x6 sq fun bu j=>(DP.Ax (hg:=(cg ab)) p0.bG 0 zr j F6 fun bw a378 bz j=>(DP.e1 (vi ad) zr (fun w=>RL.move (vi ad) (cg ab) DP.d1) (DP.e1 (vi (IntKind.wrap .i64 ((ad:Int) - 1))) zr (fun w=>RL.kr (hg:=(cg ab)) (ad:Int) 1 DP.d1) ?_))))))
   obtain⟨a8,a9,o⟩:=bd o
   refine DP.IZ (hg:=(cg ab)) 1 zr j F7 a9 fun b0 j=>(DP.Ax (hg:=(cg ab)) a8 0 zr j x8 fun ba a383 b1 j=>(DP.e2 zr ?_))
   obtain⟨b2,bb,o⟩:=bd o
   refine RL.call (cg ab) zr HA [a7] zr (aF (mC N (i0:=6) j zr bb) ?_)
   rintro bc w j
   refine DP.d2 (⟨⟨zt,j.np 4⟩,j.np 1⟩) (DP.e2 zr ?_)
   obtain⟨b3,bf,o⟩:=bd o
   refine RL.call (cg ab) zr HA [ba] zr (aF (mC N (i0:=2) j zr bf) ?_)
   rintro bg w j
   refine DP.d2 (⟨⟨zt,j.np 5⟩,j.np 2⟩) (DP.e2 zr ?_)
   obtain⟨av,bh,o⟩:=bd o
   refine RL.call (cg ab) zr J9 [bc,bg] zr (aF (m8 N (i0:=1) (i1:=0) j zr zr bh) ?_)
   rintro _ w ⟨rfl,j⟩
   refine DP.d2 (⟨⟨zt,j.np 5⟩,j.np 2⟩) (DP.e0 zr (RL.lr av 0 (cg ab) (bR zr (gH ab (vb (decide (av<=0))) (bR zr (aR (vb (decide (av<=0))) (DP.d0 ?_)))))))
   have j:=j.pl 12 [0,1,3,4,6,7,8,9,10,11]
   refine DP.z ?_
   obtain rfl:=oi o
   exact⟨rfl,j.sp 10 [7,9]⟩
  rintro _ w ⟨O,rfl,j⟩
  refine aG (fU hb (fun hc hb=>?_) fun hc hb=>?_)
  rotate_left
  ·refine RC.skip (cG (cG (aG (RC.region (RL.inc hk hm (mv (vi ((ad+1:Nat):Int)) (RL.nil ?_)))))))
   obtain rfl:=oi hb
   exact⟨rfl,j.sp 2 [0,1]⟩
  refine RC.sr (aR (vi 8) (RL.nt (RC.rb (qV (cO ?_)))))
  obtain rfl:=oi hb
  exact⟨rfl,cS ⟨rfl,j.drop 2⟩⟩
 ·intro r U w e hK
  subst e
  refine cO ?_
  obtain rfl:=oi hb
  exact hK
 rintro ak _ w rfl ⟨O,rfl,j⟩
 rw [Fo.gw] at hb
 refine aG (RC.sr (aR (vi 0) (RL.nt (RC.ret ?_))))
 obtain rfl:=oi hb
 exact cS ⟨rfl,j.drop 2⟩
theorem qz (o:Holds E w V) (j:kY N p0 p1 p2 p3=some res):
    Calls bN 95 [(vi p0),(vi p1),(vi p2),(vi p3)].toArray w (iv (aV E V res)):=by
 unfold kY at j
 refine enter Tryz.func95 zr zr (RC.sr (aR (vi 0) (RL.ns (mv (vi p2) (mv (vi p1) (RL.kr p2 p1 (RL.kr (IntKind.wrap .i64 (p2 - p1)) 1 (mv (vi p0) ?_))))))))
 refine mv (vi p3) (RL.kr p0 p3 (RL.kr (IntKind.wrap .i64 (p0 - p3)) 1 (RL.Lc (a:=0) (b:=(IntKind.wrap .i64 ((IntKind.wrap .i64 (p2 - p1))+1))) (c:=(IntKind.wrap .i64 ((IntKind.wrap .i64 (p0 - p3))+1))) zt zr zr zr zr (aR (vi (if (if 0< (IntKind.wrap .i64 ((IntKind.wrap .i64 (p2 - p1))+1)) then (IntKind.wrap .i64 ((IntKind.wrap .i64 (p2 - p1))+1)) else 0)< (IntKind.wrap .i64 ((IntKind.wrap .i64 (p0 - p3))+1)) then (IntKind.wrap .i64 ((IntKind.wrap .i64 (p0 - p3))+1)) else (if 0< (IntKind.wrap .i64 ((IntKind.wrap .i64 (p2 - p1))+1)) then (IntKind.wrap .i64 ((IntKind.wrap .i64 (p2 - p1))+1)) else 0))) (RL.nt (RC.ret ?_))))))
 obtain rfl:=oi j
 exact cS ⟨rfl,o.drop 0⟩
theorem AN {p0 p1:aH} (j:Holds E w V) (h0:V[i0]? =some (rd v0 p0)) (h1:V[i1]? =some (rd v1 p1)) (o:qd N p0 p1=some res):
    Calls bN 53 [v0,v1].toArray w (iv (aV E V res)):=by
 unfold qd at o
 refine enter Tryz.func53 zr zr ?_
 have j:=(j.dup (i0+0) h0).dup (i1+1) h1
 refine RC.sr (RL.cX 1 v0 j zr fun aa w j=>?_)
 refine RL.cX 1 v1 j zr fun ab w j=>?_
 refine aR (vi 0) (RL.nq ?_)
 have j:=j.drew
 refine RC.FX (fun w=>Holds E w ([bx 75 ab p1,bx 75 aa p0]++V)) mixed zr [0,0,0,0,0,0,0,0,2,1,1,1,1,1,1,1,1,2,0,0] [0,1,2,3,4,5,6,7,9,10,11,12,13,14,15,16,8,17,18,19] (j.pk 4 [0,1]) (DP.e0 zr (RL.bT zr kJ (bR zr (RL.aX 1 j zr fV dH (bR zr (RL.bT zr lF (bR zr (RL.aX 1 j zr gL dH ?_))))))))
 refine bR zr (RL.bT zr kJ (bR zr (RL.aX 0 j zr fV dH (bR zr (RL.bT zr lF (bR zr (RL.aX 0 j zr gL dH (DP.d0 ?_))))))))
 refine DP.e1 (vp aa 1) zr (fun w=>RL.bT zr lE DP.d1) (DP.IW (vi p0.Y0) zr (fun w j=>RL.aX 1 j zr gv dH DP.d1) (DP.e1 (vp aa 3) zr (fun w=>RL.bT zr oT DP.d1) (DP.IW (vi p0.Y1) zr (fun w j=>RL.aX 1 j zr km dH DP.d1) (DP.e1 (vp ab 1) zr (fun w=>RL.bT zr lE DP.d1) (DP.IW (vi p1.Y0) zr (fun w j=>RL.aX 0 j zr gv dH DP.d1) (DP.e1 (vp ab 3) zr (fun w=>RL.bT zr oT DP.d1) (DP.IW (vi p1.Y1) zr (fun w j=>RL.aX 0 j zr km dH DP.d1) (DP.e2 zr ?_))))))))
 obtain⟨ad,af,o⟩:=bd o
 refine RL.call zt zr Ka [(vi p0.X0),(vi p0.X1),(vi p1.X0),(vi p1.X1)] zr (aF (qz N (p0:=p0.X0) (p1:=p0.X1) (p2:=p1.X0) (p3:=p1.X1) j af) ?_)
 rintro _ w ⟨rfl,j⟩
 refine DP.d2 (j.pk 4 [0,1]) (DP.e2 zr ?_)
 obtain⟨ae,ag,o⟩:=bd o
 refine RL.call zt zr Ka [(vi p0.Y0),(vi p0.Y1),(vi p1.Y0),(vi p1.Y1)] zr (aF (qz N (p0:=p0.Y0) (p1:=p0.Y1) (p2:=p1.Y0) (p3:=p1.Y1) j ag) ?_)
 rintro _ w ⟨rfl,j⟩
 refine DP.d2 (j.pk 4 [0,1]) (DP.e0 zr (RL.max ad ae (bR zr (aR (vi (if ad<ae then ae else ad)) (DP.d0 (DP.z (aG (RC.ret ?_))))))))
 obtain rfl:=oi o
 exact cS ⟨rfl,j.drop 4⟩
end Go.Gk
