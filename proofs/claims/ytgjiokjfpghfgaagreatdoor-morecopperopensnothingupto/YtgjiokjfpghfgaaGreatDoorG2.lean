/-
  Printed texts: Go functions as plain functions, and that they are. No statement of the seed is proved here.
-/
import Derived.Test.YtgjiokjfpghfgaaGreatDoorG1
import Derived.Test.YtgjiokjfpghfgaaGreatDoorA2
set_option linter.unusedVariables false
set_option linter.unusedSimpArgs false
set_option linter.unusedSectionVars false
set_option maxRecDepth 100000
set_option maxHeartbeats 4000000
namespace Go.Gk
open Go Go.Proofs
variable (N:Nat) {E w:World} {i0 i1:Nat} {p0 p1 p2 p3 res:Int} {v0 v1:Value} {V:List HP}
theorem fY {p0:bH} {res:aG} (j:Holds E w V) (h0:V[i0]? =some (rd v0 p0)) (o:eK N p0=some res):
    Calls bG 22 [v0].toArray w (gF (nr E V res)):=by
 unfold eK at o
 refine enter Tryz.func22 zr zr ?_
 have j:=j.dup (i0+0) h0
 refine RC.sr (RL.cX 0 v0 j zr fun aa w j=>?_)
 refine RL.alloc j nL.z fun ab w j=>?_
 refine RL.nq (RC.xR mixed ?_)
 have j:=j.drew
 refine RO.go (RL.bF zr zm (RO.nx (RL.bF zr xg (RO.nx (RL.aS (f:=(fun x=>x.At.X)) 1 j zr (Fd.comp (f:=fun(x:bH)=>x.At) (f':=fun(x:iU)=>x.X) tw oQ) cV (RO.nx (RL.bF zr uW (RO.nx ?_))))))))
 refine RL.aS 1 j zr n9 cV (RO.nx (RL.quo p0.eD 2 zr zr zr zr (RO.nx (RL.jV p0.At.X (IntKind.wrap .i64 (Int.tdiv p0.eD 2)) (RO.nx (RL.bF zr zm (RO.nx (RL.bF zr xh ?_))))))))
 refine RO.nx (RL.aS (f:=(fun x=>x.At.Y)) 1 j zr (Fd.comp (f:=fun(x:bH)=>x.At) (f':=fun(x:iU)=>x.Y) tw oR) cV (RO.nx (RL.bF zr uW (RO.nx (RL.aS 1 j zr n9 cV (RO.nx (RL.quo p0.eD 2 zr zr zr zr (RO.nx ?_))))))))
 refine RL.jV p0.At.Y (IntKind.wrap .i64 (Int.tdiv p0.eD 2)) (RO.nx (aN (vi (IntKind.wrap .i64 (p0.At.X - (IntKind.wrap .i64 (Int.tdiv p0.eD 2))))) (RO.nx (aN (vi (IntKind.wrap .i64 (p0.At.Y - (IntKind.wrap .i64 (Int.tdiv p0.eD 2))))) (RO.last (aJ (RC.sr (mv (vi (IntKind.wrap .i64 (p0.At.X - (IntKind.wrap .i64 (Int.tdiv p0.eD 2))))) ?_))))))))
 refine mv (vi (IntKind.wrap .i64 (p0.At.Y - (IntKind.wrap .i64 (Int.tdiv p0.eD 2))))) (mv (vi (IntKind.wrap .i64 (p0.At.X - (IntKind.wrap .i64 (Int.tdiv p0.eD 2))))) (RL.bF zr uW (RL.aS 1 j zr n9 cV (RL.jV (IntKind.wrap .i64 (p0.At.X - (IntKind.wrap .i64 (Int.tdiv p0.eD 2)))) p0.eD (mv (vi (IntKind.wrap .i64 (p0.At.Y - (IntKind.wrap .i64 (Int.tdiv p0.eD 2))))) (RL.bF zr uW (RL.aS 1 j zr n9 cV (RL.jV (IntKind.wrap .i64 (p0.At.Y - (IntKind.wrap .i64 (Int.tdiv p0.eD 2)))) p0.eD ?_))))))))
 have j:=((j.sc Int (IntKind.wrap .i64 (p0.At.X - (IntKind.wrap .i64 (Int.tdiv p0.eD 2))))).sc Int (IntKind.wrap .i64 (p0.At.Y - (IntKind.wrap .i64 (Int.tdiv p0.eD 2))))).sc Int (IntKind.wrap .i64 ((IntKind.wrap .i64 (p0.At.X - (IntKind.wrap .i64 (Int.tdiv p0.eD 2))))+p0.eD))
 have j:=j.sc Int (IntKind.wrap .i64 ((IntKind.wrap .i64 (p0.At.Y - (IntKind.wrap .i64 (Int.tdiv p0.eD 2))))+p0.eD))
 refine RL.build (⟨(IntKind.wrap .i64 (p0.At.X - (IntKind.wrap .i64 (Int.tdiv p0.eD 2)))),(IntKind.wrap .i64 (p0.At.Y - (IntKind.wrap .i64 (Int.tdiv p0.eD 2)))),(IntKind.wrap .i64 ((IntKind.wrap .i64 (p0.At.X - (IntKind.wrap .i64 (Int.tdiv p0.eD 2))))+p0.eD)),(IntKind.wrap .i64 ((IntKind.wrap .i64 (p0.At.Y - (IntKind.wrap .i64 (Int.tdiv p0.eD 2))))+p0.eD))⟩:aG) trivial rfl j [(0,(vi (IntKind.wrap .i64 (p0.At.X - (IntKind.wrap .i64 (Int.tdiv p0.eD 2)))))),(1,(vi (IntKind.wrap .i64 (p0.At.Y - (IntKind.wrap .i64 (Int.tdiv p0.eD 2)))))),(2,(vi (IntKind.wrap .i64 ((IntKind.wrap .i64 (p0.At.X - (IntKind.wrap .i64 (Int.tdiv p0.eD 2))))+p0.eD)))),(3,(vi (IntKind.wrap .i64 ((IntKind.wrap .i64 (p0.At.Y - (IntKind.wrap .i64 (Int.tdiv p0.eD 2))))+p0.eD))))] rfl Bc rfl (fun M hs g=>by have h:=rG M;exact dR.cons (f:=fun(x:aG) y=>{x with X0:=y}) h n7 (g.sat 3 _ rfl).1 fun _ h=>dR.cons (f:=fun(x:aG) y=>{x with Y0:=y}) h qD (g.sat 2 _ rfl).1 fun _ h=>dR.cons (f:=fun(x:aG) y=>{x with X1:=y}) h n8 (g.sat 1 _ rfl).1 fun _ h=>dR.cons (f:=fun(x:aG) y=>{x with Y1:=y}) h qE (g.sat 0 _ rfl).1 fun _ h=>dR.nil h) fun ad j=>?_
 refine RL.aZ 5 j 0 zr gU fun w j=>?_
 refine RL.nt (RC.ret ?_)
 obtain rfl:=oi o
 exact ED 5 zr j zr zr gU fun ae j=>(j.pk 9 [0])
theorem qZ {p0: (List aA)} {res:aG} (j:Holds E w V) (h0:V[i0]? =some (rd v0 p0)) (hb:kn N p0=some res):
    Calls bG 47 [v0].toArray w (gF (nr E V res)):=by
 unfold kn at hb
 refine enter Tryz.func47 zr zr ?_
 have j:=j.dup (i0+0) h0
 refine RC.sr (RL.alloc j nL.z fun bf w j=>?_)
 refine RL.nq ?_
 obtain⟨bj,bo,hb⟩:=bd hb
 obtain⟨bb,bp,hb⟩:=bd hb
 obtain⟨a8,bq,hb⟩:=bd hb
 obtain⟨bk,br,hb⟩:=bd hb
 obtain⟨bc,bt,hb⟩:=bd hb
 obtain⟨a9,bu,hb⟩:=bd hb
 refine RC.Dq E V mixed [1,0,0,0,0,0,1,0,0,0,1,0,0,0,0,0,1,1,0,1,0,0,0,0,0,0] [1,2,3,4,7,8,11,12,13,14,20,21,23,24,25] (fun(x:Value×Value×Value×Value×Value×Value×Value×Value×Value×Value×Value×Value×Value×Nat)=>(fun ah ai aj ak al an ao aq ar au av aw ax ae=>[(0,6,v0),(1,7,ah),(2,8,ai),(3,9,aj),(4,10,ak),(5,11,(vi bb)),(6,12,v0),(7,13,al),(8,14,an),(9,15,(vi a8.Y0)),(10,16,v0),(11,17,ao),(12,18,aq),(13,19,ar),(14,20,au),(15,21,(vi bc)),(16,22,v0),(17,23,v0),(18,24,(vi p0.length)),(19,25,(vi (IntKind.wrap .i64 ((p0.length:Int) - 1)))),(20,26,av),(21,27,aw),(22,28,(vi a9.Y1)),(23,29,ax),(24,3,(vp ae 0))]) x.1 x.2.1 x.2.2.1 x.2.2.2.1 x.2.2.2.2.1 x.2.2.2.2.2.1 x.2.2.2.2.2.2.1 x.2.2.2.2.2.2.2.1 x.2.2.2.2.2.2.2.2.1 x.2.2.2.2.2.2.2.2.2.1 x.2.2.2.2.2.2.2.2.2.2.1 x.2.2.2.2.2.2.2.2.2.2.2.1 x.2.2.2.2.2.2.2.2.2.2.2.2.1 x.2.2.2.2.2.2.2.2.2.2.2.2.2) [(0,v0),(2,vp bf 0)] [] (fun(D:Nat->Bool) (x:Value×Value×Value×Value×Value×Value×Value×Value×Value×Value×Value×Value×Value×Nat)=>(fun ah ai aj ak al an ao aq ar au av aw ax ae=>[bif D 0 then (pt ah bj) else aX,bif D 1 then (pt ai bj.Xs) else aX,bif D 2 then (rd aj bj.Xs) else aX,bif D 3 then (pt ak bb) else aX,bif D 4 then (pt al a8) else aX,bif D 5 then (pt an a8.Y0) else aX,bif D 6 then (pt ao bk) else aX,bif D 7 then (pt aq bk.Xs) else aX,bif D 8 then (rd ar bk.Xs) else aX,bif D 9 then (pt au bc) else aX,bif D 10 then (pt av a9) else aX,bif D 11 then (pt aw a9.Y1) else aX,bif D 12 then (rd ax (⟨bb,a8.Y0,bc,a9.Y1⟩:aG)) else aX,bif D 14 then (bx 42 ae (⟨bb,a8.Y0,bc,a9.Y1⟩:aG)) else (bif D 13 then (raw 42 ae 4) else aX),raw 42 bf 4,rd v0 p0]) x.1 x.2.1 x.2.2.1 x.2.2.2.1 x.2.2.2.2.1 x.2.2.2.2.2.1 x.2.2.2.2.2.2.1 x.2.2.2.2.2.2.2.1 x.2.2.2.2.2.2.2.2.1 x.2.2.2.2.2.2.2.2.2.1 x.2.2.2.2.2.2.2.2.2.2.1 x.2.2.2.2.2.2.2.2.2.2.2.1 x.2.2.2.2.2.2.2.2.2.2.2.2.1 x.2.2.2.2.2.2.2.2.2.2.2.2.2) (fun x=>by kernel_rfl) ?_ ⟨fun _=>jJ gn,?_,?_,?_,?_,?_,fun _=>jJ gn,?_,?_,?_,fun _=>jJ gn,?_,?_,?_,?_,?_,fun _=>jJ gn,fun _=>jJ gn,?_,fun _=>EM gn rfl,?_,?_,?_,?_,?_,?_,trivial⟩ ?_
 ·have j:=((((((((((((j.drew).aX).aX).aX).aX).aX).aX).aX).aX).aX).aX).aX).aX
  have j:=(j.aX).aX
  exact⟨(undef,undef,undef,undef,undef,undef,undef,undef,undef,undef,undef,undef,undef,0),eC.none,(B1 zr),zt,j⟩
 ·rintro D U w hD o ag ⟨⟨ah,ai,aj,ak,al,an,ao,aq,ar,au,av,aw,ax,ae⟩,hv,ha,_,j⟩
  obtain⟨O,rfl⟩:=(ac (hv.at 0 rfl (o.1 rfl)) az).fG
  have j:=j.bP 0 hD
  refine RL.cQ 15 j l9 bo fun bw j=>?_
  have j:=(j.pl 17 [0,2,3,4,5,6,7,8,9,10,11,12,13,14,15,16]).cC 0 true rfl aX
  exact RL.nil ⟨rfl,(bw,ai,aj,ak,al,an,ao,aq,ar,au,av,aw,ax,ae),hv.pu 1,ha.u,zt,j⟩
 ·rintro D U w hD o ag ⟨⟨ah,ai,aj,ak,al,an,ao,aq,ar,au,av,aw,ax,ae⟩,hv,ha,_,j⟩
  obtain⟨O,rfl⟩:=(ac (hv.at 1 rfl (o.1 rfl)) az).fG
  have j:=(j.cB 0 (o.1 rfl)).bP 1 hD
  refine RL.iT 0 j zr lj cR fun bz j=>?_
  have j:=((j.pl 17 [1,0,3,4,5,6,7,8,9,10,11,12,13,14,15,16]).cC 0 (D 1) (o.1 rfl) aX).cC 1 true rfl aX
  exact RL.nil ⟨rfl,(ah,bz,aj,ak,al,an,ao,aq,ar,au,av,aw,ax,ae),hv.pu 2,ha.u,zt,j⟩
 ·rintro D U w hD o ag ⟨⟨ah,ai,aj,ak,al,an,ao,aq,ar,au,av,aw,ax,ae⟩,hv,ha,_,j⟩
  obtain⟨O,rfl⟩:=(ac (hv.at 2 rfl (o.1 rfl)) az).fG
  have j:=(j.cB 1 (o.1 rfl)).bP 2 hD
  refine RL.cG 1 bj.Xs j fw fun b0 j=>?_
  have j:=((j.pl 17 [1,2,0,4,5,6,7,8,9,10,11,12,13,14,15,16]).cC 1 (D 2) (o.1 rfl) aX).cC 2 true rfl aX
  exact RL.nil ⟨rfl,(ah,ai,b0,ak,al,an,ao,aq,ar,au,av,aw,ax,ae),hv.pu 3,ha.u,zt,j⟩
 ·rintro D U w hD o ag ⟨⟨ah,ai,aj,ak,al,an,ao,aq,ar,au,av,aw,ax,ae⟩,hv,ha,_,j⟩
  obtain⟨O,rfl⟩:=(ac (hv.at 3 rfl (o.1 rfl)) az).fG
  have j:=(j.cB 2 (o.1 rfl)).bP 3 hD
  refine RL.cQ 2 j fx bp fun b1 j=>?_
  have j:=((j.pl 17 [1,2,3,0,5,6,7,8,9,10,11,12,13,14,15,16]).cC 2 (D 3) (o.1 rfl) aX).cC 3 true rfl aX
  exact RL.nil ⟨rfl,(ah,ai,aj,b1,al,an,ao,aq,ar,au,av,aw,ax,ae),hv.pu 4,ha.u,zt,j⟩
 ·rintro D U w hD o ag ⟨⟨ah,ai,aj,ak,al,an,ao,aq,ar,au,av,aw,ax,ae⟩,hv,ha,_,j⟩
  obtain⟨O,rfl⟩:=(ac (hv.at 4 rfl (o.1 rfl)) az).fG
  have j:=j.cB 3 (o.1 rfl)
  refine RL.bQ bb 3 j cV ?_
  have j:=j.cC 3 (D 4) (o.1 rfl) aX
  exact RL.nil ⟨rfl,(ah,ai,aj,ak,al,an,ao,aq,ar,au,av,aw,ax,ae),hv.pu 5,ha.u,zt,j⟩
 ·rintro D U w hD o ag ⟨⟨ah,ai,aj,ak,al,an,ao,aq,ar,au,av,aw,ax,ae⟩,hv,ha,_,j⟩
  obtain⟨O,rfl⟩:=(ac (hv.at 6 rfl (o.1 rfl)) az).fG
  have j:=j.bP 4 hD
  refine RL.cQ 15 j l9 bq fun b2 j=>?_
  have j:=(j.pl 17 [1,2,3,4,0,6,7,8,9,10,11,12,13,14,15,16]).cC 4 true rfl aX
  exact RL.nil ⟨rfl,(ah,ai,aj,ak,b2,an,ao,aq,ar,au,av,aw,ax,ae),hv.pu 7,ha.u,zt,j⟩
 ·rintro D U w hD o ag ⟨⟨ah,ai,aj,ak,al,an,ao,aq,ar,au,av,aw,ax,ae⟩,hv,ha,_,j⟩
  obtain⟨O,rfl⟩:=(ac (hv.at 7 rfl (o.1 rfl)) az).fG
  have j:=(j.cB 4 (o.1 rfl)).bP 5 hD
  refine RL.iT 4 j zr oT eX fun b3 j=>?_
  have j:=((j.pl 17 [1,2,3,4,5,0,7,8,9,10,11,12,13,14,15,16]).cC 4 (D 7) (o.1 rfl) aX).cC 5 true rfl aX
  exact RL.nil ⟨rfl,(ah,ai,aj,ak,al,b3,ao,aq,ar,au,av,aw,ax,ae),hv.pu 8,ha.u,zt,j⟩
 ·rintro D U w hD o ag ⟨⟨ah,ai,aj,ak,al,an,ao,aq,ar,au,av,aw,ax,ae⟩,hv,ha,_,j⟩
  obtain⟨O,rfl⟩:=(ac (hv.at 8 rfl (o.1 rfl)) az).fG
  have j:=j.cB 5 (o.1 rfl)
  refine RL.bQ a8.Y0 5 j cV ?_
  have j:=j.cC 5 (D 8) (o.1 rfl) aX
  exact RL.nil ⟨rfl,(ah,ai,aj,ak,al,an,ao,aq,ar,au,av,aw,ax,ae),hv.pu 9,ha.u,zt,j⟩
 ·rintro D U w hD o ag ⟨⟨ah,ai,aj,ak,al,an,ao,aq,ar,au,av,aw,ax,ae⟩,hv,ha,_,j⟩
  obtain⟨O,rfl⟩:=(ac (hv.at 10 rfl (o.1 rfl)) az).fG
  have j:=j.bP 6 hD
  refine RL.cQ 15 j l9 br fun b4 j=>?_
  have j:=(j.pl 17 [1,2,3,4,5,6,0,8,9,10,11,12,13,14,15,16]).cC 6 true rfl aX
  exact RL.nil ⟨rfl,(ah,ai,aj,ak,al,an,b4,aq,ar,au,av,aw,ax,ae),hv.pu 11,ha.u,zt,j⟩
 ·rintro D U w hD o ag ⟨⟨ah,ai,aj,ak,al,an,ao,aq,ar,au,av,aw,ax,ae⟩,hv,ha,_,j⟩
  obtain⟨O,rfl⟩:=(ac (hv.at 11 rfl (o.1 rfl)) az).fG
  have j:=(j.cB 6 (o.1 rfl)).bP 7 hD
  refine RL.iT 6 j zr lj cR fun b5 j=>?_
  have j:=((j.pl 17 [1,2,3,4,5,6,7,0,9,10,11,12,13,14,15,16]).cC 6 (D 11) (o.1 rfl) aX).cC 7 true rfl aX
  exact RL.nil ⟨rfl,(ah,ai,aj,ak,al,an,ao,b5,ar,au,av,aw,ax,ae),hv.pu 12,ha.u,zt,j⟩
 ·rintro D U w hD o ag ⟨⟨ah,ai,aj,ak,al,an,ao,aq,ar,au,av,aw,ax,ae⟩,hv,ha,_,j⟩
  obtain⟨O,rfl⟩:=(ac (hv.at 12 rfl (o.1 rfl)) az).fG
  have j:=(j.cB 7 (o.1 rfl)).bP 8 hD
  refine RL.cG 7 bk.Xs j fw fun b6 j=>?_
  have j:=((j.pl 17 [1,2,3,4,5,6,7,8,0,10,11,12,13,14,15,16]).cC 7 (D 12) (o.1 rfl) aX).cC 8 true rfl aX
  exact RL.nil ⟨rfl,(ah,ai,aj,ak,al,an,ao,aq,b6,au,av,aw,ax,ae),hv.pu 13,ha.u,zt,j⟩
 ·rintro D U w hD o ag ⟨⟨ah,ai,aj,ak,al,an,ao,aq,ar,au,av,aw,ax,ae⟩,hv,ha,_,j⟩
  obtain⟨O,rfl⟩:=(ac (hv.at 13 rfl (o.1 rfl)) az).fG
  have j:=(j.cB 8 (o.1 rfl)).bP 9 hD
  refine RL.cQ 8 j fx bt fun b7 j=>?_
  have j:=((j.pl 17 [1,2,3,4,5,6,7,8,9,0,11,12,13,14,15,16]).cC 8 (D 13) (o.1 rfl) aX).cC 9 true rfl aX
  exact RL.nil ⟨rfl,(ah,ai,aj,ak,al,an,ao,aq,ar,b7,av,aw,ax,ae),hv.pu 14,ha.u,zt,j⟩
 ·rintro D U w hD o ag ⟨⟨ah,ai,aj,ak,al,an,ao,aq,ar,au,av,aw,ax,ae⟩,hv,ha,_,j⟩
  obtain⟨O,rfl⟩:=(ac (hv.at 14 rfl (o.1 rfl)) az).fG
  have j:=j.cB 9 (o.1 rfl)
  refine RL.bQ bc 9 j cV ?_
  have j:=j.cC 9 (D 14) (o.1 rfl) aX
  exact RL.nil ⟨rfl,(ah,ai,aj,ak,al,an,ao,aq,ar,au,av,aw,ax,ae),hv.pu 15,ha.u,zt,j⟩
 ·rintro D U w hD o ag ⟨⟨ah,ai,aj,ak,al,an,ao,aq,ar,au,av,aw,ax,ae⟩,hv,ha,_,j⟩
  obtain⟨O,rfl⟩:=(ac (hv.at 17 rfl (o.1 rfl)) az).fG
  refine RL.bO 15 p0 j qU ?_
  exact RL.nil ⟨rfl,(ah,ai,aj,ak,al,an,ao,aq,ar,au,av,aw,ax,ae),hv.pu 18,ha.u,zt,j⟩
 ·rintro D U w hD o ag ⟨⟨ah,ai,aj,ak,al,an,ao,aq,ar,au,av,aw,ax,ae⟩,hv,ha,_,j⟩
  obtain⟨O,rfl⟩:=(ac (hv.at 16 rfl (o.1 rfl)) (ac (hv.at 19 rfl (o.2.1 rfl)) az)).fG
  have j:=j.bP 10 hD
  refine RL.cQ 15 j l9 bu fun b8 j=>?_
  have j:=(j.pl 17 [1,2,3,4,5,6,7,8,9,10,0,12,13,14,15,16]).cC 10 true rfl aX
  exact RL.nil ⟨rfl,(ah,ai,aj,ak,al,an,ao,aq,ar,au,b8,aw,ax,ae),hv.pu 20,ha.u,zt,j⟩
 ·rintro D U w hD o ag ⟨⟨ah,ai,aj,ak,al,an,ao,aq,ar,au,av,aw,ax,ae⟩,hv,ha,_,j⟩
  obtain⟨O,rfl⟩:=(ac (hv.at 20 rfl (o.1 rfl)) az).fG
  have j:=(j.cB 10 (o.1 rfl)).bP 11 hD
  refine RL.iT 10 j zr l8 dS fun b9 j=>?_
  have j:=((j.pl 17 [1,2,3,4,5,6,7,8,9,10,11,0,13,14,15,16]).cC 10 (D 20) (o.1 rfl) aX).cC 11 true rfl aX
  exact RL.nil ⟨rfl,(ah,ai,aj,ak,al,an,ao,aq,ar,au,av,b9,ax,ae),hv.pu 21,ha.u,zt,j⟩
 ·rintro D U w hD o ag ⟨⟨ah,ai,aj,ak,al,an,ao,aq,ar,au,av,aw,ax,ae⟩,hv,ha,_,j⟩
  obtain⟨O,rfl⟩:=(ac (hv.at 21 rfl (o.1 rfl)) az).fG
  have j:=j.cB 11 (o.1 rfl)
  refine RL.bQ a9.Y1 11 j cV ?_
  have j:=j.cC 11 (D 21) (o.1 rfl) aX
  exact RL.nil ⟨rfl,(ah,ai,aj,ak,al,an,ao,aq,ar,au,av,aw,ax,ae),hv.pu 22,ha.u,zt,j⟩
 ·rintro D U w hD o ag ⟨⟨ah,ai,aj,ak,al,an,ao,aq,ar,au,av,aw,ax,ae⟩,hv,ha,_,j⟩
  obtain⟨O,rfl⟩:=(ac (hv.at 5 rfl (o.1 rfl)) (ac (hv.at 9 rfl (o.2.1 rfl)) (ac (hv.at 15 rfl (o.2.2.1 rfl)) (ac (hv.at 22 rfl (o.2.2.2.1 rfl)) az)))).fG
  have j:=((((j.bP 12 hD).sc Int bb).sc Int a8.Y0).sc Int bc).sc Int a9.Y1
  refine RL.build (⟨bb,a8.Y0,bc,a9.Y1⟩:aG) trivial rfl j [(0,vi bb),(1,vi a8.Y0),(2,vi bc),(3,vi a9.Y1)] rfl Bc rfl (fun M hs g=>by have h:=rG M;exact dR.cons (f:=fun(x:aG) y=>{x with X0:=y}) h n7 (g.sat 3 _ rfl).1 fun _ h=>dR.cons (f:=fun(x:aG) y=>{x with Y0:=y}) h qD (g.sat 2 _ rfl).1 fun _ h=>dR.cons (f:=fun(x:aG) y=>{x with X1:=y}) h n8 (g.sat 1 _ rfl).1 fun _ h=>dR.cons (f:=fun(x:aG) y=>{x with Y1:=y}) h qE (g.sat 0 _ rfl).1 fun _ h=>dR.nil h) fun ca j=>?_
  have j:=(j.pl 21 [5,6,7,8,9,10,11,12,13,14,15,16,0,18,19,20]).cC 12 true rfl aX
  exact RL.nil ⟨rfl,(ah,ai,aj,ak,al,an,ao,aq,ar,au,av,aw,ca,ae),hv.pu 23,ha.u,zt,j⟩
 ·rintro D U w hD o ag ⟨⟨ah,ai,aj,ak,al,an,ao,aq,ar,au,av,aw,ax,ae⟩,hv,ha,_,j⟩
  obtain⟨O,rfl⟩:=(az (U:=U)).fG
  have j:=(j.bP 13 (nh ag hD 25)).bP 13 hD
  refine RL.alloc j nL.z fun bl w j=>?_
  have j:=((j.pl 17 [1,2,3,4,5,6,7,8,9,10,11,12,13,0,15,16]).cC 13 true rfl aX).eP 13 (D 25) (nh ag hD 25) (bx 42 bl (⟨bb,a8.Y0,bc,a9.Y1⟩:aG))
  exact RL.nil ⟨rfl,(ah,ai,aj,ak,al,an,ao,aq,ar,au,av,aw,ax,bl),hv.pu 24,ha.u,zt,j⟩
 ·rintro D U w hD o ag ⟨⟨ah,ai,aj,ak,al,an,ao,aq,ar,au,av,aw,ax,ae⟩,hv,ha,_,j⟩
  obtain⟨O,rfl⟩:=(ac (hv.at 23 rfl (o.2.1 rfl)) (ac (hv.at 24 rfl (o.1 rfl)) az)).fG
  have j:=((j.cB 12 (o.2.1 rfl)).bP 13 hD).cB 13 (o.1 rfl)
  refine RL.aZ 13 j 12 zr gU fun w j=>?_
  have j:=(j.cC 12 (D 23) (o.2.1 rfl) aX).cC 13 true rfl (bif D 24 then (raw 42 ae 4) else aX)
  exact RL.nil ⟨rfl,(ah,ai,aj,ak,al,an,ao,aq,ar,au,av,aw,ax,ae),hv.n1,ha,zt,j⟩
 rintro D U w a6 ⟨⟨ah,ai,aj,ak,al,an,ao,aq,ar,au,av,aw,ax,ae⟩,hv,ha,_,j⟩
 have j:=((((((j.cB 0 (kS a6 1)).cB 1 (kS a6 2)).cB 2 (kS a6 3)).cB 3 (kS a6 4)).cB 4 (kS a6 7)).cB 5 (kS a6 8)).cB 6 (kS a6 11)
 have j:=((((((j.cB 7 (kS a6 12)).cB 8 (kS a6 13)).cB 9 (kS a6 14)).cB 10 (kS a6 20)).cB 11 (kS a6 21)).cB 12 (kS a6 23)).cB 13 (kS a6 25)
 obtain⟨O,rfl⟩:=(ac (hv.at 24 rfl (kS a6 24)) (ac (ha.at 0 rfl) (ac (ha.at 1 rfl) az))).fG
 refine aJ (RC.seq (RC.sr (mv v0 (RL.bO 15 p0 j qU (mv (vi 0) (RL.nt ?_))))))
 obtain⟨af,hN,hb⟩:=bd hb
 refine RC.fold (fun(bg:Nat) (af:aG)=>SH E V [(2,vp bf 0),(3,vp ae 0),(30,v0),(31,vi p0.length),(32,vi bg)] [raw 42 bf 4,bx 42 ae af,rd v0 p0]) (fun(af:aG)=>SH E V [(2,vp bf 0),(3,vp ae 0)] [raw 42 bf 4,bx 42 ae af,rd v0 p0]) hN ?_ ?_ ?_ ?_
 ·exact j.sp 16 [14,13,15]
 ·rintro hm af _ w ⟨O,rfl,j⟩
  refine RC.sr (ic ((p0.length:Int)) ((p0.length:Int)) (RL.nq (RC.dX px (RC.ex ?_))))
  exact⟨rfl,j.sp 3 [0,1,2]⟩
 ·rintro hm bg af s' _ w hk ⟨O,rfl,j⟩ hb
  refine RC.sr (ic ((bg:Int)) ((p0.length:Int)) (RL.nq (RC.dW (pw hk) (RC.ss (RC.bs ?_)))))
  obtain⟨ba,cc,hb⟩:=bd hb
  refine RL.cQ 2 j l9 cc fun cd j=>(RL.cG 0 ba j xd fun cf j=>(RL.alloc j Cm.z fun bh w j=>?_))
  refine RL.aZ 0 j 1 zr xd fun w j=>?_
  refine RL.nt ?_
  obtain⟨a5,cg,hb⟩:=bd hb
  obtain⟨a7,ch,hb⟩:=bd hb
  refine RC.Dq E V mixed [1,0,1,0,0,0,0,1,0,1,0,1,0,0,1,0,0,0,1,0,1,0] [3,4,10,12,15,19,21] (fun(x:Value×Value×Value×Value×Value)=>(fun ay a0 a1 a2 a3=>[(0,36,(vp ae 0)),(1,37,(vi af.X0)),(2,38,(vp bh 2)),(3,39,ay),(4,40,a0),(5,41,(vi a5)),(6,42,(vi (if a5<af.X0 then a5 else af.X0))),(7,43,(vp ae 2)),(8,44,(vi af.X1)),(9,45,(vp bh 2)),(10,46,a1),(11,47,(vp bh 2)),(12,48,a2),(13,49,(vi ba.Xs.length)),(14,50,(vi (IntKind.wrap .i64 ((ba.Xs.length:Int) - 1)))),(15,51,a3),(16,52,(vi a7)),(17,53,(vi (if af.X1<a7 then a7 else af.X1))),(18,54,(vp ae 0)),(20,55,(vp ae 2))]) x.1 x.2.1 x.2.2.1 x.2.2.2.1 x.2.2.2.2) [(2,vp bf 0),(3,vp ae 0),(5,vp bh 0),(30,v0),(31,vi p0.length),(32,vi bg)] [] (fun(D:Nat->Bool) (x:Value×Value×Value×Value×Value)=>(fun ay a0 a1 a2 a3=>[bif D 0 then (rd ay ba.Xs) else aX,bif D 1 then (pt a0 a5) else aX,bif D 2 then (rd a1 ba.Xs) else aX,bif D 3 then (rd a2 ba.Xs) else aX,bif D 4 then (pt a3 a7) else aX,bx 86 bh ba,rd cf ba,pt cd ba,raw 42 bf 4,bif D 6 then (bx 42 ae {{af with X0:=(if a5<af.X0 then a5 else af.X0)} with X1:=(if af.X1<a7 then a7 else af.X1)}) else (bif D 5 then (bx 42 ae {af with X0:=(if a5<af.X0 then a5 else af.X0)}) else (bx 42 ae af)),rd v0 p0]) x.1 x.2.1 x.2.2.1 x.2.2.2.1 x.2.2.2.2) (fun x=>by kernel_rfl) ?_ ⟨fun _=>nK gn jr,?_,fun _=>nK gn lj,?_,?_,?_,?_,fun _=>nK gn j6,?_,fun _=>nK gn lj,?_,fun _=>nK gn lj,?_,?_,fun _=>EM gn rfl,?_,?_,?_,fun _=>nK gn jr,?_,fun _=>nK gn j6,?_,trivial⟩ ?_
  ·have j:=(((((j.drew).aX).aX).aX).aX).aX
   exact⟨(undef,undef,undef,undef,undef),eC.none,(B1 zr),zt,j⟩
  ·rintro D U w hD o ag ⟨⟨ay,a0,a1,a2,a3⟩,hv,ha,_,j⟩
   obtain⟨O,rfl⟩:=(ac (hv.at 0 rfl (o.1 rfl)) az).fG
   have j:=(j.bP 9 (nh ag hD 21)).bP 9 (nh ag hD 19)
   refine RL.aS 9 j zr eQ cV ?_
   have j:=(j.eP 9 (D 19) (nh ag hD 19) (bx 42 ae {af with X0:=(if a5<af.X0 then a5 else af.X0)})).eP 9 (D 21) (nh ag hD 21) (bx 42 ae {{af with X0:=(if a5<af.X0 then a5 else af.X0)} with X1:=(if af.X1<a7 then a7 else af.X1)})
   exact RL.nil ⟨rfl,(ay,a0,a1,a2,a3),hv.pu 1,ha.u,zt,j⟩
  ·rintro D U w hD o ag ⟨⟨ay,a0,a1,a2,a3⟩,hv,ha,_,j⟩
   obtain⟨O,rfl⟩:=(ac (hv.at 2 rfl (o.1 rfl)) az).fG
   have j:=j.bP 0 hD
   refine RL.aR 5 j zr cR fw fun cj j=>?_
   have j:=(j.pl 12 [0,2,3,4,5,6,7,8,9,10,11]).cC 0 true rfl aX
   exact RL.nil ⟨rfl,(cj,a0,a1,a2,a3),hv.pu 3,ha.u,zt,j⟩
  ·rintro D U w hD o ag ⟨⟨ay,a0,a1,a2,a3⟩,hv,ha,_,j⟩
   obtain⟨O,rfl⟩:=(ac (hv.at 3 rfl (o.1 rfl)) az).fG
   have j:=(j.cB 0 (o.1 rfl)).bP 1 hD
   refine RL.cQ 0 j fx cg fun ck j=>?_
   have j:=((j.pl 12 [1,0,3,4,5,6,7,8,9,10,11]).cC 0 (D 3) (o.1 rfl) aX).cC 1 true rfl aX
   exact RL.nil ⟨rfl,(ay,ck,a1,a2,a3),hv.pu 4,ha.u,zt,j⟩
  ·rintro D U w hD o ag ⟨⟨ay,a0,a1,a2,a3⟩,hv,ha,_,j⟩
   obtain⟨O,rfl⟩:=(ac (hv.at 4 rfl (o.1 rfl)) az).fG
   have j:=j.cB 1 (o.1 rfl)
   refine RL.bQ a5 1 j cV ?_
   have j:=j.cC 1 (D 4) (o.1 rfl) aX
   exact RL.nil ⟨rfl,(ay,a0,a1,a2,a3),hv.pu 5,ha.u,zt,j⟩
  ·rintro D U w hD o ag ⟨⟨ay,a0,a1,a2,a3⟩,hv,ha,_,j⟩
   obtain⟨O,rfl⟩:=(ac (hv.at 1 rfl (o.1 rfl)) (ac (hv.at 5 rfl (o.2.1 rfl)) az)).fG
   refine RL.min af.X0 a5 ?_
   exact RL.nil ⟨rfl,(ay,a0,a1,a2,a3),hv.pu 6,ha.u,zt,j⟩
  ·rintro D U w hD o ag ⟨⟨ay,a0,a1,a2,a3⟩,hv,ha,_,j⟩
   obtain⟨O,rfl⟩:=(ac (hv.at 7 rfl (o.1 rfl)) az).fG
   have j:=(j.bP 9 (nh ag hD 21)).bP 9 (nh ag hD 19)
   refine RL.aS 9 j zr fQ cV ?_
   have j:=(j.eP 9 (D 19) (nh ag hD 19) (bx 42 ae {af with X0:=(if a5<af.X0 then a5 else af.X0)})).eP 9 (D 21) (nh ag hD 21) (bx 42 ae {{af with X0:=(if a5<af.X0 then a5 else af.X0)} with X1:=(if af.X1<a7 then a7 else af.X1)})
   exact RL.nil ⟨rfl,(ay,a0,a1,a2,a3),hv.pu 8,ha.u,zt,j⟩
  ·rintro D U w hD o ag ⟨⟨ay,a0,a1,a2,a3⟩,hv,ha,_,j⟩
   obtain⟨O,rfl⟩:=(ac (hv.at 9 rfl (o.1 rfl)) az).fG
   have j:=j.bP 2 hD
   refine RL.aR 5 j zr cR fw fun cl j=>?_
   have j:=(j.pl 12 [1,2,0,4,5,6,7,8,9,10,11]).cC 2 true rfl aX
   exact RL.nil ⟨rfl,(ay,a0,cl,a2,a3),hv.pu 10,ha.u,zt,j⟩
  ·rintro D U w hD o ag ⟨⟨ay,a0,a1,a2,a3⟩,hv,ha,_,j⟩
   obtain⟨O,rfl⟩:=(ac (hv.at 11 rfl (o.1 rfl)) az).fG
   have j:=j.bP 3 hD
   refine RL.aR 5 j zr cR fw fun cm j=>?_
   have j:=(j.pl 12 [1,2,3,0,5,6,7,8,9,10,11]).cC 3 true rfl aX
   exact RL.nil ⟨rfl,(ay,a0,a1,cm,a3),hv.pu 12,ha.u,zt,j⟩
  ·rintro D U w hD o ag ⟨⟨ay,a0,a1,a2,a3⟩,hv,ha,_,j⟩
   obtain⟨O,rfl⟩:=(ac (hv.at 12 rfl (o.1 rfl)) az).fG
   have j:=j.cB 3 (o.1 rfl)
   refine RL.bO 3 ba.Xs j lT ?_
   have j:=j.cC 3 (D 12) (o.1 rfl) aX
   exact RL.nil ⟨rfl,(ay,a0,a1,a2,a3),hv.pu 13,ha.u,zt,j⟩
  ·rintro D U w hD o ag ⟨⟨ay,a0,a1,a2,a3⟩,hv,ha,_,j⟩
   obtain⟨O,rfl⟩:=(ac (hv.at 10 rfl (o.1 rfl)) (ac (hv.at 14 rfl (o.2.1 rfl)) az)).fG
   have j:=(j.cB 2 (o.1 rfl)).bP 4 hD
   refine RL.cQ 2 j fx ch fun cn j=>?_
   have j:=((j.pl 12 [1,2,3,4,0,6,7,8,9,10,11]).cC 2 (D 10) (o.1 rfl) aX).cC 4 true rfl aX
   exact RL.nil ⟨rfl,(ay,a0,a1,a2,cn),hv.pu 15,ha.u,zt,j⟩
  ·rintro D U w hD o ag ⟨⟨ay,a0,a1,a2,a3⟩,hv,ha,_,j⟩
   obtain⟨O,rfl⟩:=(ac (hv.at 15 rfl (o.1 rfl)) az).fG
   have j:=j.cB 4 (o.1 rfl)
   refine RL.bQ a7 4 j cV ?_
   have j:=j.cC 4 (D 15) (o.1 rfl) aX
   exact RL.nil ⟨rfl,(ay,a0,a1,a2,a3),hv.pu 16,ha.u,zt,j⟩
  ·rintro D U w hD o ag ⟨⟨ay,a0,a1,a2,a3⟩,hv,ha,_,j⟩
   obtain⟨O,rfl⟩:=(ac (hv.at 8 rfl (o.1 rfl)) (ac (hv.at 16 rfl (o.2.1 rfl)) az)).fG
   refine RL.max af.X1 a7 ?_
   exact RL.nil ⟨rfl,(ay,a0,a1,a2,a3),hv.pu 17,ha.u,zt,j⟩
  ·rintro D U w hD o ag ⟨⟨ay,a0,a1,a2,a3⟩,hv,ha,_,j⟩
   obtain⟨O,rfl⟩:=(ac (hv.at 6 rfl (o.2.1 rfl)) (ac (hv.at 18 rfl (o.1 rfl)) az)).fG
   have j:=((j.bP 9 (nh ag hD 21)).bP 9 hD).sc Int (if a5<af.X0 then a5 else af.X0)
   refine RL.xV 10 zt j zr zr zr 0 zr n7 cV fun w j=>?_
   have j:=((j.pl 12 [1,2,3,4,5,6,7,8,9,10,11]).cC 9 true rfl (bx 42 ae af)).eP 9 (D 21) (nh ag hD 21) (bx 42 ae {{af with X0:=(if a5<af.X0 then a5 else af.X0)} with X1:=(if af.X1<a7 then a7 else af.X1)})
   exact RL.nil ⟨rfl,(ay,a0,a1,a2,a3),hv.n1,ha,zt,j⟩
  ·rintro D U w hD o ag ⟨⟨ay,a0,a1,a2,a3⟩,hv,ha,_,j⟩
   obtain⟨O,rfl⟩:=(ac (hv.at 17 rfl (o.2.1 rfl)) (ac (hv.at 19 rfl (o.1 rfl)) az)).fG
   have j:=((j.bP 9 hD).cB 9 (o.2.2.1 rfl)).sc Int (if af.X1<a7 then a7 else af.X1)
   refine RL.xV 10 zt j zr zr zr 0 zr n8 cV fun w j=>?_
   have j:=(j.pl 12 [1,2,3,4,5,6,7,8,9,10,11]).cC 9 true rfl (bif D 19 then (bx 42 ae {af with X0:=(if a5<af.X0 then a5 else af.X0)}) else (bx 42 ae af))
   exact RL.nil ⟨rfl,(ay,a0,a1,a2,a3),hv.n1,ha,zt,j⟩
  rintro D U w a6 ⟨⟨ay,a0,a1,a2,a3⟩,hv,ha,_,j⟩
  have j:=(((((j.cB 0 (kS a6 3)).cB 1 (kS a6 4)).cB 2 (kS a6 10)).cB 3 (kS a6 12)).cB 4 (kS a6 15)).cB 9 (kS a6 21)
  obtain⟨O,rfl⟩:=(ac (ha.at 0 rfl) (ac (ha.at 1 rfl) (ac (ha.at 2 rfl) (ac (ha.at 3 rfl) (ac (ha.at 4 rfl) (ac (ha.at 5 rfl) az)))))).fG
  refine bZ (aJ (RC.region (RL.inc hk hm (mv (vi ((bg+1:Nat):Int)) (RL.nil ?_)))))
  obtain rfl:=oi hb
  exact⟨rfl,j.sp 11 [8,9,10]⟩
 rintro _ w ⟨O,rfl,j⟩
 refine aJ (RC.sr (RL.aR (f:=(fun x=>x)) 1 j zr Fd.self gU fun cp j=>(RL.aZ 1 j 0 zr gU fun w j=>?_)))
 refine RL.nt (RC.ret ?_)
 obtain rfl:=oi hb
 exact ED 1 zr j zr zr gU fun cq j=>(j.pk 5 [0])
theorem sN {p0: (List aA)} {res:Bool} (j:Holds E w V) (h0:V[i0]? =some (rd v0 p0)) (hb:jY N p0=some res):
    Calls bG 23 [v0].toArray w (gF (bD E V res)):=by
 unfold jY at hb
 refine enter Tryz.func23 zr zr ?_
 have j:=j.dup (i0+0) h0
 refine RC.sr (aN (vb false) (RL.nq ?_))
 obtain⟨ad,o,hb⟩:=bd hb
 refine RC.jn (fun(ad:Bool)=>SH E V [(2,vb ad)] []) ad ?_ ?_
 ·refine RC.region (mv v0 (RL.bO 0 p0 j qU (ic ((p0.length:Int)) 0 (mv (vb ((p0.length:Int)==0)) (iz o (fun aa o=>?_) fun aa o=>?_)))))
  ·refine cD aa (cD aa (cD aa (iJ aa (vb true) (aN (vb true) (RL.nil ?_)))))
   obtain rfl:=oi o
   exact⟨rfl,j.sp 1 []⟩
  refine RL.move v0 (cg aa) ?_
  obtain⟨ai,af,o⟩:=bd o
  refine RL.call (cg aa) zr Hj [v0] zr (aD (qZ N (i0:=0) j zr af) ?_)
  rintro ag w j
  obtain⟨ae,ah,o⟩:=bd o
  refine RL.call (cg aa) zr FA [ag] zr (aD (pg N (i0:=0) j zr ah) ?_)
  rintro _ w ⟨rfl,j⟩
  refine iJ aa (vb ae) (aN (vb ae) (RL.nil ?_))
  obtain rfl:=oi o
  exact⟨rfl,j.sp 2 []⟩
 rintro _ w ⟨O,rfl,j⟩
 refine aJ (RC.ret ?_)
 obtain rfl:=oi hb
 exact cA ⟨rfl,j.drop 0⟩
def uv (E:World) (V:List HP) (res:aG×Int) (v:Value) (w:World):Prop:=∃u0:Value,v = .tuple #[u0,(vi res.2)]/\Holds E w ([rd u0 res.1]++V)
theorem oq {p0:bH} {res:aG×Int} (j:Holds E w V) (h0:V[i0]? =some (rd v0 p0)) (o:iI N p0=some res):
    Calls bG 10 [v0].toArray w (gF (uv E V res)):=by
 unfold iI at o
 refine enter Tryz.func10 zr zr ?_
 have j:=j.dup (i0+0) h0
 refine RC.sr (RL.cX 0 v0 j zr fun af w j=>?_)
 refine RL.alloc j nL.z fun ag w j=>?_
 refine aN (vi 0) (RL.nq (RC.seq ?_))
 obtain⟨ad,hj,o⟩:=bd o
 refine RC.jn (fun(ad:Bool)=>SH E V [(1,vp af 0),(2,vp ag 0),(14,vb ad)] [bx 48 af p0,raw 42 ag 4]) ad ?_ ?_
 ·refine RC.region (RL.bF zr uW (RL.aS 1 j zr n9 cV ?_))
  obtain⟨ah,aj,hj⟩:=bd hj
  refine RL.call zt zr Be [(vi p0.eD),(vi 1),(vi 10000)] zr (aD (gJ N (p0:=p0.eD) (p1:=1) (p2:=10000) j aj) ?_)
  rintro _ w ⟨rfl,j⟩
  refine RL.not ah (mv (vb (!ah)) (iz hj (fun aa hj=>?_) fun aa hj=>?_))
  ·refine cD aa (cD aa (cD aa (cD aa (iJ aa (vb true) (RL.nil ?_)))))
   obtain rfl:=oi hj
   exact⟨rfl,j.sp 3 [1,0]⟩
  refine RL.bF (hg:=(cg aa)) zr zm (RL.aR (hg:=(cg aa)) 1 j zr tw DL fun ak j=>?_)
  obtain⟨ai,al,hj⟩:=bd hj
  refine RL.call (cg aa) zr FH [ak] zr (aD (om N (i0:=0) j zr al) ?_)
  rintro _ w ⟨rfl,j⟩
  refine RL.not (hg:=(cg aa)) ai (iJ aa (vb (!ai)) (RL.nil ?_))
  obtain rfl:=oi hj
  exact⟨rfl,j.sp 4 [2,1]⟩
 rintro _ w ⟨O,rfl,j⟩
 refine aJ (fZ o (fun hc o=>?_) fun hc o=>?_)
 ·refine RC.sr (RL.build (⟨0,0,0,0⟩:aG) trivial rfl j [] rfl Bc rfl (fun M hs g=>by have h:=rG M;exact dR.nil h) fun a2 j=>?_)
  refine RL.aZ 2 j 0 zr gU fun w j=>?_
  refine aN (vi 1) (RL.nt (RC.rt ?_))
  obtain rfl:=oi o
  exact kV 2 j gU fun an j=>⟨an,zr,j.pk 4 [0]⟩
 refine RC.sx (RL.aR (f:=(fun x=>x)) 0 j zr Fd.self mZ fun ao j=>?_)
 obtain⟨aq,ar,o⟩:=bd o
 refine RL.call zt zr Bf [ao] zr (aD (fY N (i0:=0) j zr ar) ?_)
 rintro a3 w j
 refine RL.alloc j nL.z fun a4 w j=>?_
 refine RL.aZ 0 j 1 zr gU fun w j=>?_
 refine RL.nq (RC.sr (RL.aR (f:=(fun x=>x)) 0 j zr Fd.self gU fun au j=>(RL.fI ([aq]: (List aG)) j [au] lh nL (fun M hs g=>⟨(g.sat 0 _ zr).1,zt⟩) fun av w j=>?_)))
 have j:=j.freeze 0
 obtain⟨a5,aw,o⟩:=bd o
 refine RL.call zt zr xe [av] zr (aD (fO N (i0:=0) j zr aw) ?_)
 rintro ax w j
 have j:=j.freeze 0
 obtain⟨ay,az,o⟩:=bd o
 refine RL.call zt zr Hk [ax] zr (aD (sN N (i0:=0) j zr az) ?_)
 rintro _ w ⟨rfl,j⟩
 refine RL.not ay (RL.nt (fZ o (fun hc o=>?_) fun hc o=>?_))
 ·refine RC.sr (RL.build (⟨0,0,0,0⟩:aG) trivial rfl j [] rfl Bc rfl (fun M hs g=>by have h:=rG M;exact dR.nil h) fun a6 j=>?_)
  refine RL.aZ 8 j 0 zr gU fun w j=>?_
  refine aN (vi 1) (RL.nt (RC.rt ?_))
  obtain rfl:=oi o
  exact kV 8 j gU fun a0 j=>⟨a0,zr,j.pk 10 [0]⟩
 refine RC.sx (RL.aR (f:=(fun x=>x)) 3 j zr Fd.self gU fun a7 j=>(RL.aZ 8 j 0 zr gU fun w j=>?_))
 refine aN (vi 0) (RL.nt (RC.ret ?_))
 obtain rfl:=oi o
 exact kV 8 j gU fun a1 j=>⟨a1,zr,j.pk 10 [0]⟩
def q6 (E:World) (V:List HP) (r:Int) (U:Nat->Value) (w:World):Prop:=mi bG 47 Tryz.f48 (aQ E V r) .ret U w
theorem pX {p0:eL} (j:Holds E w V) (h0:V[i0]? =some (rd v0 p0)) (o:ir N p0=some res):
    Calls bG 48 [v0].toArray w (gF (aQ E V res)):=by
 unfold ir at o
 refine enter Tryz.func48 zr zr ?_
 have j:=j.dup (i0+0) h0
 refine RC.sr (RL.cX 0 v0 j zr fun a0 w j=>?_)
 refine aN (vi 0) (RL.nq (RC.sr (RL.bF zr ma (RL.aR 0 j zr oc uq fun a1 j=>(RL.bO 0 p0.aU j vX (ic ((p0.aU.length:Int)) 500 (RL.nt (fZ o (fun hc o=>?_) fun hc o=>?_))))))))
 ·refine RC.sr (aN (vi 2) (RL.nt (RC.rt ?_)))
  obtain rfl:=oi o
  exact cA ⟨rfl,j.drop 3⟩
 refine RC.sx (RL.bF zr jK (RL.aR 1 j zr i6 pz fun a2 j=>(RL.bO 0 p0.aH j tC (aN (vi p0.aH.length) (RL.nq (RC.sr (RL.bF zr ma (RL.aR 2 j zr oc uq fun ag j=>?_))))))))
 refine RL.bO 0 p0.aU j vX (mv (vi 0) (RL.nt ?_))
 obtain⟨a3,hN,o⟩:=bd o
 refine RC.range (fun(ah:Nat) (ai:Unit)=>SH E V [(3,vi p0.aH.length),(16,ag),(17,vi p0.aU.length),(18,vi ah)] [rd ag p0.aU]) (fun(ai:Unit)=>SH E V [] [rd ag p0.aU]) (q6 E V) hN ?_ ?_ ?_ ?_ ?_
 ·exact j.sp 5 [0]
 ·rintro hm ai _ w ⟨O,rfl,j⟩
  refine RC.sr (ic ((p0.aU.length:Int)) ((p0.aU.length:Int)) (RL.nq (RC.dX px (RC.ex ?_))))
  exact⟨rfl,j.sp 1 [0]⟩
 ·rintro hm ah ai fl _ w hk ⟨O,rfl,j⟩ o
  refine RC.sr (ic ((ah:Int)) ((p0.aU.length:Int)) (RL.nq (RC.dW (pw hk) (RC.ss (RC.bs ?_)))))
  obtain⟨ad,au,o⟩:=bd o
  refine RL.cQ 0 j xf au fun a5 j=>(RL.cG 0 ad j mZ fun a6 j=>(RL.alloc j zk.z fun a7 w j=>?_))
  refine RL.aZ 0 j 1 zr mZ fun w j=>?_
  refine RL.nq (RC.sr (RL.aR (f:=(fun x=>x)) 0 j zr Fd.self mZ fun av j=>?_))
  obtain⟨ae,aw,o⟩:=bd o
  refine RL.call zt zr FI [av] zr (aD (oq N (i0:=0) j zr aw) ?_)
  rintro _ w ⟨an,rfl,j⟩
  refine mv (.tuple #[an,(vi ae.2)]) (RL.extract an (RL.extract (vi ae.2) (RL.alloc j nL.z fun a8 w j=>?_)))
  refine RL.aZ 0 j 1 zr gU fun w j=>?_
  refine aN (vi ae.2) (RL.ns (mv (vi ae.2) (ic ae.2 0 (RL.nt (fZ o (fun hc o=>?_) fun hc o=>?_)))))
  ·refine RC.sr (mv (vi ae.2) (aN (vi ae.2) (RL.nt (RC.rt (oI (cH ?_))))))
   obtain rfl:=oi o
   exact⟨rfl,cA ⟨rfl,j.drop 7⟩⟩
  refine RC.ss ?_
  obtain⟨aj,hj,o⟩:=bd o
  refine RC.jn (fun(aj:Bool)=>SH E V [(3,vi p0.aH.length),(16,ag),(17,vi p0.aU.length),(18,vi ah),(45,vb aj)] [rd ag p0.aU]) aj ?_ ?_
  ·refine RC.region (RL.bF zr rH (RL.aS 3 j zr lG cV (mv (vi p0.aH.length) (RL.jV (p0.aH.length:Int) 1 ?_))))
   obtain⟨ao,ax,hj⟩:=bd hj
   refine RL.call zt zr Be [(vi ad.cM),(vi 0),(vi (IntKind.wrap .i64 ((p0.aH.length:Int) - 1)))] zr (aD (gJ N (p0:=ad.cM) (p1:=0) (p2:=(IntKind.wrap .i64 ((p0.aH.length:Int) - 1))) j ax) ?_)
   rintro _ w ⟨rfl,j⟩
   refine RL.not ao (mv (vb (!ao)) (iz hj (fun aa hj=>?_) fun aa hj=>?_))
   ·refine cD aa (cD aa (cD aa (cD aa (cD aa (cD aa (cD aa (cD aa (iJ aa (vb true) ?_))))))))
    refine RL.nil ?_
    obtain rfl:=oi hj
    exact⟨rfl,j.sp 7 [6]⟩
   refine RL.bF (hg:=(cg aa)) zr tF (RL.aS (hg:=(cg aa)) 3 j zr my cV (RL.bF (hg:=(cg aa)) zr rH (RL.aS (hg:=(cg aa)) 3 j zr lG cV (RL.move (vi p0.aH.length) (cg aa) (RL.jV (hg:=(cg aa)) (p0.aH.length:Int) 1 ?_)))))
   obtain⟨aq,ay,hj⟩:=bd hj
   refine RL.call (cg aa) zr Be [(vi ad.To),(vi ad.cM),(vi (IntKind.wrap .i64 ((p0.aH.length:Int) - 1)))] zr (aD (gJ N (p0:=ad.To) (p1:=ad.cM) (p2:=(IntKind.wrap .i64 ((p0.aH.length:Int) - 1))) j ay) ?_)
   rintro _ w ⟨rfl,j⟩
   refine RL.not (hg:=(cg aa)) aq (iJ aa (vb (!aq)) (RL.nil ?_))
   obtain rfl:=oi hj
   exact⟨rfl,j.sp 7 [6]⟩
  rintro _ w ⟨O,rfl,j⟩
  refine aJ (fZ o (fun hc o=>?_) fun hc o=>?_)
  rotate_left
  ·refine RC.skip (bZ (aJ (RC.region (RL.inc hk hm (mv (vi ((ah+1:Nat):Int)) (RL.nil ?_))))))
   obtain rfl:=oi o
   exact⟨rfl,j.sp 1 [0]⟩
  refine RC.sr (aN (vi 1) (RL.nt (RC.rb (cH ?_))))
  obtain rfl:=oi o
  exact⟨rfl,cA ⟨rfl,j.drop 1⟩⟩
 ·intro r U w e hK
  subst e
  refine cH ?_
  obtain rfl:=oi o
  exact hK
 rintro ai _ w rfl ⟨O,rfl,j⟩
 rw [Fo.gL] at o
 refine aJ (RC.sr (aN (vi 0) (RL.nt (RC.ret ?_))))
 obtain rfl:=oi o
 exact cA ⟨rfl,j.drop 1⟩
theorem kD {p0:dA} (o:Holds E w V) (j:fV N p0 p1=some res):
    Calls bG 117 [(str p0),(.int .u8 p1)].toArray w (gF (aQ E V res)):=by
 unfold fV at j
 refine enter Tryz.func117 zr zr (RC.sr (aN (vi 0) (RL.ns (mv (str p0) (mv (.int .u8 p1) (RL.uN (vi (Lib.indexByte p0.bY (Int.toNat p1).toUInt8)) zr [(str p0),(.int .u8 p1)] zr (Hm p0 p1 w) (aN (vi (Lib.indexByte p0.bY (Int.toNat p1).toUInt8)) (RL.nt ?_))))))))
 refine RC.ret ?_
 obtain rfl:=oi j
 exact cA ⟨rfl,o.drop 0⟩
theorem pY {p0 p1:dA} (o:Holds E w V) (j:iu N p0 p1=some res):
    Calls bG 129 [(str p0),(str p1)].toArray w (gF (aQ E V res)):=by
 unfold iu at j
 refine enter Tryz.func129 zr zr (RC.sr (aN (vi 0) (RL.ns (mv (str p1) (RL.lens p1 xk (aN (vi p1.bY.length) (RL.nq (RC.bs ?_))))))))
 refine mv (vi p1.bY.length) (ic ((p1.bY.length:Int)) 0 (mv (vb ((p1.bY.length:Int)==0)) (RL.gs true ((p1.bY.length:Int)==0) (str p1) rfl rfl rfl dO (RL.gs true ((p1.bY.length:Int)==0) (str p0) rfl rfl rfl dO (RL.gs true ((p1.bY.length:Int)==0) (vb (p1.y7 p0)) rfl rfl rfl (Ds (bop:= .eql) (a:=p1) (b:=p0) rfl (fun h=>by exact(dE h:cv (true&&(((p1.bY.length:Int)==0)==false)) (str p1)= (str p1))) (fun h=>by exact(dE h:cv (true&&(((p1.bY.length:Int)==0)==false)) (str p0)= (str p0))) rfl) (RL.pick ((p1.bY.length:Int)==0) (vb (((p1.bY.length:Int)==0)||(p1.y7 p0))) (o8 true rfl) (aN (vb (((p1.bY.length:Int)==0)||(p1.y7 p0))) (RL.nt ?_))))))))
 refine fZ j (fun hc j=>?_) fun hc j=>?_
 ·refine RC.sr (aN (vi 0) (RL.nt (RC.rb (cH ?_))))
  obtain rfl:=oi j
  exact cA ⟨rfl,o.drop 0⟩
 refine RC.sr (mv (vi p1.bY.length) (ic ((p1.bY.length:Int)) 1 (aN (vb ((p1.bY.length:Int)==1)) (RL.nt (fZ j (fun hc j=>?_) fun hc j=>?_)))))
 ·refine RC.sr (mv (str p0) (mv (str p1) ?_))
  obtain⟨ab,ad,j⟩:=bd j
  refine RL.idxs p1 0 ab zr zr zr xk ad ?_
  obtain⟨ae,af,j⟩:=bd j
  refine RL.call zt zr Eh [(str p0),(.int .u8 (ab.toNat:Int))] zr (aD (kD N (p0:=p0) (p1:=(ab.toNat:Int)) o af) ?_)
  rintro _ w ⟨rfl,o⟩
  refine aN (vi ae) (RL.nt (RC.rb (cH ?_)))
  obtain rfl:=oi j
  exact cA ⟨rfl,o.drop 0⟩
 refine RC.sr (mv (vi p1.bY.length) (mv (str p0) (RL.lens p0 xk (ic ((p1.bY.length:Int)) ((p0.bY.length:Int)) (aN (vb (decide ((p1.bY.length:Int)>=(p0.bY.length:Int)))) (RL.nt (fZ j (fun hc j=>?_) fun hc j=>?_)))))))
 rotate_left
 ·cases j
 refine RC.sr (aN (vi (-1)) (RL.nt (RC.rb (cH ?_))))
 obtain rfl:=oi j
 exact cA ⟨rfl,o.drop 0⟩
theorem ot {p0 p1:dA} (o:Holds E w V) (j:jD N p0 p1=some res):
    Calls bG 124 [(str p0),(str p1)].toArray w (gF (aQ E V res)):=by
 unfold jD at j
 refine enter Tryz.func124 zr zr (RC.sr (aN (vi 0) (RL.ns (mv (str p0) (mv (str p1) ?_)))))
 obtain⟨aa,ab,j⟩:=bd j
 refine RL.call zt zr FJ [(str p0),(str p1)] zr (aD (pY N (p0:=p0) (p1:=p1) o ab) ?_)
 rintro _ w ⟨rfl,o⟩
 refine aN (vi aa) (RL.nt (RC.ret ?_))
 obtain rfl:=oi j
 exact cA ⟨rfl,o.drop 0⟩
def uw (E:World) (V:List HP) (r:Int) (U:Nat->Value) (w:World):Prop:=mi bG 34 Tryz.f123 (aQ E V r) .ret U w
theorem tI {p0 p1:dA} (hw:Holds E w V) (j:kA N p0 p1=some res):
    Calls bG 123 [(str p0),(str p1)].toArray w (gF (aQ E V res)):=by
 unfold kA at j
 refine enter Tryz.func123 zr zr (RC.sr (aN (vi 0) (RL.nq (RC.sr (mv (str p1) (RL.lens p1 xk (ic ((p1.bY.length:Int)) 0 (RL.nt ?_))))))))
 refine fZ j (fun hc j=>?_) fun hc j=>?_
 ·cases j
 refine RC.ss (RC.sr (mv (str p1) (RL.lens p1 xk (ic ((p1.bY.length:Int)) 1 (RL.nt (fZ j (fun hc j=>?_) fun hc j=>?_))))))
 ·refine RC.sr (mv (str p0) (mv (str p1) ?_))
  obtain⟨ad,af,j⟩:=bd j
  refine RL.idxs p1 0 ad zr zr zr xk af (RL.uN (vi ((Lib.countByte p0.bY (Int.toNat (ad.toNat:Int)).toUInt8:Nat):Int)) zr [(str p0),(.int .u8 (ad.toNat:Int))] zr (iH p0 (ad.toNat:Int) w) (aN (vi ((Lib.countByte p0.bY (Int.toNat (ad.toNat:Int)).toUInt8:Nat):Int)) (RL.nt (RC.rt ?_))))
  obtain rfl:=oi j
  exact cA ⟨rfl,hw.drop 0⟩
 refine RC.sx (aN (vi 0) (RL.nt ?_))
 obtain⟨al,hN,j⟩:=bd j
 refine RC.iter (fun(o:dA×Int)=>SH E V [(0,(str o.1)),(1,(str p1)),(4,vi 0),(5,vi o.2)] []) (fun(o:dA×Int)=>SH E V [(4,vi 0)] []) (uw E V) hN ?_ ?_ ?_ ?_
 ·exact hw.sp 0 []
 ·rintro o fl _ w ⟨O,rfl,hw⟩ j
  refine RC.bs (mv (str o.1) (mv (str p1) ?_))
  obtain⟨ae,ah,j⟩:=bd j
  refine RL.call zt zr Ei [(str o.1),(str p1)] zr (aD (ot N (p0:=o.1) (p1:=p1) hw ah) ?_)
  rintro _ w ⟨rfl,hw⟩
  refine aN (vi ae) (RL.nq (RC.sr (mv (vi ae) (ic ae ((-1)) (RL.nt (fZ j (fun hc j=>?_) fun hc j=>?_))))))
  ·refine RC.sr (mv (vi o.2) (aN (vi o.2) (RL.nt (RC.rt (oI ?_)))))
   obtain rfl:=oi j
   exact⟨rfl,cA ⟨rfl,hw.drop 0⟩⟩
  refine RC.sx (mv (vi o.2) (RL.jV o.2 1 (aN (vi (IntKind.wrap .i64 (o.2+1))) (RL.nt (RC.region (mv (str o.1) (mv (vi ae) (mv (str p1) ?_))))))))
  refine RL.lens p1 xk (RL.jV ae (p1.bY.length:Int) ?_)
  obtain⟨ai,aj,j⟩:=bd j
  refine RL.rD o.1 zr zr xk (.inl zr) (.inr ⟨rfl,zr⟩) aj (aN (str ai) (RL.nil (bZ ?_)))
  obtain rfl:=oi j
  exact⟨rfl,hw.sp 0 []⟩
 ·intro r U w e hK
  subst e
  obtain rfl:=oi j
  exact hK
 rintro o _ w rfl ⟨O,rfl,hw⟩
 rw [Fo.gL] at j
 obtain rfl:=oi j
 refine zZ ?_
 exact cA ⟨rfl,hw.drop 0⟩
theorem q7 {p0 p1:dA} {res: (List dA)} (o:Holds E w V) (j:ko N p0 p1 p2 p3=some res):
    Calls bG 116 [(str p0),(str p1),(vi p2),(vi p3)].toArray w (gF (mL E V res)):=by
 unfold ko at j
 refine enter Tryz.func116 zr zr (RC.sr (aN (.slice none 0 0) (RL.nq (RC.sr (mv (vi p3) (ic p3 0 (RL.nt (fZ j (fun hc j=>?_) fun hc j=>?_))))))))
 ·refine RC.sr (aN (.slice none 0 0) (RL.nt (RC.rt ?_)))
  obtain rfl:=oi j
  have o:=o.dD dA 9
  exact cA (o.pk 1 [0])
 refine RC.ss (RC.sr (mv (str p1) (RL.AW (a:=p1) (b:=⟨[]⟩) zt zr zr zr zr (RL.nt (fZ j (fun hc j=>?_) fun hc j=>?_)))))
 ·cases j
 refine RC.ss (RC.sr (mv (vi p3) (ic p3 0 (RL.nt ?_))))
 obtain⟨ab,hj,j⟩:=bd j
 refine RC.jn (fun(ab:Int)=>SH E V [(0,(str p0)),(1,(str p1)),(2,vi p2),(3,vi ab)] []) ab ?_ ?_
 ·refine fZ hj (fun hc hj=>?_) fun hc hj=>?_
  rotate_left
  ·refine RC.skip ?_
   obtain rfl:=oi hj
   exact⟨rfl,o.sp 0 []⟩
  refine RC.region (mv (str p0) (mv (str p1) ?_))
  obtain⟨aj,ak,hj⟩:=bd hj
  refine RL.call zt zr FK [(str p0),(str p1)] zr (aD (tI N (p0:=p0) (p1:=p1) o ak) ?_)
  rintro _ w ⟨rfl,o⟩
  refine RL.jV aj 1 (aN (vi (IntKind.wrap .i64 (aj+1))) (RL.nil ?_))
  obtain rfl:=oi hj
  exact⟨rfl,o.sp 0 []⟩
 rintro _ w ⟨O,rfl,o⟩
 refine aJ (RC.sr (mv (vi ab) (mv (str p0) (RL.lens p0 xk (RL.jV (p0.bY.length:Int) 1 (RL.min ab (IntKind.wrap .i64 ((p0.bY.length:Int)+1)) (aN (vi (if (IntKind.wrap .i64 ((p0.bY.length:Int)+1))<ab then (IntKind.wrap .i64 ((p0.bY.length:Int)+1)) else ab)) (RL.ns ?_))))))))
 refine mv (vi (if (IntKind.wrap .i64 ((p0.bY.length:Int)+1))<ab then (IntKind.wrap .i64 ((p0.bY.length:Int)+1)) else ab)) ?_
 obtain⟨ay,al,j⟩:=bd j
 refine RL.mk (if (IntKind.wrap .i64 ((p0.bY.length:Int)+1))<ab then (IntKind.wrap .i64 ((p0.bY.length:Int)+1)) else ab) zr o zr zr FL Iu al fun ae w o=>?_
 refine aN ae (RL.ns (mv (vi (if (IntKind.wrap .i64 ((p0.bY.length:Int)+1))<ab then (IntKind.wrap .i64 ((p0.bY.length:Int)+1)) else ab)) (RL.jV (if (IntKind.wrap .i64 ((p0.bY.length:Int)+1))<ab then (IntKind.wrap .i64 ((p0.bY.length:Int)+1)) else ab) 1 (aN (vi (IntKind.wrap .i64 ((if (IntKind.wrap .i64 ((p0.bY.length:Int)+1))<ab then (IntKind.wrap .i64 ((p0.bY.length:Int)+1)) else ab) - 1))) (RL.ns (aN (vi 0) (RL.nq ?_)))))))
 obtain⟨az,hN,j⟩:=bd j
 refine RC.iter (fun(aa:dA×(List dA)×Int)=>SH E V [(0,(str aa.1)),(1,(str p1)),(2,vi p2),(3,(vi (IntKind.wrap .i64 ((if (IntKind.wrap .i64 ((p0.bY.length:Int)+1))<ab then (IntKind.wrap .i64 ((p0.bY.length:Int)+1)) else ab) - 1)))),(9,ae),(10,vi aa.2.2)] [own 9 ae aa.2.1]) (fun(aa:dA×(List dA)×Int)=>SH E V [(0,(str aa.1)),(9,ae),(10,vi aa.2.2)] [own 9 ae aa.2.1]) (fun(r:Empty) _ _=>r.elim) hN ?_ ?_ ?_ ?_
 ·exact o.sp 1 [0]
 ·rintro aa fl _ w ⟨O,rfl,o⟩ j
  refine RC.seq (RC.sr (mv (vi aa.2.2) (mv (vi (IntKind.wrap .i64 ((if (IntKind.wrap .i64 ((p0.bY.length:Int)+1))<ab then (IntKind.wrap .i64 ((p0.bY.length:Int)+1)) else ab) - 1))) (ic aa.2.2 ((IntKind.wrap .i64 ((if (IntKind.wrap .i64 ((p0.bY.length:Int)+1))<ab then (IntKind.wrap .i64 ((p0.bY.length:Int)+1)) else ab) - 1))) (RL.nt (fZ j (fun hc j=>?_) fun hc j=>?_))))))
  rotate_left
  ·refine RC.ex ?_
   obtain rfl:=oi j
   exact⟨rfl,o.sp 1 [0]⟩
  refine RC.sn (RC.bs (mv (str aa.1) (mv (str p1) ?_)))
  obtain⟨ag,ao,j⟩:=bd j
  refine RL.call zt zr Ei [(str aa.1),(str p1)] zr (aD (ot N (p0:=aa.1) (p1:=p1) o ao) ?_)
  rintro _ w ⟨rfl,o⟩
  refine aN (vi ag) (RL.nq (RC.sr (mv (vi ag) (ic ag 0 (RL.nt (fZ j (fun hc j=>?_) fun hc j=>?_))))))
  ·refine RC.ex (EC (by decide) ?_)
   obtain rfl:=oi j
   exact⟨rfl,o.sp 1 [0]⟩
  refine RC.sx (mv ae (mv (vi aa.2.2) (mv (str aa.1) (mv (vi ag) (mv (vi p2) (RL.jV ag p2 ?_))))))
  obtain⟨aq,ar,j⟩:=bd j
  refine RL.rD aa.1 zr zr xk (.inr ⟨rfl,zr⟩) (.inl zr) ar ?_
  obtain⟨a1,ah,j⟩:=bd j
  refine RL.bM 0 o zr zr Ak ah ?_
  have o:=o.sc dA aq
  refine RL.fJ (f:=(fun _ y=>y)) 1 0 o (jQ 1 o ah 0) (aY ah).2.1 zr Fs.self zo fun w o=>?_
  refine RL.ns (mv (str aa.1) (mv (vi ag) (mv (str p1) (RL.lens p1 xk (RL.jV ag (p1.bY.length:Int) ?_)))))
  obtain⟨au,av,j⟩:=bd j
  refine RL.rD aa.1 zr zr xk (.inl zr) (.inr ⟨rfl,zr⟩) av (aN (str au) (RL.nt (RC.region (mv (vi aa.2.2) (RL.jV aa.2.2 1 (aN (vi (IntKind.wrap .i64 (aa.2.2+1))) (RL.nil (bZ ?_))))))))
  obtain rfl:=oi j
  exact⟨rfl,o.sp 2 [1]⟩
 ·intro r _ _ _ _
  exact r.elim
 rintro aa _ w rfl ⟨O,rfl,o⟩
 rw [Fo.gL] at j
 refine aJ (RC.sr (mv ae (mv (vi aa.2.2) (mv (str aa.1) ?_))))
 obtain⟨a2,ai,j⟩:=bd j
 refine RL.bM 0 o zr zr Ak ai ?_
 have o:=o.sc dA aa.1
 refine RL.fJ (f:=(fun _ y=>y)) 1 0 o (jQ 1 o ai 0) (aY ai).2.1 zr Fs.self zo fun w o=>?_
 refine RL.ns (mv ae (mv (vi aa.2.2) (RL.jV aa.2.2 1 ?_)))
 obtain⟨a3,aw,j⟩:=bd j
 refine RL.wU 1 zr o zr zr Ak (.inr ⟨rfl,zr⟩) aw fun ax o=>(aN ax (RL.nt (RC.ret ?_)))
 obtain rfl:=oi j
 exact cA (o.pk 2 [1])
theorem tJ {p0 p1:dA} {res: (List dA)} (o:Holds E w V) (j:kB N p0 p1=some res):
    Calls bG 99 [(str p0),(str p1)].toArray w (gF (mL E V res)):=by
 unfold kB at j
 refine enter Tryz.func99 zr zr (RC.sr (aN (.slice none 0 0) (RL.ns (mv (str p0) (mv (str p1) ?_)))))
 obtain⟨ad,aa,j⟩:=bd j
 refine RL.call zt zr FM [(str p0),(str p1),(vi 0),(vi (-1))] zr (aD (q7 N (p0:=p0) (p1:=p1) (p2:=0) (p3:=(-1)) o aa) ?_)
 rintro ab w o
 refine aN ab (RL.nt (RC.ret ?_))
 obtain rfl:=oi j
 exact cA (o.pk 1 [0])
def m8 (E:World) (V:List HP) (r:Int) (U:Nat->Value) (w:World):Prop:=mi bG 19 Tryz.f115 (aQ E V r) .ret U w
theorem mN {p0: (List dA)} {p1:dA->Option Bool} (j:Holds E w V) (h0:V[i0]? =some (rd v0 p0)) (h1:Dk bG E V v1 p1 (fun(r:Bool)=>Value.bool r)) (o:iW N p0 p1=some res):
    Calls bG 115 [v0,v1].toArray w (gF (aQ E V res)):=by
 unfold iW at o
 refine enter Tryz.func115 zr zr ?_
 have j:=j.dup (i0+0) h0
 refine RC.sr (aN (vi 0) (RL.nq (RC.sr (mv v0 (RL.bO 0 p0 j FN (mv (vi 0) (RL.nt ?_)))))))
 obtain⟨al,hN,o⟩:=bd o
 refine RC.range (fun(aa:Nat) (ab:Unit)=>SH E V [(0,v0),(1,v1),(7,vi p0.length),(8,vi aa)] [rd v0 p0]) (fun(ab:Unit)=>SH E V [] [rd v0 p0]) (m8 E V) hN ?_ ?_ ?_ ?_ ?_
 ·exact j.sp 1 [0]
 ·rintro hm ab _ w ⟨O,rfl,j⟩
  refine RC.sr (ic ((p0.length:Int)) ((p0.length:Int)) (RL.nq (RC.dX px (RC.ex ?_))))
  exact⟨rfl,j.sp 1 [0]⟩
 ·rintro hm aa ab fl _ w hk ⟨O,rfl,j⟩ o
  refine RC.sr (ic ((aa:Int)) ((p0.length:Int)) (RL.nq (RC.dW (pw hk) (RC.ss (RC.bs (mv (vi aa) (aN (vi aa) (RL.ns ?_))))))))
  refine mv v1 (mv v0 (mv (vi aa) ?_))
  obtain⟨af,ah,o⟩:=bd o
  refine RL.cQ 0 j Ak ah fun ao j=>(RL.bQ af 0 j zo ?_)
  have j:=j.sc dA af
  obtain⟨aq,ai,o⟩:=bd o
  refine RL.wS 0 zr j zr h1 3 zr zr zr ai fun w j=>(RL.nt (fZ o (fun hc o=>?_) fun hc o=>?_))
  rotate_left
  ·refine RC.skip (bZ (aJ (RC.region (RL.inc hk hm (mv (vi ((aa+1:Nat):Int)) (RL.nil ?_))))))
   obtain rfl:=oi o
   exact⟨rfl,j.sp 3 [2]⟩
  refine RC.sr (mv (vi aa) (aN (vi aa) (RL.nt (RC.rb (cH ?_)))))
  obtain rfl:=oi o
  exact⟨rfl,cA ⟨rfl,j.drop 3⟩⟩
 ·intro r U w e hK
  subst e
  refine cH ?_
  obtain rfl:=oi o
  exact hK
 rintro ab _ w rfl ⟨O,rfl,j⟩
 rw [Fo.gL] at o
 refine aJ (RC.sr (aN (vi (-1)) (RL.nt (RC.ret ?_))))
 obtain rfl:=oi o
 exact cA ⟨rfl,j.drop 1⟩
theorem lU {p0: (List dA)} {p1:dA->Option Bool} {res:Bool} (j:Holds E w V) (h0:V[i0]? =some (rd v0 p0)) (h1:Dk bG E V v1 p1 (fun(r:Bool)=>Value.bool r)) (o:fL N p0 p1=some res):
    Calls bG 98 [v0,v1].toArray w (gF (bD E V res)):=by
 unfold fL at o
 refine enter Tryz.func98 zr zr ?_
 have j:=j.dup (i0+0) h0
 refine RC.sr (aN (vb false) (RL.ns (mv v0 (mv v1 ?_))))
 obtain⟨aa,ab,o⟩:=bd o
 refine RL.call zt zr FO [v0,v1] zr (aD (mN N (i0:=0) j zr (h1.lift 1 zr) ab) ?_)
 rintro _ w ⟨rfl,j⟩
 refine ic aa 0 (aN (vb (decide (aa>=0))) (RL.nt (RC.ret ?_)))
 obtain rfl:=oi o
 exact cA ⟨rfl,j.drop 1⟩
theorem pZ {p0:dA} (o:Holds E w V) (j:gx N p0 p1=some res):
    Calls bG 101 [(str p0),(.int .u8 p1)].toArray w (gF (aQ E V res)):=by
 unfold gx at j
 refine enter Tryz.func101 zr zr (RC.sr (aN (vi 0) (RL.ns (mv (str p0) (mv (.int .u8 p1) ?_)))))
 obtain⟨aa,ab,j⟩:=bd j
 refine RL.call zt zr Eh [(str p0),(.int .u8 p1)] zr (aD (kD N (p0:=p0) (p1:=p1) o ab) ?_)
 rintro _ w ⟨rfl,o⟩
 refine aN (vi aa) (RL.nt (RC.ret ?_))
 obtain rfl:=oi j
 exact cA ⟨rfl,o.drop 0⟩
def tK (E:World) (V:List HP) (r:Bool) (U:Nat->Value) (w:World):Prop:=mi bG 49 Tryz.f66 (bD E V r) .ret U w
theorem nv {p0:dA} {res:Bool} (hw:Holds E w V) (o:gm N p0=some res):
    Calls bG 66 [(str p0)].toArray w (gF (bD E V res)):=by
 unfold gm at o
 refine enter Tryz.func66 zr zr (RC.sr (aN (vb false) (RL.nq (RC.sr (mv (str p0) (RL.lens p0 xk (mv (vi 0) (RL.nt ?_))))))))
 obtain⟨ar,hN,o⟩:=bd o
 refine RC.range (fun(ab:Nat) (af:Unit)=>SH E V [(0,(str p0)),(6,vi p0.bY.length),(7,vi ab)] []) (fun(af:Unit)=>SH E V [(0,(str p0))] []) (tK E V) hN ?_ ?_ ?_ ?_ ?_
 ·exact hw.sp 0 []
 ·rintro hm af _ w ⟨O,rfl,hw⟩
  refine RC.sr (ic ((p0.bY.length:Int)) ((p0.bY.length:Int)) (RL.nq (RC.dX px (RC.ex ?_))))
  exact⟨rfl,hw.sp 0 []⟩
 ·rintro hm ab af fl _ w hk ⟨O,rfl,hw⟩ o
  refine RC.sr (ic ((ab:Int)) ((p0.bY.length:Int)) (RL.nq (RC.dW (pw hk) (RC.ss (RC.bs (mv (vi ab) (aN (vi ab) (RL.ns ?_))))))))
  refine mv (str p0) (mv (vi ab) ?_)
  obtain⟨j,al,o⟩:=bd o
  refine RL.idxs p0 (ab:Int) j zr zr zr xk al (aN (.int .u8 (j.toNat:Int)) (RL.nq ?_))
  obtain⟨ag,hj,o⟩:=bd o
  refine RC.jn (fun(ag:Bool)=>SH E V [(0,(str p0)),(6,vi p0.bY.length),(7,vi ab),(39,vb ag)] []) ag ?_ ?_
  ·refine RC.region (mv (.int .u8 (j.toNat:Int)) (ic ((j.toNat:Int)) 65 (mv (vb (decide ((j.toNat:Int)<65))) (RL.gs true (decide ((j.toNat:Int)<65)) (.int .u8 (j.toNat:Int)) rfl rfl rfl dO (RL.gs true (decide ((j.toNat:Int)<65)) (vb (decide ((j.toNat:Int)>90))) rfl rfl rfl (fE .gtr .u8 (j.toNat:Int) 90 rfl (fun h=>by exact(dE h:cv (true&&((decide ((j.toNat:Int)<65))==false)) (.int .u8 (j.toNat:Int))= (.int .u8 (j.toNat:Int)))) (fun _=>rfl) rfl) (RL.pick (decide ((j.toNat:Int)<65)) (vb ((decide ((j.toNat:Int)<65))||(decide ((j.toNat:Int)>90)))) (o8 true rfl) (mv (vb ((decide ((j.toNat:Int)<65))||(decide ((j.toNat:Int)>90)))) (RL.gs true ((decide ((j.toNat:Int)<65))||(decide ((j.toNat:Int)>90))) (.int .u8 (j.toNat:Int)) rfl rfl rfl dO ?_))))))))
   refine RL.gs true ((decide ((j.toNat:Int)<65))||(decide ((j.toNat:Int)>90))) (vb (decide ((j.toNat:Int)<97))) rfl rfl rfl (fE .lss .u8 (j.toNat:Int) 97 rfl (fun h=>by exact(dE h:cv (true&&(((decide ((j.toNat:Int)<65))||(decide ((j.toNat:Int)>90)))==true)) (.int .u8 (j.toNat:Int))= (.int .u8 (j.toNat:Int)))) (fun _=>rfl) rfl) (RL.gs true ((decide ((j.toNat:Int)<65))||(decide ((j.toNat:Int)>90))) (vb (decide ((j.toNat:Int)<97))) rfl rfl rfl (dO (hx:=fun h=>by exact(dE h:cv (true&&(((decide ((j.toNat:Int)<65))||(decide ((j.toNat:Int)>90)))==true)) (vb (decide ((j.toNat:Int)<97)))= (vb (decide ((j.toNat:Int)<97)))))) (RL.gs (true&&(((decide ((j.toNat:Int)<65))||(decide ((j.toNat:Int)>90)))==true)) (decide ((j.toNat:Int)<97)) (.int .u8 (j.toNat:Int)) rfl rfl rfl dO (RL.gs (true&&(((decide ((j.toNat:Int)<65))||(decide ((j.toNat:Int)>90)))==true)) (decide ((j.toNat:Int)<97)) (vb (decide ((j.toNat:Int)>122))) rfl rfl rfl (fE .gtr .u8 (j.toNat:Int) 122 rfl (fun h=>by exact(dE h:cv ((true&&(((decide ((j.toNat:Int)<65))||(decide ((j.toNat:Int)>90)))==true))&&((decide ((j.toNat:Int)<97))==false)) (.int .u8 (j.toNat:Int))= (.int .u8 (j.toNat:Int)))) (fun _=>rfl) rfl) (RL.gs true ((decide ((j.toNat:Int)<65))||(decide ((j.toNat:Int)>90))) (vb ((decide ((j.toNat:Int)<97))||(decide ((j.toNat:Int)>122)))) rfl rfl rfl (qB (decide ((j.toNat:Int)<97)) rfl (fun h=>by exact(dE h:cv (true&&(((decide ((j.toNat:Int)<65))||(decide ((j.toNat:Int)>90)))==true)) (vb (decide ((j.toNat:Int)<97)))= (vb (decide ((j.toNat:Int)<97))))) (fun h=>by exact o8 (true&&(((decide ((j.toNat:Int)<65))||(decide ((j.toNat:Int)>90)))==true)) h)) (RL.pick ((decide ((j.toNat:Int)<65))||(decide ((j.toNat:Int)>90))) (vb (((decide ((j.toNat:Int)<65))||(decide ((j.toNat:Int)>90)))&&((decide ((j.toNat:Int)<97))||(decide ((j.toNat:Int)>122))))) (jk true) (mv (vb (((decide ((j.toNat:Int)<65))||(decide ((j.toNat:Int)>90)))&&((decide ((j.toNat:Int)<97))||(decide ((j.toNat:Int)>122))))) (RL.gs true (((decide ((j.toNat:Int)<65))||(decide ((j.toNat:Int)>90)))&&((decide ((j.toNat:Int)<97))||(decide ((j.toNat:Int)>122)))) (.int .u8 (j.toNat:Int)) rfl rfl rfl dO (RL.gs true (((decide ((j.toNat:Int)<65))||(decide ((j.toNat:Int)>90)))&&((decide ((j.toNat:Int)<97))||(decide ((j.toNat:Int)>122)))) (vb (decide ((j.toNat:Int)<48))) rfl rfl rfl (fE .lss .u8 (j.toNat:Int) 48 rfl (fun h=>by exact(dE h:cv (true&&((((decide ((j.toNat:Int)<65))||(decide ((j.toNat:Int)>90)))&&((decide ((j.toNat:Int)<97))||(decide ((j.toNat:Int)>122))))==true)) (.int .u8 (j.toNat:Int))= (.int .u8 (j.toNat:Int)))) (fun _=>rfl) rfl) ?_))))))))
   refine RL.gs true (((decide ((j.toNat:Int)<65))||(decide ((j.toNat:Int)>90)))&&((decide ((j.toNat:Int)<97))||(decide ((j.toNat:Int)>122)))) (vb (decide ((j.toNat:Int)<48))) rfl rfl rfl (dO (hx:=fun h=>by exact(dE h:cv (true&&((((decide ((j.toNat:Int)<65))||(decide ((j.toNat:Int)>90)))&&((decide ((j.toNat:Int)<97))||(decide ((j.toNat:Int)>122))))==true)) (vb (decide ((j.toNat:Int)<48)))= (vb (decide ((j.toNat:Int)<48)))))) (RL.gs (true&&((((decide ((j.toNat:Int)<65))||(decide ((j.toNat:Int)>90)))&&((decide ((j.toNat:Int)<97))||(decide ((j.toNat:Int)>122))))==true)) (decide ((j.toNat:Int)<48)) (.int .u8 (j.toNat:Int)) rfl rfl rfl dO (RL.gs (true&&((((decide ((j.toNat:Int)<65))||(decide ((j.toNat:Int)>90)))&&((decide ((j.toNat:Int)<97))||(decide ((j.toNat:Int)>122))))==true)) (decide ((j.toNat:Int)<48)) (vb (decide ((j.toNat:Int)>57))) rfl rfl rfl (fE .gtr .u8 (j.toNat:Int) 57 rfl (fun h=>by exact(dE h:cv ((true&&((((decide ((j.toNat:Int)<65))||(decide ((j.toNat:Int)>90)))&&((decide ((j.toNat:Int)<97))||(decide ((j.toNat:Int)>122))))==true))&&((decide ((j.toNat:Int)<48))==false)) (.int .u8 (j.toNat:Int))= (.int .u8 (j.toNat:Int)))) (fun _=>rfl) rfl) (RL.gs true (((decide ((j.toNat:Int)<65))||(decide ((j.toNat:Int)>90)))&&((decide ((j.toNat:Int)<97))||(decide ((j.toNat:Int)>122)))) (vb ((decide ((j.toNat:Int)<48))||(decide ((j.toNat:Int)>57)))) rfl rfl rfl (qB (decide ((j.toNat:Int)<48)) rfl (fun h=>by exact(dE h:cv (true&&((((decide ((j.toNat:Int)<65))||(decide ((j.toNat:Int)>90)))&&((decide ((j.toNat:Int)<97))||(decide ((j.toNat:Int)>122))))==true)) (vb (decide ((j.toNat:Int)<48)))= (vb (decide ((j.toNat:Int)<48))))) (fun h=>by exact o8 (true&&((((decide ((j.toNat:Int)<65))||(decide ((j.toNat:Int)>90)))&&((decide ((j.toNat:Int)<97))||(decide ((j.toNat:Int)>122))))==true)) h)) (RL.pick (((decide ((j.toNat:Int)<65))||(decide ((j.toNat:Int)>90)))&&((decide ((j.toNat:Int)<97))||(decide ((j.toNat:Int)>122)))) (vb ((((decide ((j.toNat:Int)<65))||(decide ((j.toNat:Int)>90)))&&((decide ((j.toNat:Int)<97))||(decide ((j.toNat:Int)>122))))&&((decide ((j.toNat:Int)<48))||(decide ((j.toNat:Int)>57))))) (jk true) (mv (vb ((((decide ((j.toNat:Int)<65))||(decide ((j.toNat:Int)>90)))&&((decide ((j.toNat:Int)<97))||(decide ((j.toNat:Int)>122))))&&((decide ((j.toNat:Int)<48))||(decide ((j.toNat:Int)>57))))) (iz hj (fun ad hj=>?_) fun ad hj=>?_))))))
   rotate_left
   ·refine cD ad (cD ad (cD ad (iJ ad (vb false) (RL.nil ?_))))
    obtain rfl:=oi hj
    exact⟨rfl,hw.sp 0 []⟩
   refine RL.move (.int .u8 (j.toNat:Int)) (cg ad) ?_
   obtain⟨aj,an,hj⟩:=bd hj
   refine RL.call (cg ad) zr FP [(str ⟨[95,43,45,35]⟩),(.int .u8 (j.toNat:Int))] zr (aD (pZ N (p0:=⟨[95,43,45,35]⟩) (p1:=(j.toNat:Int)) hw an) ?_)
   rintro _ w ⟨rfl,hw⟩
   refine RL.k7 aj 0 (cg ad) (iJ ad (vb (decide (aj<0))) (RL.nil ?_))
   obtain rfl:=oi hj
   exact⟨rfl,hw.sp 0 []⟩
  rintro _ w ⟨O,rfl,hw⟩
  refine aJ (fZ o (fun hc o=>?_) fun hc o=>?_)
  rotate_left
  ·refine RC.skip (bZ (aJ (RC.region (RL.inc hk hm (mv (vi ((ab+1:Nat):Int)) (RL.nil ?_))))))
   obtain rfl:=oi o
   exact⟨rfl,hw.sp 0 []⟩
  refine RC.sr (aN (vb false) (RL.nt (RC.rb (cH ?_))))
  obtain rfl:=oi o
  exact⟨rfl,cA ⟨rfl,hw.drop 0⟩⟩
 ·intro r U w e hK
  subst e
  refine cH ?_
  obtain rfl:=oi o
  exact hK
 rintro af _ w rfl ⟨O,rfl,hw⟩
 rw [Fo.gL] at o
 refine aJ (RC.sr (mv (str p0) (RL.lens p0 xk (ic ((p0.bY.length:Int)) 1 (mv (vb (decide ((p0.bY.length:Int)>=1))) (RL.gs true (decide ((p0.bY.length:Int)>=1)) (str p0) rfl rfl rfl dO (RL.gs true (decide ((p0.bY.length:Int)>=1)) (vi p0.bY.length) rfl rfl rfl (Dt (s:=p0) rfl (fun h=>by exact(dE h:cv (true&&((decide ((p0.bY.length:Int)>=1))==true)) (str p0)= (str p0))) xk) (RL.gs true (decide ((p0.bY.length:Int)>=1)) (vb (decide ((p0.bY.length:Int)<=40))) rfl rfl rfl (fE .leq .i64 (p0.bY.length:Int) 40 rfl (fun h=>by exact(dE h:cv (true&&((decide ((p0.bY.length:Int)>=1))==true)) (vi p0.bY.length)= (vi p0.bY.length))) (fun _=>rfl) rfl) ?_))))))))
 refine RL.pick (decide ((p0.bY.length:Int)>=1)) (vb ((decide ((p0.bY.length:Int)>=1))&&(decide ((p0.bY.length:Int)<=40)))) (jk true) (aN (vb ((decide ((p0.bY.length:Int)>=1))&&(decide ((p0.bY.length:Int)<=40)))) (RL.nt (RC.ret ?_)))
 obtain rfl:=oi o
 exact cA ⟨rfl,hw.drop 0⟩
theorem p5 {p0:dA} {res:Bool} (o:Holds E w V) (j:fM N p0=some res):
    Calls bG 100 [(str p0)].toArray w (gF (bD E V res)):=by
 unfold fM at j
 refine enter Tryz.func100 zr zr (RC.sr (aN (vb false) (RL.ns (mv (str p0) ?_))))
 obtain⟨aa,ab,j⟩:=bd j
 refine RL.call zt zr FQ [(str p0)] zr (aD (nv N (p0:=p0) o ab) ?_)
 rintro _ w ⟨rfl,o⟩
 refine RL.not aa (aN (vb (!aa)) (RL.nt (RC.ret ?_)))
 obtain rfl:=oi j
 exact cA ⟨rfl,o.drop 0⟩
theorem sO {p0:dA} {res:Bool} (j:Holds E w V) (hb:jZ N p0=some res):
    Calls bG 65 [(str p0)].toArray w (gF (bD E V res)):=by
 unfold jZ at hb
 refine enter Tryz.func65 zr zr (RC.sr (aN (vb false) (RL.nq ?_)))
 obtain⟨ad,hj,hb⟩:=bd hb
 refine RC.jn (fun(ad:Bool)=>SH E V [(2,vb ad)] []) ad ?_ ?_
 ·refine RC.region (mv (str p0) (RL.lens p0 xk (ic ((p0.bY.length:Int)) 200 (mv (vb (decide ((p0.bY.length:Int)<=200))) (iz hj (fun o hj=>?_) fun o hj=>?_)))))
  rotate_left
  ·refine cD o (cD o (cD o (cD o (iJ o (vb false) (aN (vb false) (RL.nil ?_))))))
   obtain rfl:=oi hj
   exact⟨rfl,j.sp 0 []⟩
  refine RL.move (str p0) (cg o) ?_
  obtain⟨ai,af,hj⟩:=bd hj
  refine RL.call (cg o) zr Hn [(str p0),(str ⟨[47]⟩)] zr (aD (tJ N (p0:=p0) (p1:=⟨[47]⟩) j af) ?_)
  rintro ag w j
  have j:=j.freeze 0
  obtain⟨ae,ah,hj⟩:=bd hj
  refine RL.call (cg o) rfl Ho [ag,(.func (.func 100) #[] #[])] rfl (aD (lU N (i0:=0) j rfl ⟨100,[],rfl,FR,fun w Γl v y0 r i j hi hr=>by obtain rfl:=j.vS (γ:=dA) hi;exact aD (p5 N (p0:=y0) j hr) fun _ _ h=>h⟩ ah) ?_)
  rintro _ w ⟨rfl,j⟩
  refine RL.not (hg:=(cg o)) ae (iJ o (vb (!ae)) (aN (vb (!ae)) (RL.nil ?_)))
  obtain rfl:=oi hj
  exact⟨rfl,j.sp 1 []⟩
 rintro _ w ⟨O,rfl,j⟩
 refine aJ (RC.ret ?_)
 obtain rfl:=oi hb
 exact cA ⟨rfl,j.drop 0⟩
def u5 (E:World) (V:List HP) (res:fH) (v:Value) (w:World):Prop:=Holds E w ([rd v res]++V)
theorem kP {p0:bW} {res:fH} (j:Holds E w V) (h0:V[i0]? =some (rd v0 p0)) (o:jo N p0=some res):
    Calls bG 57 [v0].toArray w (gF (u5 E V res)):=by
 unfold jo at o
 refine enter Tryz.func57 zr zr ?_
 have j:=j.dup (i0+0) h0
 refine RC.sr (RL.cX 0 v0 j zr fun aa w j=>?_)
 refine RL.alloc j FT.z fun ab w j=>?_
 refine RL.ns (RL.bF zr Co (RL.aS 1 j zr wx zo (RL.bF zr Cp (RL.aS 1 j zr wy zo ?_))))
 have j:=(j.sc dA p0.Part).sc dA p0.fH
 refine RL.build (⟨p0.Part,p0.fH⟩:fH) trivial rfl j [(0,(str p0.Part)),(1,(str p0.fH))] rfl Hq rfl (fun M hs g=>by have h:=Fz M;exact dR.cons (f:=fun(x:fH) y=>{x with Part:=y}) h Ch (g.sat 1 _ rfl).1 fun _ h=>dR.cons (f:=fun(x:fH) y=>{x with fH:=y}) h Ci (g.sat 0 _ rfl).1 fun _ h=>dR.nil h) fun ad j=>?_
 refine RL.aZ 3 j 0 zr pA fun w j=>?_
 refine RL.nt (RC.ret ?_)
 obtain rfl:=oi o
 exact ED 3 zr j zr zr pA fun ae j=>(j.pk 7 [0])
theorem nO {p0 p1:dA} (o:Holds E w V) (j:jI N p0 p1=some res):
    Calls bG 105 [(str p0),(str p1)].toArray w (gF (aQ E V res)):=by
 unfold jI at j
 refine enter Tryz.func105 zr zr (RC.sr (aN (vi 0) (RL.ns (mv (str p0) (mv (str p1) (RL.uN (vi (Lib.compareBytes p0.bY p1.bY)) zr [(str p0),(str p1)] zr (Hr p0 p1 w) (aN (vi (Lib.compareBytes p0.bY p1.bY)) (RL.nt ?_))))))))
 refine RC.ret ?_
 obtain rfl:=oi j
 exact cA ⟨rfl,o.drop 0⟩
theorem mO {p0 p1:dA} (o:Holds E w V) (j:kN N p0 p1=some res):
    Calls bG 78 [(str p0),(str p1)].toArray w (gF (aQ E V res)):=by
 unfold kN at j
 refine enter Tryz.func78 zr zr (RC.sr (aN (vi 0) (RL.ns (mv (str p0) (mv (str p1) ?_)))))
 obtain⟨aa,ab,j⟩:=bd j
 refine RL.call zt zr FU [(str p0),(str p1)] zr (aD (nO N (p0:=p0) (p1:=p1) o ab) ?_)
 rintro _ w ⟨rfl,o⟩
 refine aN (vi aa) (RL.nt (RC.ret ?_))
 obtain rfl:=oi j
 exact cA ⟨rfl,o.drop 0⟩
theorem ll {p0 p1:fH} (j:Holds E w V) (h0:V[i0]? =some (rd v0 p0)) (h1:V[i1]? =some (rd v1 p1)) (o:fP N p0 p1=some res):
    Calls bG 56 [v0,v1].toArray w (gF (aQ E V res)):=by
 unfold fP at o
 refine enter Tryz.func56 zr zr ?_
 have j:=(j.dup (i0+0) h0).dup (i1+1) h1
 refine RC.sr (RL.cX 1 v0 j zr fun ag w j=>?_)
 refine RL.cX 1 v1 j zr fun ah w j=>?_
 refine aN (vi 0) (RL.nq (RC.sr (RL.bF zr Cq (RL.aS 1 j zr yt zo (RL.bF zr Cq (RL.aS 0 j zr yt zo ?_))))))
 obtain⟨aa,ab,o⟩:=bd o
 refine RL.call zt zr FV [(str p0.Part),(str p1.Part)] zr (aD (mO N (p0:=p0.Part) (p1:=p1.Part) j ab) ?_)
 rintro _ w ⟨rfl,j⟩
 refine aN (vi aa) (RL.ns (mv (vi aa) (ic aa 0 (RL.nt (fZ o (fun hc o=>?_) fun hc o=>?_)))))
 ·refine RC.sr (mv (vi aa) (aN (vi aa) (RL.nt (RC.rt ?_))))
  obtain rfl:=oi o
  exact cA ⟨rfl,j.drop 4⟩
 refine RC.sx (RL.bF zr Cr (RL.aS 1 j zr yu zo (RL.bF zr Cr (RL.aS 0 j zr yu zo ?_))))
 obtain⟨ae,af,o⟩:=bd o
 refine RL.call zt zr FV [(str p0.fH),(str p1.fH)] zr (aD (mO N (p0:=p0.fH) (p1:=p1.fH) j af) ?_)
 rintro _ w ⟨rfl,j⟩
 refine aN (vi ae) (RL.nt (RC.ret ?_))
 obtain rfl:=oi o
 exact cA ⟨rfl,j.drop 4⟩
def q8 (E:World) (V:List HP) (r:Int) (U:Nat->Value) (w:World):Prop:=mi bG 60 Tryz.f49 (aQ E V r) .ret U w
theorem p6 {p0:eL} (j:Holds E w V) (h0:V[i0]? =some (rd v0 p0)) (hb:iv N p0=some res):
    Calls bG 49 [v0].toArray w (gF (aQ E V res)):=by
 unfold iv at hb
 refine enter Tryz.func49 zr zr ?_
 have j:=j.dup (i0+0) h0
 refine RC.sr (RL.cX 0 v0 j zr fun ag w j=>?_)
 have j:=j.ki (i:=0) rfl
 refine aN (vi 0) (RL.nq (RC.sr (RL.iT 0 j zr rI oe fun bk j=>(RL.cG 0 p0.bC j zn fun bl j=>(RL.bO 0 p0.bC j Cn (ic ((p0.bC.length:Int)) 1000 (RL.nt (fZ hb (fun hc hb=>?_) fun hc hb=>?_))))))))
 ·refine RC.sr (aN (vi 2) (RL.nt (RC.rt ?_)))
  obtain rfl:=oi hb
  exact cA ⟨rfl,j.drop 4⟩
 refine RC.ss (RC.sr (RL.iT 2 j zr rI oe fun bm j=>(RL.cG 0 p0.bC j zn fun ah j=>(RL.bO 0 p0.bC j Cn (mv (vi 0) (RL.nt ?_))))))
 obtain⟨bn,hN,hb⟩:=bd hb
 refine RC.range (fun(ad:Nat) (ak:Unit)=>SH E V [(1,vp ag 0),(10,ah),(11,vi p0.bC.length),(12,vi ad)] [pt (vp ag 0) p0,rd ah p0.bC]) (fun(ak:Unit)=>SH E V [] [pt (vp ag 0) p0,rd ah p0.bC]) (q8 E V) hN ?_ ?_ ?_ ?_ ?_
 ·exact j.sp 6 [4,0]
 ·rintro hm ak _ w ⟨O,rfl,j⟩
  refine RC.sr (ic ((p0.bC.length:Int)) ((p0.bC.length:Int)) (RL.nq (RC.dX px (RC.ex ?_))))
  exact⟨rfl,j.sp 2 [0,1]⟩
 ·rintro hm ad ak fl _ w hk ⟨O,rfl,j⟩ hb
  refine RC.sr (ic ((ad:Int)) ((p0.bC.length:Int)) (RL.nq (RC.dW (pw hk) (RC.ss (RC.bs (mv (vi ad) ?_))))))
  obtain⟨ai,a1,hb⟩:=bd hb
  refine RL.cQ 1 j Bg a1 fun bp j=>(RL.cG 0 ai j uX fun bq j=>(RL.alloc j EV.z fun al w j=>?_))
  refine aN (vi ad) (RL.aZ 0 j 1 zr uX fun w j=>?_)
  refine RL.nt (RC.block (RC.seq ?_))
  obtain⟨an,o,hb⟩:=bd hb
  refine RC.jn (fun(an:Bool)=>SH E V [(1,vp ag 0),(3,vi ad),(4,vp al 0),(10,ah),(11,vi p0.bC.length),(12,vi ad),(17,vb an)] [pt (vp ag 0) p0,bx 92 al ai,rd ah p0.bC]) an ?_ ?_
  ·refine RC.region (RL.bF zr Co (RL.aS 0 j zr wx zo ?_))
   obtain⟨ay,a2,o⟩:=bd o
   refine RL.call zt zr Hp [(str ai.Part)] zr (aD (sO N (p0:=ai.Part) j a2) ?_)
   rintro _ w ⟨rfl,j⟩
   refine RL.not ay (mv (vb (!ay)) (iz o (fun ae o=>?_) fun ae o=>?_))
   ·refine cD ae (cD ae (cD ae (cD ae (iJ ae (vb true) (aN (vb true) (RL.nil ?_))))))
    obtain rfl:=oi o
    exact⟨rfl,j.sp 5 [3,0,4]⟩
   refine RL.bF (hg:=(cg ae)) zr Cp (RL.aS (hg:=(cg ae)) 0 j zr wy zo ?_)
   obtain⟨ao,a3,o⟩:=bd o
   refine RL.call (cg ae) zr FQ [(str ai.fH)] zr (aD (nv N (p0:=ai.fH) j a3) ?_)
   rintro _ w ⟨rfl,j⟩
   refine RL.not (hg:=(cg ae)) ao (iJ ae (vb (!ao)) (aN (vb (!ao)) (RL.nil ?_)))
   obtain rfl:=oi o
   exact⟨rfl,j.sp 5 [3,0,4]⟩
  rintro _ w ⟨O,rfl,j⟩
  refine aJ (fZ hb (fun hc hb=>?_) fun hc hb=>?_)
  ·refine RC.sr (aN (vi 5) (RL.nt (RC.rb (oI (cH ?_)))))
   obtain rfl:=oi hb
   exact⟨rfl,cA ⟨rfl,j.drop 3⟩⟩
  refine RC.seq ?_
  obtain⟨aq,o,hb⟩:=bd hb
  refine RC.jn (fun(aq:Bool)=>SH E V [(1,vp ag 0),(3,vi ad),(4,vp al 0),(10,ah),(11,vi p0.bC.length),(12,vi ad),(28,vb aq)] [pt (vp ag 0) p0,bx 92 al ai,rd ah p0.bC]) aq ?_ ?_
  ·refine RC.region (RL.bF zr zp (RL.aS 1 j zr tz cV (RL.iT 0 j zr jK i6 fun br j=>(RL.cG 0 p0.aH j pz fun bt j=>(RL.bO 0 p0.aH j tC (RL.jV (p0.aH.length:Int) 1 ?_))))))
   obtain⟨az,a4,o⟩:=bd o
   refine RL.call zt zr Be [(vi ai.cY),(vi 0),(vi (IntKind.wrap .i64 ((p0.aH.length:Int) - 1)))] zr (aD (gJ N (p0:=ai.cY) (p1:=0) (p2:=(IntKind.wrap .i64 ((p0.aH.length:Int) - 1))) j a4) ?_)
   rintro _ w ⟨rfl,j⟩
   refine RL.not az (mv (vb (!az)) (iz o (fun af o=>?_) fun af o=>?_))
   ·refine cD af (cD af (cD af (cD af (iJ af (vb true) (aN (vb true) (RL.nil ?_))))))
    obtain rfl:=oi o
    exact⟨rfl,j.sp 5 [2,3,4]⟩
   refine RL.bF (hg:=(cg af)) zr zq (RL.aR (hg:=(cg af)) 3 j zr tA DL fun a5 j=>?_)
   obtain⟨ar,a6,o⟩:=bd o
   refine RL.call (cg af) zr FH [a5] zr (aD (om N (i0:=0) j zr a6) ?_)
   rintro _ w ⟨rfl,j⟩
   refine RL.not (hg:=(cg af)) ar (iJ af (vb (!ar)) (aN (vb (!ar)) (RL.nil ?_)))
   obtain rfl:=oi o
   exact⟨rfl,j.sp 6 [3,4,5]⟩
  rintro _ w ⟨O,rfl,j⟩
  refine aJ (fZ hb (fun hc hb=>?_) fun hc hb=>?_)
  ·refine RC.sr (aN (vi 1) (RL.nt (RC.rb (oI (cH ?_)))))
   obtain rfl:=oi hb
   exact⟨rfl,cA ⟨rfl,j.drop 3⟩⟩
  refine RC.seq ?_
  obtain⟨au,o,hb⟩:=bd hb
  refine RC.jn (fun(au:Bool)=>SH E V [(1,vp ag 0),(10,ah),(11,vi p0.bC.length),(12,vi ad),(43,vb au)] [pt (vp ag 0) p0,rd ah p0.bC]) au ?_ ?_
  ·refine RC.Ah mixed [0,0,0,0,2,1,1,1,1,1,1,2,2,0,0,0] [0,1,2,3,5,6,7,8,9,10,4,11,12,13,14,15] ?_
   have j:=j.drew
   refine DP.e0 zr (mv (vi ad) (dJ zr (ic ((ad:Int)) 0 (dJ zr (mv (vb (decide ((ad:Int)>0))) (DP.d0 (iz o (fun ab o=>?_) fun ab o=>?_)))))))
   rotate_left
   ·refine DP.e0 zr (cD ab (DP.d0 (DP.e1 undef zr (fun w=>cD ab DP.d1) (DP.e1 undef zr (fun w=>cD ab DP.d1) (DP.e1 undef zr (fun w=>cD ab DP.d1) (DP.e1 undef zr (fun w=>cD ab DP.d1) (DP.e1 undef zr (fun w=>cD ab DP.d1) (DP.e1 undef zr (fun w=>cD ab DP.d1) ?_))))))))
    refine DP.e2 zr (cD ab (EN zr (cD ab (EN zr (cD ab (Ai zr (cD ab (dJ zr ?_))))))))
    refine iJ ab (vb false) (dJ zr (aN (vb false) (DP.d0 (DP.z ?_))))
    obtain rfl:=oi o
    exact⟨rfl,j.sp 3 [0,2]⟩
   refine DP.e0 zr (RL.aR (hg:=(cg ab)) (f:=(fun x=>x)) 1 j zr Fd.self uX fun a7 j=>(DP.d0 (DP.Fy 1 zr zr (cg ab) zr j zr zr rI oe fun bu j=>(DP.yr p0.bC 0 zr (cg ab) j zn fun bw a378 bz j=>(DP.e1 (vi ad) zr (fun w=>RL.move (vi ad) (cg ab) DP.d1) (DP.e1 (vi (IntKind.wrap .i64 ((ad:Int) - 1))) zr (fun w=>RL.jV (hg:=(cg ab)) (ad:Int) 1 DP.d1) ?_))))))
   obtain⟨a8,a9,o⟩:=bd o
   refine DP.EP 1 zr zr (cg ab) zr j zr zr zr Bg a9 fun b0 j=>(DP.yr a8 0 zr (cg ab) j uX fun ba a383 b1 j=>(DP.e2 zr ?_))
   obtain⟨b2,bb,o⟩:=bd o
   refine RL.call (cg ab) zr DM [a7] zr (aD (kP N (i0:=6) j zr bb) ?_)
   rintro bc w j
   refine DP.d2 (⟨⟨zt,j.lS 4⟩,j.lS 1⟩) (DP.e2 zr ?_)
   obtain⟨b3,bf,o⟩:=bd o
   refine RL.call (cg ab) zr DM [ba] zr (aD (kP N (i0:=2) j zr bf) ?_)
   rintro bg w j
   refine DP.d2 (⟨⟨zt,j.lS 5⟩,j.lS 2⟩) (DP.e2 zr ?_)
   obtain⟨av,bh,o⟩:=bd o
   refine RL.call (cg ab) zr FW [bc,bg] zr (aD (ll N (i0:=1) (i1:=0) j zr zr bh) ?_)
   rintro _ w ⟨rfl,j⟩
   refine DP.d2 (⟨⟨zt,j.lS 5⟩,j.lS 2⟩) (DP.e0 zr (RL.k7 av 0 (cg ab) (dJ zr (iJ ab (vb (decide (av<=0))) (dJ zr (aN (vb (decide (av<=0))) (DP.d0 ?_)))))))
   have j:=j.pl 12 [0,1,3,4,6,7,8,9,10,11]
   refine DP.z ?_
   obtain rfl:=oi o
   exact⟨rfl,j.sp 10 [7,9]⟩
  rintro _ w ⟨O,rfl,j⟩
  refine aJ (fZ hb (fun hc hb=>?_) fun hc hb=>?_)
  rotate_left
  ·refine RC.skip (bZ (bZ (aJ (RC.region (RL.inc hk hm (mv (vi ((ad+1:Nat):Int)) (RL.nil ?_)))))))
   obtain rfl:=oi hb
   exact⟨rfl,j.sp 2 [0,1]⟩
  refine RC.sr (aN (vi 8) (RL.nt (RC.rb (oI (cH ?_)))))
  obtain rfl:=oi hb
  exact⟨rfl,cA ⟨rfl,j.drop 2⟩⟩
 ·intro r U w e hK
  subst e
  refine cH ?_
  obtain rfl:=oi hb
  exact hK
 rintro ak _ w rfl ⟨O,rfl,j⟩
 rw [Fo.gL] at hb
 refine aJ (RC.sr (aN (vi 0) (RL.nt (RC.ret ?_))))
 obtain rfl:=oi hb
 exact cA ⟨rfl,j.drop 2⟩
theorem ou (o:Holds E w V) (j:jE N p0 p1 p2 p3=some res):
    Calls bG 67 [(vi p0),(vi p1),(vi p2),(vi p3)].toArray w (gF (aQ E V res)):=by
 unfold jE at j
 refine enter Tryz.func67 zr zr (RC.sr (aN (vi 0) (RL.ns (mv (vi p2) (mv (vi p1) (RL.jV p2 p1 (RL.jV (IntKind.wrap .i64 (p2 - p1)) 1 (mv (vi p0) ?_))))))))
 refine mv (vi p3) (RL.jV p0 p3 (RL.jV (IntKind.wrap .i64 (p0 - p3)) 1 (RL.G0 (a:=0) (b:=(IntKind.wrap .i64 ((IntKind.wrap .i64 (p2 - p1))+1))) (c:=(IntKind.wrap .i64 ((IntKind.wrap .i64 (p0 - p3))+1))) zt zr zr zr zr (aN (vi (if (if 0< (IntKind.wrap .i64 ((IntKind.wrap .i64 (p2 - p1))+1)) then (IntKind.wrap .i64 ((IntKind.wrap .i64 (p2 - p1))+1)) else 0)< (IntKind.wrap .i64 ((IntKind.wrap .i64 (p0 - p3))+1)) then (IntKind.wrap .i64 ((IntKind.wrap .i64 (p0 - p3))+1)) else (if 0< (IntKind.wrap .i64 ((IntKind.wrap .i64 (p2 - p1))+1)) then (IntKind.wrap .i64 ((IntKind.wrap .i64 (p2 - p1))+1)) else 0))) (RL.nt (RC.ret ?_))))))
 obtain rfl:=oi j
 exact cA ⟨rfl,o.drop 0⟩
theorem xt {p0 p1:aG} (j:Holds E w V) (h0:V[i0]? =some (rd v0 p0)) (h1:V[i1]? =some (rd v1 p1)) (o:nX N p0 p1=some res):
    Calls bG 50 [v0,v1].toArray w (gF (aQ E V res)):=by
 unfold nX at o
 refine enter Tryz.func50 zr zr ?_
 have j:=(j.dup (i0+0) h0).dup (i1+1) h1
 refine RC.sr (RL.cX 1 v0 j zr fun aa w j=>?_)
 refine RL.cX 1 v1 j zr fun ab w j=>?_
 refine aN (vi 0) (RL.nq ?_)
 have j:=j.drew
 refine RC.A3 (fun w=>Holds E w ([bx 42 ab p1,bx 42 aa p0]++V)) mixed zr [0,0,0,0,0,0,0,0,2,1,1,1,1,1,1,1,1,2,0,0] [0,1,2,3,4,5,6,7,9,10,11,12,13,14,15,16,8,17,18,19] (j.pk 4 [0,1]) (DP.e0 zr (RL.bF zr jr (dJ zr (RL.aS 1 j zr eQ cV (dJ zr (RL.bF zr j6 (dJ zr (RL.aS 1 j zr fQ cV ?_))))))))
 refine dJ zr (RL.bF zr jr (dJ zr (RL.aS 0 j zr eQ cV (dJ zr (RL.bF zr j6 (dJ zr (RL.aS 0 j zr fQ cV (DP.d0 ?_))))))))
 refine DP.e1 (vp aa 1) zr (fun w=>RL.bF zr j5 DP.d1) (DP.DH (vi p0.Y0) zr (fun w j=>RL.aS 1 j zr fB cV DP.d1) (DP.e1 (vp aa 3) zr (fun w=>RL.bF zr mK DP.d1) (DP.DH (vi p0.Y1) zr (fun w j=>RL.aS 1 j zr i5 cV DP.d1) (DP.e1 (vp ab 1) zr (fun w=>RL.bF zr j5 DP.d1) (DP.DH (vi p1.Y0) zr (fun w j=>RL.aS 0 j zr fB cV DP.d1) (DP.e1 (vp ab 3) zr (fun w=>RL.bF zr mK DP.d1) (DP.DH (vi p1.Y1) zr (fun w j=>RL.aS 0 j zr i5 cV DP.d1) (DP.e2 zr ?_))))))))
 obtain⟨ad,af,o⟩:=bd o
 refine RL.call zt zr FX [(vi p0.X0),(vi p0.X1),(vi p1.X0),(vi p1.X1)] zr (aD (ou N (p0:=p0.X0) (p1:=p0.X1) (p2:=p1.X0) (p3:=p1.X1) j af) ?_)
 rintro _ w ⟨rfl,j⟩
 refine DP.d2 (j.pk 4 [0,1]) (DP.e2 zr ?_)
 obtain⟨ae,ag,o⟩:=bd o
 refine RL.call zt zr FX [(vi p0.Y0),(vi p0.Y1),(vi p1.Y0),(vi p1.Y1)] zr (aD (ou N (p0:=p0.Y0) (p1:=p0.Y1) (p2:=p1.Y0) (p3:=p1.Y1) j ag) ?_)
 rintro _ w ⟨rfl,j⟩
 refine DP.d2 (j.pk 4 [0,1]) (DP.e0 zr (RL.max ad ae (dJ zr (aN (vi (if ad<ae then ae else ad)) (DP.d0 (DP.z (aJ (RC.ret ?_))))))))
 obtain rfl:=oi o
 exact cA ⟨rfl,j.drop 4⟩
end Go.Gk
