/-
  Printed texts: Go functions as plain functions, and that they are. No statement of the seed is proved here.
-/
import Derived.Test.YtmmiladckdcjeaaGreatDoorG1
import Derived.Test.YtmmiladckdcjeaaGreatDoorA2
set_option linter.unusedVariables false
set_option linter.unusedSimpArgs false
set_option linter.unusedSectionVars false
set_option maxRecDepth 100000
set_option maxHeartbeats 4000000
namespace Go.Gk
open Go Go.Proofs
variable (N:Nat) {E w:World} {i0 i1:Nat} {p0 p1 p2 p3 res:Int} {v0 v1:Value} {V:List HP}
theorem jo {p0:cE} {res:aI} (j:Holds E w V) (h0:V[i0]? =some (rd v0 p0)) (o:gE N p0=some res):
    Calls bO 19 [v0].toArray w (gW (oD E V res)):=by
 unfold gE at o
 refine enter Tryz.func19 zr zr ?_
 have j:=j.dup (i0+0) h0
 refine RC.sr (RL.dJ 0 v0 j zr fun aa w j=>?_)
 refine RL.alloc j oA.z fun ab w j=>?_
 refine RL.nq (RC.zf mixed ?_)
 have j:=j.drew
 refine RO.go (RL.aX zr x8 (RO.nx (RL.aX zr v8 (RO.nx (RL.aN (f:=(fun x=>x.At.X)) 1 j zr (Fd.comp (f:=fun(x:cE)=>x.At) (fun(x:jt)=>x.X) qh nL) cJ (RO.nx (RL.aX zr rz (RO.nx ?_))))))))
 refine RL.aN 1 j zr lV cJ (RO.nx (RL.quo p0.dE 2 (RO.nx (RL.gl p0.At.X (IntKind.wrap .i64 (Int.tdiv p0.dE 2)) (RO.nx (RL.aX zr x8 (RO.nx (RL.aX zr v9 ?_))))))))
 refine RO.nx (RL.aN (f:=(fun x=>x.At.Y)) 1 j zr (Fd.comp (f:=fun(x:cE)=>x.At) (fun(x:jt)=>x.Y) qh nM) cJ (RO.nx (RL.aX zr rz (RO.nx (RL.aN 1 j zr lV cJ (RO.nx (RL.quo p0.dE 2 (RO.nx ?_))))))))
 refine RL.gl p0.At.Y (IntKind.wrap .i64 (Int.tdiv p0.dE 2)) (RO.nx (aQ (vi (IntKind.wrap .i64 (p0.At.X - (IntKind.wrap .i64 (Int.tdiv p0.dE 2))))) (RO.nx (aQ (vi (IntKind.wrap .i64 (p0.At.Y - (IntKind.wrap .i64 (Int.tdiv p0.dE 2))))) (RO.last (aH (RC.sr (mv (vi (IntKind.wrap .i64 (p0.At.X - (IntKind.wrap .i64 (Int.tdiv p0.dE 2))))) ?_))))))))
 refine mv (vi (IntKind.wrap .i64 (p0.At.Y - (IntKind.wrap .i64 (Int.tdiv p0.dE 2))))) (mv (vi (IntKind.wrap .i64 (p0.At.X - (IntKind.wrap .i64 (Int.tdiv p0.dE 2))))) (RL.aX zr rz (RL.aN 1 j zr lV cJ (RL.gl (IntKind.wrap .i64 (p0.At.X - (IntKind.wrap .i64 (Int.tdiv p0.dE 2)))) p0.dE (mv (vi (IntKind.wrap .i64 (p0.At.Y - (IntKind.wrap .i64 (Int.tdiv p0.dE 2))))) (RL.aX zr rz (RL.aN 1 j zr lV cJ (RL.gl (IntKind.wrap .i64 (p0.At.Y - (IntKind.wrap .i64 (Int.tdiv p0.dE 2)))) p0.dE ?_))))))))
 have j:=((j.sc Int (IntKind.wrap .i64 (p0.At.X - (IntKind.wrap .i64 (Int.tdiv p0.dE 2))))).sc Int (IntKind.wrap .i64 (p0.At.Y - (IntKind.wrap .i64 (Int.tdiv p0.dE 2))))).sc Int (IntKind.wrap .i64 ((IntKind.wrap .i64 (p0.At.X - (IntKind.wrap .i64 (Int.tdiv p0.dE 2))))+p0.dE))
 have j:=j.sc Int (IntKind.wrap .i64 ((IntKind.wrap .i64 (p0.At.Y - (IntKind.wrap .i64 (Int.tdiv p0.dE 2))))+p0.dE))
 refine RL.build (⟨(IntKind.wrap .i64 (p0.At.X - (IntKind.wrap .i64 (Int.tdiv p0.dE 2)))),(IntKind.wrap .i64 (p0.At.Y - (IntKind.wrap .i64 (Int.tdiv p0.dE 2)))),(IntKind.wrap .i64 ((IntKind.wrap .i64 (p0.At.X - (IntKind.wrap .i64 (Int.tdiv p0.dE 2))))+p0.dE)),(IntKind.wrap .i64 ((IntKind.wrap .i64 (p0.At.Y - (IntKind.wrap .i64 (Int.tdiv p0.dE 2))))+p0.dE))⟩:aI) trivial rfl j [(0,(vi (IntKind.wrap .i64 (p0.At.X - (IntKind.wrap .i64 (Int.tdiv p0.dE 2)))))),(1,(vi (IntKind.wrap .i64 (p0.At.Y - (IntKind.wrap .i64 (Int.tdiv p0.dE 2)))))),(2,(vi (IntKind.wrap .i64 ((IntKind.wrap .i64 (p0.At.X - (IntKind.wrap .i64 (Int.tdiv p0.dE 2))))+p0.dE)))),(3,(vi (IntKind.wrap .i64 ((IntKind.wrap .i64 (p0.At.Y - (IntKind.wrap .i64 (Int.tdiv p0.dE 2))))+p0.dE))))] rfl Di rfl (fun M hs g=>by have h:=sX M;exact cT.cons (f:=fun(x:aI) y=>{x with X0:=y}) h oO (g.sat 3 _ rfl).1 fun _ h=>cT.cons (f:=fun(x:aI) y=>{x with Y0:=y}) h qf (g.sat 2 _ rfl).1 fun _ h=>cT.cons (f:=fun(x:aI) y=>{x with X1:=y}) h oQ (g.sat 1 _ rfl).1 fun _ h=>cT.cons (f:=fun(x:aI) y=>{x with Y1:=y}) h qg (g.sat 0 _ rfl).1 fun _ h=>cT.nil h) fun ad j=>?_
 refine RL.cA 5 j 0 zr iF fun w j=>?_
 refine RL.nt (RC.ret ?_)
 obtain rfl:=oi o
 exact H0 5 zr j zr zr iF fun ae j=>(j.pk 9 [0])
theorem vA {p0: (List aA)} {res:aI} (j:Holds E w V) (h0:V[i0]? =some (rd v0 p0)) (hb:mV N p0=some res):
    Calls bO 77 [v0].toArray w (gW (oD E V res)):=by
 unfold mV at hb
 refine enter Tryz.func77 zr zr ?_
 have j:=j.dup (i0+0) h0
 refine RC.sr (RL.alloc j oA.z fun bf w j=>?_)
 refine RL.nq ?_
 obtain⟨bj,bo,hb⟩:=bd hb
 obtain⟨bb,bp,hb⟩:=bd hb
 obtain⟨a8,bq,hb⟩:=bd hb
 obtain⟨bk,br,hb⟩:=bd hb
 obtain⟨bc,bt,hb⟩:=bd hb
 obtain⟨a9,bu,hb⟩:=bd hb
 refine RC.FJ E V mixed [1,0,0,0,0,0,1,0,0,0,1,0,0,0,0,0,1,1,0,1,0,0,0,0,0,0] [1,2,3,4,7,8,11,12,13,14,20,21,23,24,25] (fun(x:Value×Value×Value×Value×Value×Value×Value×Value×Value×Value×Value×Value×Value×Nat)=>(fun ah ai aj ak al an ao aq ar au av aw ax ae=>[(0,6,v0),(1,7,ah),(2,8,ai),(3,9,aj),(4,10,ak),(5,11,(vi bb)),(6,12,v0),(7,13,al),(8,14,an),(9,15,(vi a8.Y0)),(10,16,v0),(11,17,ao),(12,18,aq),(13,19,ar),(14,20,au),(15,21,(vi bc)),(16,22,v0),(17,23,v0),(18,24,(vi p0.length)),(19,25,(vi (IntKind.wrap .i64 ((p0.length:Int) - 1)))),(20,26,av),(21,27,aw),(22,28,(vi a9.Y1)),(23,29,ax),(24,3,(vp ae 0))]) x.1 x.2.1 x.2.2.1 x.2.2.2.1 x.2.2.2.2.1 x.2.2.2.2.2.1 x.2.2.2.2.2.2.1 x.2.2.2.2.2.2.2.1 x.2.2.2.2.2.2.2.2.1 x.2.2.2.2.2.2.2.2.2.1 x.2.2.2.2.2.2.2.2.2.2.1 x.2.2.2.2.2.2.2.2.2.2.2.1 x.2.2.2.2.2.2.2.2.2.2.2.2.1 x.2.2.2.2.2.2.2.2.2.2.2.2.2) [(0,v0),(2,vp bf 0)] [] (fun(D:Nat->Bool) (x:Value×Value×Value×Value×Value×Value×Value×Value×Value×Value×Value×Value×Value×Nat)=>(fun ah ai aj ak al an ao aq ar au av aw ax ae=>[bif D 0 then (pt ah bj) else bC,bif D 1 then (pt ai bj.Xs) else bC,bif D 2 then (rd aj bj.Xs) else bC,bif D 3 then (pt ak bb) else bC,bif D 4 then (pt al a8) else bC,bif D 5 then (pt an a8.Y0) else bC,bif D 6 then (pt ao bk) else bC,bif D 7 then (pt aq bk.Xs) else bC,bif D 8 then (rd ar bk.Xs) else bC,bif D 9 then (pt au bc) else bC,bif D 10 then (pt av a9) else bC,bif D 11 then (pt aw a9.Y1) else bC,bif D 12 then (rd ax (⟨bb,a8.Y0,bc,a9.Y1⟩:aI)) else bC,bif D 14 then (bx 59 ae (⟨bb,a8.Y0,bc,a9.Y1⟩:aI)) else (bif D 13 then (raw 59 ae 4) else bC),raw 59 bf 4,rd v0 p0]) x.1 x.2.1 x.2.2.1 x.2.2.2.1 x.2.2.2.2.1 x.2.2.2.2.2.1 x.2.2.2.2.2.2.1 x.2.2.2.2.2.2.2.1 x.2.2.2.2.2.2.2.2.1 x.2.2.2.2.2.2.2.2.2.1 x.2.2.2.2.2.2.2.2.2.2.1 x.2.2.2.2.2.2.2.2.2.2.2.1 x.2.2.2.2.2.2.2.2.2.2.2.2.1 x.2.2.2.2.2.2.2.2.2.2.2.2.2) (fun x=>by kernel_rfl) ?_ ⟨fun _=>jF gn,?_,?_,?_,?_,?_,fun _=>jF gn,?_,?_,?_,fun _=>jF gn,?_,?_,?_,?_,?_,fun _=>jF gn,fun _=>jF gn,?_,fun _=>Ju gn rfl,?_,?_,?_,?_,?_,?_,trivial⟩ ?_
 ·have j:=((((((((((((j.drew).bC).bC).bC).bC).bC).bC).bC).bC).bC).bC).bC).bC
  have j:=(j.bC).bC
  exact⟨(undef,undef,undef,undef,undef,undef,undef,undef,undef,undef,undef,undef,undef,0),fP.none,(Eu zr),zt,j⟩
 ·rintro D U w hD o ag ⟨⟨ah,ai,aj,ak,al,an,ao,aq,ar,au,av,aw,ax,ae⟩,hv,ha,_,j⟩
  obtain⟨O,rfl⟩:=(ac (hv.at 0 rfl (o.1 rfl)) az).fH
  have j:=j.cB 0 hD
  refine RL.bP 15 j pD bo fun bw j=>?_
  have j:=(j.pl 17 [0,2,3,4,5,6,7,8,9,10,11,12,13,14,15,16]).cQ 0 true rfl bC
  exact RL.nil ⟨rfl,(bw,ai,aj,ak,al,an,ao,aq,ar,au,av,aw,ax,ae),hv.pu 1,ha.u,zt,j⟩
 ·rintro D U w hD o ag ⟨⟨ah,ai,aj,ak,al,an,ao,aq,ar,au,av,aw,ax,ae⟩,hv,ha,_,j⟩
  obtain⟨O,rfl⟩:=(ac (hv.at 1 rfl (o.1 rfl)) az).fH
  have j:=(j.cP 0 (o.1 rfl)).cB 1 hD
  refine RL.dX 0 j zr ma eB fun bz j=>?_
  have j:=((j.pl 17 [1,0,3,4,5,6,7,8,9,10,11,12,13,14,15,16]).cQ 0 (D 1) (o.1 rfl) bC).cQ 1 true rfl bC
  exact RL.nil ⟨rfl,(ah,bz,aj,ak,al,an,ao,aq,ar,au,av,aw,ax,ae),hv.pu 2,ha.u,zt,j⟩
 ·rintro D U w hD o ag ⟨⟨ah,ai,aj,ak,al,an,ao,aq,ar,au,av,aw,ax,ae⟩,hv,ha,_,j⟩
  obtain⟨O,rfl⟩:=(ac (hv.at 2 rfl (o.1 rfl)) az).fH
  have j:=(j.cP 1 (o.1 rfl)).cB 2 hD
  refine RL.bL 1 bj.Xs j eY fun b0 j=>?_
  have j:=((j.pl 17 [1,2,0,4,5,6,7,8,9,10,11,12,13,14,15,16]).cQ 1 (D 2) (o.1 rfl) bC).cQ 2 true rfl bC
  exact RL.nil ⟨rfl,(ah,ai,b0,ak,al,an,ao,aq,ar,au,av,aw,ax,ae),hv.pu 3,ha.u,zt,j⟩
 ·rintro D U w hD o ag ⟨⟨ah,ai,aj,ak,al,an,ao,aq,ar,au,av,aw,ax,ae⟩,hv,ha,_,j⟩
  obtain⟨O,rfl⟩:=(ac (hv.at 3 rfl (o.1 rfl)) az).fH
  have j:=(j.cP 2 (o.1 rfl)).cB 3 hD
  refine RL.bP 2 j dW bp fun b1 j=>?_
  have j:=((j.pl 17 [1,2,3,0,5,6,7,8,9,10,11,12,13,14,15,16]).cQ 2 (D 3) (o.1 rfl) bC).cQ 3 true rfl bC
  exact RL.nil ⟨rfl,(ah,ai,aj,b1,al,an,ao,aq,ar,au,av,aw,ax,ae),hv.pu 4,ha.u,zt,j⟩
 ·rintro D U w hD o ag ⟨⟨ah,ai,aj,ak,al,an,ao,aq,ar,au,av,aw,ax,ae⟩,hv,ha,_,j⟩
  obtain⟨O,rfl⟩:=(ac (hv.at 4 rfl (o.1 rfl)) az).fH
  have j:=j.cP 3 (o.1 rfl)
  refine RL.bD bb 3 j cJ ?_
  have j:=j.cQ 3 (D 4) (o.1 rfl) bC
  exact RL.nil ⟨rfl,(ah,ai,aj,ak,al,an,ao,aq,ar,au,av,aw,ax,ae),hv.pu 5,ha.u,zt,j⟩
 ·rintro D U w hD o ag ⟨⟨ah,ai,aj,ak,al,an,ao,aq,ar,au,av,aw,ax,ae⟩,hv,ha,_,j⟩
  obtain⟨O,rfl⟩:=(ac (hv.at 6 rfl (o.1 rfl)) az).fH
  have j:=j.cB 4 hD
  refine RL.bP 15 j pD bq fun b2 j=>?_
  have j:=(j.pl 17 [1,2,3,4,0,6,7,8,9,10,11,12,13,14,15,16]).cQ 4 true rfl bC
  exact RL.nil ⟨rfl,(ah,ai,aj,ak,b2,an,ao,aq,ar,au,av,aw,ax,ae),hv.pu 7,ha.u,zt,j⟩
 ·rintro D U w hD o ag ⟨⟨ah,ai,aj,ak,al,an,ao,aq,ar,au,av,aw,ax,ae⟩,hv,ha,_,j⟩
  obtain⟨O,rfl⟩:=(ac (hv.at 7 rfl (o.1 rfl)) az).fH
  have j:=(j.cP 4 (o.1 rfl)).cB 5 hD
  refine RL.dX 4 j zr pV ig fun b3 j=>?_
  have j:=((j.pl 17 [1,2,3,4,5,0,7,8,9,10,11,12,13,14,15,16]).cQ 4 (D 7) (o.1 rfl) bC).cQ 5 true rfl bC
  exact RL.nil ⟨rfl,(ah,ai,aj,ak,al,b3,ao,aq,ar,au,av,aw,ax,ae),hv.pu 8,ha.u,zt,j⟩
 ·rintro D U w hD o ag ⟨⟨ah,ai,aj,ak,al,an,ao,aq,ar,au,av,aw,ax,ae⟩,hv,ha,_,j⟩
  obtain⟨O,rfl⟩:=(ac (hv.at 8 rfl (o.1 rfl)) az).fH
  have j:=j.cP 5 (o.1 rfl)
  refine RL.bD a8.Y0 5 j cJ ?_
  have j:=j.cQ 5 (D 8) (o.1 rfl) bC
  exact RL.nil ⟨rfl,(ah,ai,aj,ak,al,an,ao,aq,ar,au,av,aw,ax,ae),hv.pu 9,ha.u,zt,j⟩
 ·rintro D U w hD o ag ⟨⟨ah,ai,aj,ak,al,an,ao,aq,ar,au,av,aw,ax,ae⟩,hv,ha,_,j⟩
  obtain⟨O,rfl⟩:=(ac (hv.at 10 rfl (o.1 rfl)) az).fH
  have j:=j.cB 6 hD
  refine RL.bP 15 j pD br fun b4 j=>?_
  have j:=(j.pl 17 [1,2,3,4,5,6,0,8,9,10,11,12,13,14,15,16]).cQ 6 true rfl bC
  exact RL.nil ⟨rfl,(ah,ai,aj,ak,al,an,b4,aq,ar,au,av,aw,ax,ae),hv.pu 11,ha.u,zt,j⟩
 ·rintro D U w hD o ag ⟨⟨ah,ai,aj,ak,al,an,ao,aq,ar,au,av,aw,ax,ae⟩,hv,ha,_,j⟩
  obtain⟨O,rfl⟩:=(ac (hv.at 11 rfl (o.1 rfl)) az).fH
  have j:=(j.cP 6 (o.1 rfl)).cB 7 hD
  refine RL.dX 6 j zr ma eB fun b5 j=>?_
  have j:=((j.pl 17 [1,2,3,4,5,6,7,0,9,10,11,12,13,14,15,16]).cQ 6 (D 11) (o.1 rfl) bC).cQ 7 true rfl bC
  exact RL.nil ⟨rfl,(ah,ai,aj,ak,al,an,ao,b5,ar,au,av,aw,ax,ae),hv.pu 12,ha.u,zt,j⟩
 ·rintro D U w hD o ag ⟨⟨ah,ai,aj,ak,al,an,ao,aq,ar,au,av,aw,ax,ae⟩,hv,ha,_,j⟩
  obtain⟨O,rfl⟩:=(ac (hv.at 12 rfl (o.1 rfl)) az).fH
  have j:=(j.cP 7 (o.1 rfl)).cB 8 hD
  refine RL.bL 7 bk.Xs j eY fun b6 j=>?_
  have j:=((j.pl 17 [1,2,3,4,5,6,7,8,0,10,11,12,13,14,15,16]).cQ 7 (D 12) (o.1 rfl) bC).cQ 8 true rfl bC
  exact RL.nil ⟨rfl,(ah,ai,aj,ak,al,an,ao,aq,b6,au,av,aw,ax,ae),hv.pu 13,ha.u,zt,j⟩
 ·rintro D U w hD o ag ⟨⟨ah,ai,aj,ak,al,an,ao,aq,ar,au,av,aw,ax,ae⟩,hv,ha,_,j⟩
  obtain⟨O,rfl⟩:=(ac (hv.at 13 rfl (o.1 rfl)) az).fH
  have j:=(j.cP 8 (o.1 rfl)).cB 9 hD
  refine RL.bP 8 j dW bt fun b7 j=>?_
  have j:=((j.pl 17 [1,2,3,4,5,6,7,8,9,0,11,12,13,14,15,16]).cQ 8 (D 13) (o.1 rfl) bC).cQ 9 true rfl bC
  exact RL.nil ⟨rfl,(ah,ai,aj,ak,al,an,ao,aq,ar,b7,av,aw,ax,ae),hv.pu 14,ha.u,zt,j⟩
 ·rintro D U w hD o ag ⟨⟨ah,ai,aj,ak,al,an,ao,aq,ar,au,av,aw,ax,ae⟩,hv,ha,_,j⟩
  obtain⟨O,rfl⟩:=(ac (hv.at 14 rfl (o.1 rfl)) az).fH
  have j:=j.cP 9 (o.1 rfl)
  refine RL.bD bc 9 j cJ ?_
  have j:=j.cQ 9 (D 14) (o.1 rfl) bC
  exact RL.nil ⟨rfl,(ah,ai,aj,ak,al,an,ao,aq,ar,au,av,aw,ax,ae),hv.pu 15,ha.u,zt,j⟩
 ·rintro D U w hD o ag ⟨⟨ah,ai,aj,ak,al,an,ao,aq,ar,au,av,aw,ax,ae⟩,hv,ha,_,j⟩
  obtain⟨O,rfl⟩:=(ac (hv.at 17 rfl (o.1 rfl)) az).fH
  refine RL.bA 15 p0 j vr ?_
  exact RL.nil ⟨rfl,(ah,ai,aj,ak,al,an,ao,aq,ar,au,av,aw,ax,ae),hv.pu 18,ha.u,zt,j⟩
 ·rintro D U w hD o ag ⟨⟨ah,ai,aj,ak,al,an,ao,aq,ar,au,av,aw,ax,ae⟩,hv,ha,_,j⟩
  obtain⟨O,rfl⟩:=(ac (hv.at 16 rfl (o.1 rfl)) (ac (hv.at 19 rfl (o.2.1 rfl)) az)).fH
  have j:=j.cB 10 hD
  refine RL.bP 15 j pD bu fun b8 j=>?_
  have j:=(j.pl 17 [1,2,3,4,5,6,7,8,9,10,0,12,13,14,15,16]).cQ 10 true rfl bC
  exact RL.nil ⟨rfl,(ah,ai,aj,ak,al,an,ao,aq,ar,au,b8,aw,ax,ae),hv.pu 20,ha.u,zt,j⟩
 ·rintro D U w hD o ag ⟨⟨ah,ai,aj,ak,al,an,ao,aq,ar,au,av,aw,ax,ae⟩,hv,ha,_,j⟩
  obtain⟨O,rfl⟩:=(ac (hv.at 20 rfl (o.1 rfl)) az).fH
  have j:=(j.cP 10 (o.1 rfl)).cB 11 hD
  refine RL.dX 10 j zr nH fQ fun b9 j=>?_
  have j:=((j.pl 17 [1,2,3,4,5,6,7,8,9,10,11,0,13,14,15,16]).cQ 10 (D 20) (o.1 rfl) bC).cQ 11 true rfl bC
  exact RL.nil ⟨rfl,(ah,ai,aj,ak,al,an,ao,aq,ar,au,av,b9,ax,ae),hv.pu 21,ha.u,zt,j⟩
 ·rintro D U w hD o ag ⟨⟨ah,ai,aj,ak,al,an,ao,aq,ar,au,av,aw,ax,ae⟩,hv,ha,_,j⟩
  obtain⟨O,rfl⟩:=(ac (hv.at 21 rfl (o.1 rfl)) az).fH
  have j:=j.cP 11 (o.1 rfl)
  refine RL.bD a9.Y1 11 j cJ ?_
  have j:=j.cQ 11 (D 21) (o.1 rfl) bC
  exact RL.nil ⟨rfl,(ah,ai,aj,ak,al,an,ao,aq,ar,au,av,aw,ax,ae),hv.pu 22,ha.u,zt,j⟩
 ·rintro D U w hD o ag ⟨⟨ah,ai,aj,ak,al,an,ao,aq,ar,au,av,aw,ax,ae⟩,hv,ha,_,j⟩
  obtain⟨O,rfl⟩:=(ac (hv.at 5 rfl (o.1 rfl)) (ac (hv.at 9 rfl (o.2.1 rfl)) (ac (hv.at 15 rfl (o.2.2.1 rfl)) (ac (hv.at 22 rfl (o.2.2.2.1 rfl)) az)))).fH
  have j:=((((j.cB 12 hD).sc Int bb).sc Int a8.Y0).sc Int bc).sc Int a9.Y1
  refine RL.build (⟨bb,a8.Y0,bc,a9.Y1⟩:aI) trivial rfl j [(0,vi bb),(1,vi a8.Y0),(2,vi bc),(3,vi a9.Y1)] rfl Di rfl (fun M hs g=>by have h:=sX M;exact cT.cons (f:=fun(x:aI) y=>{x with X0:=y}) h oO (g.sat 3 _ rfl).1 fun _ h=>cT.cons (f:=fun(x:aI) y=>{x with Y0:=y}) h qf (g.sat 2 _ rfl).1 fun _ h=>cT.cons (f:=fun(x:aI) y=>{x with X1:=y}) h oQ (g.sat 1 _ rfl).1 fun _ h=>cT.cons (f:=fun(x:aI) y=>{x with Y1:=y}) h qg (g.sat 0 _ rfl).1 fun _ h=>cT.nil h) fun ca j=>?_
  have j:=(j.pl 21 [5,6,7,8,9,10,11,12,13,14,15,16,0,18,19,20]).cQ 12 true rfl bC
  exact RL.nil ⟨rfl,(ah,ai,aj,ak,al,an,ao,aq,ar,au,av,aw,ca,ae),hv.pu 23,ha.u,zt,j⟩
 ·rintro D U w hD o ag ⟨⟨ah,ai,aj,ak,al,an,ao,aq,ar,au,av,aw,ax,ae⟩,hv,ha,_,j⟩
  obtain⟨O,rfl⟩:=(az (U:=U)).fH
  have j:=(j.cB 13 (nh ag hD 25)).cB 13 hD
  refine RL.alloc j oA.z fun bl w j=>?_
  have j:=((j.pl 17 [1,2,3,4,5,6,7,8,9,10,11,12,13,0,15,16]).cQ 13 true rfl bC).eW 13 (D 25) (nh ag hD 25) (bx 59 bl (⟨bb,a8.Y0,bc,a9.Y1⟩:aI))
  exact RL.nil ⟨rfl,(ah,ai,aj,ak,al,an,ao,aq,ar,au,av,aw,ax,bl),hv.pu 24,ha.u,zt,j⟩
 ·rintro D U w hD o ag ⟨⟨ah,ai,aj,ak,al,an,ao,aq,ar,au,av,aw,ax,ae⟩,hv,ha,_,j⟩
  obtain⟨O,rfl⟩:=(ac (hv.at 23 rfl (o.2.1 rfl)) (ac (hv.at 24 rfl (o.1 rfl)) az)).fH
  have j:=((j.cP 12 (o.2.1 rfl)).cB 13 hD).cP 13 (o.1 rfl)
  refine RL.cA 13 j 12 zr iF fun w j=>?_
  have j:=(j.cQ 12 (D 23) (o.2.1 rfl) bC).cQ 13 true rfl (bif D 24 then (raw 59 ae 4) else bC)
  exact RL.nil ⟨rfl,(ah,ai,aj,ak,al,an,ao,aq,ar,au,av,aw,ax,ae),hv.n1,ha,zt,j⟩
 rintro D U w a6 ⟨⟨ah,ai,aj,ak,al,an,ao,aq,ar,au,av,aw,ax,ae⟩,hv,ha,_,j⟩
 have j:=((((((j.cP 0 (kQ a6 1)).cP 1 (kQ a6 2)).cP 2 (kQ a6 3)).cP 3 (kQ a6 4)).cP 4 (kQ a6 7)).cP 5 (kQ a6 8)).cP 6 (kQ a6 11)
 have j:=((((((j.cP 7 (kQ a6 12)).cP 8 (kQ a6 13)).cP 9 (kQ a6 14)).cP 10 (kQ a6 20)).cP 11 (kQ a6 21)).cP 12 (kQ a6 23)).cP 13 (kQ a6 25)
 obtain⟨O,rfl⟩:=(ac (hv.at 24 rfl (kQ a6 24)) (ac (ha.at 0 rfl) (ac (ha.at 1 rfl) az))).fH
 refine aH (RC.seq (RC.sr (mv v0 (RL.bA 15 p0 j vr (mv (vi 0) (RL.nt ?_))))))
 obtain⟨af,hN,hb⟩:=bd hb
 refine RC.fold (fun(bg:Nat) (af:aI)=>SH E V [(2,vp bf 0),(3,vp ae 0),(30,v0),(31,vi p0.length),(32,vi bg)] [raw 59 bf 4,bx 59 ae af,rd v0 p0]) (fun(af:aI)=>SH E V [(2,vp bf 0),(3,vp ae 0)] [raw 59 bf 4,bx 59 ae af,rd v0 p0]) hN ?_ ?_ ?_ ?_
 ·exact j.sp 16 [14,13,15]
 ·rintro hm af _ w ⟨O,rfl,j⟩
  refine RC.sr (ic ((p0.length:Int)) ((p0.length:Int)) (RL.nq (RC.fO tG (RC.ex ?_))))
  exact⟨rfl,j.sp 3 [0,1,2]⟩
 ·rintro hm bg af s' _ w hk ⟨O,rfl,j⟩ hb
  refine RC.sr (ic ((bg:Int)) ((p0.length:Int)) (RL.nq (RC.fN (tF hk) (RC.ss (RC.bs ?_)))))
  obtain⟨ba,cc,hb⟩:=bd hb
  refine RL.bP 2 j pD cc fun cd j=>(RL.bL 0 ba j w8 fun cf j=>(RL.alloc j Dh.z fun bh w j=>?_))
  refine RL.cA 0 j 1 zr w8 fun w j=>?_
  refine RL.nt ?_
  obtain⟨a5,cg,hb⟩:=bd hb
  obtain⟨a7,ch,hb⟩:=bd hb
  refine RC.FJ E V mixed [1,0,1,0,0,0,0,1,0,1,0,1,0,0,1,0,0,0,1,0,1,0] [3,4,10,12,15,19,21] (fun(x:Value×Value×Value×Value×Value)=>(fun ay a0 a1 a2 a3=>[(0,36,(vp ae 0)),(1,37,(vi af.X0)),(2,38,(vp bh 2)),(3,39,ay),(4,40,a0),(5,41,(vi a5)),(6,42,(vi (if a5<af.X0 then a5 else af.X0))),(7,43,(vp ae 2)),(8,44,(vi af.X1)),(9,45,(vp bh 2)),(10,46,a1),(11,47,(vp bh 2)),(12,48,a2),(13,49,(vi ba.Xs.length)),(14,50,(vi (IntKind.wrap .i64 ((ba.Xs.length:Int) - 1)))),(15,51,a3),(16,52,(vi a7)),(17,53,(vi (if af.X1<a7 then a7 else af.X1))),(18,54,(vp ae 0)),(20,55,(vp ae 2))]) x.1 x.2.1 x.2.2.1 x.2.2.2.1 x.2.2.2.2) [(2,vp bf 0),(3,vp ae 0),(5,vp bh 0),(30,v0),(31,vi p0.length),(32,vi bg)] [] (fun(D:Nat->Bool) (x:Value×Value×Value×Value×Value)=>(fun ay a0 a1 a2 a3=>[bif D 0 then (rd ay ba.Xs) else bC,bif D 1 then (pt a0 a5) else bC,bif D 2 then (rd a1 ba.Xs) else bC,bif D 3 then (rd a2 ba.Xs) else bC,bif D 4 then (pt a3 a7) else bC,bx 118 bh ba,rd cf ba,pt cd ba,raw 59 bf 4,bif D 6 then (bx 59 ae {{af with X0:=(if a5<af.X0 then a5 else af.X0)} with X1:=(if af.X1<a7 then a7 else af.X1)}) else (bif D 5 then (bx 59 ae {af with X0:=(if a5<af.X0 then a5 else af.X0)}) else (bx 59 ae af)),rd v0 p0]) x.1 x.2.1 x.2.2.1 x.2.2.2.1 x.2.2.2.2) (fun x=>by kernel_rfl) ?_ ⟨fun _=>nK gn ir,?_,fun _=>nK gn ma,?_,?_,?_,?_,fun _=>nK gn jl,?_,fun _=>nK gn ma,?_,fun _=>nK gn ma,?_,?_,fun _=>Ju gn rfl,?_,?_,?_,fun _=>nK gn ir,?_,fun _=>nK gn jl,?_,trivial⟩ ?_
  ·have j:=(((((j.drew).bC).bC).bC).bC).bC
   exact⟨(undef,undef,undef,undef,undef),fP.none,(Eu zr),zt,j⟩
  ·rintro D U w hD o ag ⟨⟨ay,a0,a1,a2,a3⟩,hv,ha,_,j⟩
   obtain⟨O,rfl⟩:=(ac (hv.at 0 rfl (o.1 rfl)) az).fH
   have j:=(j.cB 9 (nh ag hD 21)).cB 9 (nh ag hD 19)
   refine RL.aN 9 j zr dL cJ ?_
   have j:=(j.eW 9 (D 19) (nh ag hD 19) (bx 59 ae {af with X0:=(if a5<af.X0 then a5 else af.X0)})).eW 9 (D 21) (nh ag hD 21) (bx 59 ae {{af with X0:=(if a5<af.X0 then a5 else af.X0)} with X1:=(if af.X1<a7 then a7 else af.X1)})
   exact RL.nil ⟨rfl,(ay,a0,a1,a2,a3),hv.pu 1,ha.u,zt,j⟩
  ·rintro D U w hD o ag ⟨⟨ay,a0,a1,a2,a3⟩,hv,ha,_,j⟩
   obtain⟨O,rfl⟩:=(ac (hv.at 2 rfl (o.1 rfl)) az).fH
   have j:=j.cB 0 hD
   refine RL.bE 5 j zr eB eY fun cj j=>?_
   have j:=(j.pl 12 [0,2,3,4,5,6,7,8,9,10,11]).cQ 0 true rfl bC
   exact RL.nil ⟨rfl,(cj,a0,a1,a2,a3),hv.pu 3,ha.u,zt,j⟩
  ·rintro D U w hD o ag ⟨⟨ay,a0,a1,a2,a3⟩,hv,ha,_,j⟩
   obtain⟨O,rfl⟩:=(ac (hv.at 3 rfl (o.1 rfl)) az).fH
   have j:=(j.cP 0 (o.1 rfl)).cB 1 hD
   refine RL.bP 0 j dW cg fun ck j=>?_
   have j:=((j.pl 12 [1,0,3,4,5,6,7,8,9,10,11]).cQ 0 (D 3) (o.1 rfl) bC).cQ 1 true rfl bC
   exact RL.nil ⟨rfl,(ay,ck,a1,a2,a3),hv.pu 4,ha.u,zt,j⟩
  ·rintro D U w hD o ag ⟨⟨ay,a0,a1,a2,a3⟩,hv,ha,_,j⟩
   obtain⟨O,rfl⟩:=(ac (hv.at 4 rfl (o.1 rfl)) az).fH
   have j:=j.cP 1 (o.1 rfl)
   refine RL.bD a5 1 j cJ ?_
   have j:=j.cQ 1 (D 4) (o.1 rfl) bC
   exact RL.nil ⟨rfl,(ay,a0,a1,a2,a3),hv.pu 5,ha.u,zt,j⟩
  ·rintro D U w hD o ag ⟨⟨ay,a0,a1,a2,a3⟩,hv,ha,_,j⟩
   obtain⟨O,rfl⟩:=(ac (hv.at 1 rfl (o.1 rfl)) (ac (hv.at 5 rfl (o.2.1 rfl)) az)).fH
   refine RL.min af.X0 a5 ?_
   exact RL.nil ⟨rfl,(ay,a0,a1,a2,a3),hv.pu 6,ha.u,zt,j⟩
  ·rintro D U w hD o ag ⟨⟨ay,a0,a1,a2,a3⟩,hv,ha,_,j⟩
   obtain⟨O,rfl⟩:=(ac (hv.at 7 rfl (o.1 rfl)) az).fH
   have j:=(j.cB 9 (nh ag hD 21)).cB 9 (nh ag hD 19)
   refine RL.aN 9 j zr eE cJ ?_
   have j:=(j.eW 9 (D 19) (nh ag hD 19) (bx 59 ae {af with X0:=(if a5<af.X0 then a5 else af.X0)})).eW 9 (D 21) (nh ag hD 21) (bx 59 ae {{af with X0:=(if a5<af.X0 then a5 else af.X0)} with X1:=(if af.X1<a7 then a7 else af.X1)})
   exact RL.nil ⟨rfl,(ay,a0,a1,a2,a3),hv.pu 8,ha.u,zt,j⟩
  ·rintro D U w hD o ag ⟨⟨ay,a0,a1,a2,a3⟩,hv,ha,_,j⟩
   obtain⟨O,rfl⟩:=(ac (hv.at 9 rfl (o.1 rfl)) az).fH
   have j:=j.cB 2 hD
   refine RL.bE 5 j zr eB eY fun cl j=>?_
   have j:=(j.pl 12 [1,2,0,4,5,6,7,8,9,10,11]).cQ 2 true rfl bC
   exact RL.nil ⟨rfl,(ay,a0,cl,a2,a3),hv.pu 10,ha.u,zt,j⟩
  ·rintro D U w hD o ag ⟨⟨ay,a0,a1,a2,a3⟩,hv,ha,_,j⟩
   obtain⟨O,rfl⟩:=(ac (hv.at 11 rfl (o.1 rfl)) az).fH
   have j:=j.cB 3 hD
   refine RL.bE 5 j zr eB eY fun cm j=>?_
   have j:=(j.pl 12 [1,2,3,0,5,6,7,8,9,10,11]).cQ 3 true rfl bC
   exact RL.nil ⟨rfl,(ay,a0,a1,cm,a3),hv.pu 12,ha.u,zt,j⟩
  ·rintro D U w hD o ag ⟨⟨ay,a0,a1,a2,a3⟩,hv,ha,_,j⟩
   obtain⟨O,rfl⟩:=(ac (hv.at 12 rfl (o.1 rfl)) az).fH
   have j:=j.cP 3 (o.1 rfl)
   refine RL.bA 3 ba.Xs j ly ?_
   have j:=j.cQ 3 (D 12) (o.1 rfl) bC
   exact RL.nil ⟨rfl,(ay,a0,a1,a2,a3),hv.pu 13,ha.u,zt,j⟩
  ·rintro D U w hD o ag ⟨⟨ay,a0,a1,a2,a3⟩,hv,ha,_,j⟩
   obtain⟨O,rfl⟩:=(ac (hv.at 10 rfl (o.1 rfl)) (ac (hv.at 14 rfl (o.2.1 rfl)) az)).fH
   have j:=(j.cP 2 (o.1 rfl)).cB 4 hD
   refine RL.bP 2 j dW ch fun cn j=>?_
   have j:=((j.pl 12 [1,2,3,4,0,6,7,8,9,10,11]).cQ 2 (D 10) (o.1 rfl) bC).cQ 4 true rfl bC
   exact RL.nil ⟨rfl,(ay,a0,a1,a2,cn),hv.pu 15,ha.u,zt,j⟩
  ·rintro D U w hD o ag ⟨⟨ay,a0,a1,a2,a3⟩,hv,ha,_,j⟩
   obtain⟨O,rfl⟩:=(ac (hv.at 15 rfl (o.1 rfl)) az).fH
   have j:=j.cP 4 (o.1 rfl)
   refine RL.bD a7 4 j cJ ?_
   have j:=j.cQ 4 (D 15) (o.1 rfl) bC
   exact RL.nil ⟨rfl,(ay,a0,a1,a2,a3),hv.pu 16,ha.u,zt,j⟩
  ·rintro D U w hD o ag ⟨⟨ay,a0,a1,a2,a3⟩,hv,ha,_,j⟩
   obtain⟨O,rfl⟩:=(ac (hv.at 8 rfl (o.1 rfl)) (ac (hv.at 16 rfl (o.2.1 rfl)) az)).fH
   refine RL.max af.X1 a7 ?_
   exact RL.nil ⟨rfl,(ay,a0,a1,a2,a3),hv.pu 17,ha.u,zt,j⟩
  ·rintro D U w hD o ag ⟨⟨ay,a0,a1,a2,a3⟩,hv,ha,_,j⟩
   obtain⟨O,rfl⟩:=(ac (hv.at 6 rfl (o.2.1 rfl)) (ac (hv.at 18 rfl (o.1 rfl)) az)).fH
   have j:=((j.cB 9 (nh ag hD 21)).cB 9 hD).sc Int (if a5<af.X0 then a5 else af.X0)
   refine RL.wH 10 j zr zr zr 0 zr oO cJ fun w j=>?_
   have j:=((j.pl 12 [1,2,3,4,5,6,7,8,9,10,11]).cQ 9 true rfl (bx 59 ae af)).eW 9 (D 21) (nh ag hD 21) (bx 59 ae {{af with X0:=(if a5<af.X0 then a5 else af.X0)} with X1:=(if af.X1<a7 then a7 else af.X1)})
   exact RL.nil ⟨rfl,(ay,a0,a1,a2,a3),hv.n1,ha,zt,j⟩
  ·rintro D U w hD o ag ⟨⟨ay,a0,a1,a2,a3⟩,hv,ha,_,j⟩
   obtain⟨O,rfl⟩:=(ac (hv.at 17 rfl (o.2.1 rfl)) (ac (hv.at 19 rfl (o.1 rfl)) az)).fH
   have j:=((j.cB 9 hD).cP 9 (o.2.2.1 rfl)).sc Int (if af.X1<a7 then a7 else af.X1)
   refine RL.wH 10 j zr zr zr 0 zr oQ cJ fun w j=>?_
   have j:=(j.pl 12 [1,2,3,4,5,6,7,8,9,10,11]).cQ 9 true rfl (bif D 19 then (bx 59 ae {af with X0:=(if a5<af.X0 then a5 else af.X0)}) else (bx 59 ae af))
   exact RL.nil ⟨rfl,(ay,a0,a1,a2,a3),hv.n1,ha,zt,j⟩
  rintro D U w a6 ⟨⟨ay,a0,a1,a2,a3⟩,hv,ha,_,j⟩
  have j:=(((((j.cP 0 (kQ a6 3)).cP 1 (kQ a6 4)).cP 2 (kQ a6 10)).cP 3 (kQ a6 12)).cP 4 (kQ a6 15)).cP 9 (kQ a6 21)
  obtain⟨O,rfl⟩:=(ac (ha.at 0 rfl) (ac (ha.at 1 rfl) (ac (ha.at 2 rfl) (ac (ha.at 3 rfl) (ac (ha.at 4 rfl) (ac (ha.at 5 rfl) az)))))).fH
  refine bM (aH (RC.region (RL.inc hk hm (mv (vi ((bg+1:Nat):Int)) (RL.nil ?_)))))
  obtain rfl:=oi hb
  exact⟨rfl,j.sp 11 [8,9,10]⟩
 rintro _ w ⟨O,rfl,j⟩
 refine aH (RC.sr (RL.bE (f:=(fun x=>x)) 1 j zr Fd.self iF fun cp j=>(RL.cA 1 j 0 zr iF fun w j=>?_)))
 refine RL.nt (RC.ret ?_)
 obtain rfl:=oi hb
 exact H0 1 zr j zr zr iF fun cq j=>(j.pk 5 [0])
theorem xk {p0: (List aA)} {res:Bool} (j:Holds E w V) (h0:V[i0]? =some (rd v0 p0)) (hb:mo N p0=some res):
    Calls bO 35 [v0].toArray w (gW (aV E V res)):=by
 unfold mo at hb
 refine enter Tryz.func35 zr zr ?_
 have j:=j.dup (i0+0) h0
 refine RC.sr (aQ (vb false) (RL.nq ?_))
 obtain⟨ad,o,hb⟩:=bd hb
 refine RC.jn (fun(ad:Bool)=>SH E V [(2,vb ad)] []) ad ?_ ?_
 ·refine RC.region (mv v0 (RL.bA 0 p0 j vr (ic ((p0.length:Int)) 0 (mv (vb ((p0.length:Int)==0)) (fC o (fun aa o=>?_) fun aa o=>?_)))))
  ·refine bG aa (bG aa (bG aa (fL aa (vb true) (aQ (vb true) (RL.nil ?_)))))
   obtain rfl:=oi o
   exact⟨rfl,j.sp 1 []⟩
  refine RL.move v0 (cg aa) ?_
  obtain⟨ai,af,o⟩:=bd o
  refine RL.call (cg aa) zr L5 [v0] zr (aD (vA N (i0:=0) j zr af) ?_)
  rintro ag w j
  obtain⟨ae,ah,o⟩:=bd o
  refine RL.call (cg aa) zr Ko [ag] zr (aD (tJ N (i0:=0) j zr ah) ?_)
  rintro _ w ⟨rfl,j⟩
  refine fL aa (vb ae) (aQ (vb ae) (RL.nil ?_))
  obtain rfl:=oi o
  exact⟨rfl,j.sp 2 []⟩
 rintro _ w ⟨O,rfl,j⟩
 refine aH (RC.ret ?_)
 obtain rfl:=oi hb
 exact bX ⟨rfl,j.drop 0⟩
def zi (E:World) (V:List HP) (res:aI×Int) (v:Value) (w:World):Prop:=∃u0:Value,v = .tuple #[u0,(vi res.2)]/\Holds E w ([rd u0 res.1]++V)
theorem rZ {p0:cE} {res:aI×Int} (j:Holds E w V) (h0:V[i0]? =some (rd v0 p0)) (o:kS N p0=some res):
    Calls bO 14 [v0].toArray w (gW (zi E V res)):=by
 unfold kS at o
 refine enter Tryz.func14 zr zr ?_
 have j:=j.dup (i0+0) h0
 refine RC.sr (RL.dJ 0 v0 j zr fun af w j=>?_)
 refine RL.alloc j oA.z fun ag w j=>?_
 refine aQ (vi 0) (RL.nq (RC.seq ?_))
 obtain⟨ad,hj,o⟩:=bd o
 refine RC.jn (fun(ad:Bool)=>SH E V [(1,vp af 0),(2,vp ag 0),(14,vb ad)] [bx 57 af p0,raw 59 ag 4]) ad ?_ ?_
 ·refine RC.region (RL.aX zr rz (RL.aN 1 j zr lV cJ ?_))
  obtain⟨ah,aj,hj⟩:=bd hj
  refine RL.call zt zr Ig [(vi p0.dE),(vi 1),(vi 10000)] zr (aD (m6 N (p0:=p0.dE) (p1:=1) (p2:=10000) j aj) ?_)
  rintro _ w ⟨rfl,j⟩
  refine RL.not ah (mv (vb (!ah)) (fC hj (fun aa hj=>?_) fun aa hj=>?_))
  ·refine bG aa (bG aa (bG aa (bG aa (fL aa (vb true) (RL.nil ?_)))))
   obtain rfl:=oi hj
   exact⟨rfl,j.sp 3 [1,0]⟩
  refine RL.aX (hg:=(cg aa)) zr x8 (RL.bE (hg:=(cg aa)) 1 j zr qh Dk fun ak j=>?_)
  obtain⟨ai,al,hj⟩:=bd hj
  refine RL.call (cg aa) zr Kw [ak] zr (aD (rY N (i0:=0) j zr al) ?_)
  rintro _ w ⟨rfl,j⟩
  refine RL.not (hg:=(cg aa)) ai (fL aa (vb (!ai)) (RL.nil ?_))
  obtain rfl:=oi hj
  exact⟨rfl,j.sp 4 [2,1]⟩
 rintro _ w ⟨O,rfl,j⟩
 refine aH (dU o (fun hc o=>?_) fun hc o=>?_)
 ·refine RC.sr (RL.build (⟨0,0,0,0⟩:aI) trivial rfl j [] rfl Di rfl (fun M hs g=>by have h:=sX M;exact cT.nil h) fun a2 j=>?_)
  refine RL.cA 2 j 0 zr iF fun w j=>?_
  refine aQ (vi 1) (RL.nt (RC.rt ?_))
  obtain rfl:=oi o
  exact wL 2 j iF fun an j=>⟨an,zr,j.pk 4 [0]⟩
 refine RC.sx (RL.bE (f:=(fun x=>x)) 0 j zr Fd.self lE fun ao j=>?_)
 obtain⟨aq,ar,o⟩:=bd o
 refine RL.call zt zr FN [ao] zr (aD (jo N (i0:=0) j zr ar) ?_)
 rintro a3 w j
 refine RL.alloc j oA.z fun a4 w j=>?_
 refine RL.cA 0 j 1 zr iF fun w j=>?_
 refine RL.nq (RC.sr (RL.bE (f:=(fun x=>x)) 0 j zr Fd.self iF fun au j=>(RL.dR ([aq]: (List aI)) j [au] jk oA (fun M hs g=>⟨(g.sat 0 _ zr).1,zt⟩) fun av w j=>?_)))
 have j:=j.freeze 0
 obtain⟨a5,aw,o⟩:=bd o
 refine RL.call zt zr GU [av] zr (aD (mA N (i0:=0) j zr aw) ?_)
 rintro ax w j
 have j:=j.freeze 0
 obtain⟨ay,az,o⟩:=bd o
 refine RL.call zt zr L6 [ax] zr (aD (xk N (i0:=0) j zr az) ?_)
 rintro _ w ⟨rfl,j⟩
 refine RL.not ay (RL.nt (dU o (fun hc o=>?_) fun hc o=>?_))
 ·refine RC.sr (RL.build (⟨0,0,0,0⟩:aI) trivial rfl j [] rfl Di rfl (fun M hs g=>by have h:=sX M;exact cT.nil h) fun a6 j=>?_)
  refine RL.cA 8 j 0 zr iF fun w j=>?_
  refine aQ (vi 1) (RL.nt (RC.rt ?_))
  obtain rfl:=oi o
  exact wL 8 j iF fun a0 j=>⟨a0,zr,j.pk 10 [0]⟩
 refine RC.sx (RL.bE (f:=(fun x=>x)) 3 j zr Fd.self iF fun a7 j=>(RL.cA 8 j 0 zr iF fun w j=>?_))
 refine aQ (vi 0) (RL.nt (RC.ret ?_))
 obtain rfl:=oi o
 exact wL 8 j iF fun a1 j=>⟨a1,zr,j.pk 10 [0]⟩
def vB (E:World) (V:List HP) (r:Int) (U:Nat->Value) (w:World):Prop:=mh bO 47 Tryz.f16 (aW E V r) .ret U w
theorem uA {p0:k7} (j:Holds E w V) (h0:V[i0]? =some (rd v0 p0)) (o:kG N p0=some res):
    Calls bO 16 [v0].toArray w (gW (aW E V res)):=by
 unfold kG at o
 refine enter Tryz.func16 zr zr ?_
 have j:=j.dup (i0+0) h0
 refine RC.sr (RL.dJ 0 v0 j zr fun a0 w j=>?_)
 refine aQ (vi 0) (RL.nq (RC.sr (RL.aX zr gK (RL.bE 0 j zr gj mZ fun a1 j=>(RL.bA 0 p0.aM j um (ic ((p0.aM.length:Int)) 500 (RL.nt (dU o (fun hc o=>?_) fun hc o=>?_))))))))
 ·refine RC.sr (aQ (vi 2) (RL.nt (RC.rt ?_)))
  obtain rfl:=oi o
  exact bX ⟨rfl,j.drop 3⟩
 refine RC.sx (RL.aX zr mx (RL.bE 1 j zr jc pB fun a2 j=>(RL.bA 0 p0.aJ j qw (aQ (vi p0.aJ.length) (RL.nq (RC.sr (RL.aX zr gK (RL.bE 2 j zr gj mZ fun ag j=>?_))))))))
 refine RL.bA 0 p0.aM j um (mv (vi 0) (RL.nt ?_))
 obtain⟨a3,hN,o⟩:=bd o
 refine RC.range (fun(ah:Nat) (ai:Unit)=>SH E V [(3,vi p0.aJ.length),(16,ag),(17,vi p0.aM.length),(18,vi ah)] [rd ag p0.aM]) (fun(ai:Unit)=>SH E V [] [rd ag p0.aM]) (vB E V) hN ?_ ?_ ?_ ?_ ?_
 ·exact j.sp 5 [0]
 ·rintro hm ai _ w ⟨O,rfl,j⟩
  refine RC.sr (ic ((p0.aM.length:Int)) ((p0.aM.length:Int)) (RL.nq (RC.fO tG (RC.ex ?_))))
  exact⟨rfl,j.sp 1 [0]⟩
 ·rintro hm ah ai fl _ w hk ⟨O,rfl,j⟩ o
  refine RC.sr (ic ((ah:Int)) ((p0.aM.length:Int)) (RL.nq (RC.fN (tF hk) (RC.ss (RC.bs ?_)))))
  obtain⟨ad,au,o⟩:=bd o
  refine RL.bP 0 j pE au fun a5 j=>(RL.bL 0 ad j lE fun a6 j=>(RL.alloc j Dj.z fun a7 w j=>?_))
  refine RL.cA 0 j 1 zr lE fun w j=>?_
  refine RL.nq (RC.sr (RL.bE (f:=(fun x=>x)) 0 j zr Fd.self lE fun av j=>?_))
  obtain⟨ae,aw,o⟩:=bd o
  refine RL.call zt zr Kx [av] zr (aD (rZ N (i0:=0) j zr aw) ?_)
  rintro _ w ⟨an,rfl,j⟩
  refine mv (.tuple #[an,(vi ae.2)]) (RL.extract an (RL.extract (vi ae.2) (RL.alloc j oA.z fun a8 w j=>?_)))
  refine RL.cA 0 j 1 zr iF fun w j=>?_
  refine aQ (vi ae.2) (RL.ns (mv (vi ae.2) (ic ae.2 0 (RL.nt (dU o (fun hc o=>?_) fun hc o=>?_)))))
  ·refine RC.sr (mv (vi ae.2) (aQ (vi ae.2) (RL.nt (RC.rt (ot (bT ?_))))))
   obtain rfl:=oi o
   exact⟨rfl,bX ⟨rfl,j.drop 7⟩⟩
  refine RC.ss ?_
  obtain⟨aj,hj,o⟩:=bd o
  refine RC.jn (fun(aj:Bool)=>SH E V [(3,vi p0.aJ.length),(16,ag),(17,vi p0.aM.length),(18,vi ah),(45,vb aj)] [rd ag p0.aM]) aj ?_ ?_
  ·refine RC.region (RL.aX zr pF (RL.aN 3 j zr kz cJ (mv (vi p0.aJ.length) (RL.gl (p0.aJ.length:Int) 1 ?_))))
   obtain⟨ao,ax,hj⟩:=bd hj
   refine RL.call zt zr Ig [(vi ad.cM),(vi 0),(vi (IntKind.wrap .i64 ((p0.aJ.length:Int) - 1)))] zr (aD (m6 N (p0:=ad.cM) (p1:=0) (p2:=(IntKind.wrap .i64 ((p0.aJ.length:Int) - 1))) j ax) ?_)
   rintro _ w ⟨rfl,j⟩
   refine RL.not ao (mv (vb (!ao)) (fC hj (fun aa hj=>?_) fun aa hj=>?_))
   ·refine bG aa (bG aa (bG aa (bG aa (bG aa (bG aa (bG aa (bG aa (fL aa (vb true) ?_))))))))
    refine RL.nil ?_
    obtain rfl:=oi hj
    exact⟨rfl,j.sp 7 [6]⟩
   refine RL.aX (hg:=(cg aa)) zr rA (RL.aN (hg:=(cg aa)) 3 j zr lW cJ (RL.aX (hg:=(cg aa)) zr pF (RL.aN (hg:=(cg aa)) 3 j zr kz cJ (RL.move (vi p0.aJ.length) (cg aa) (RL.gl (hg:=(cg aa)) (p0.aJ.length:Int) 1 ?_)))))
   obtain⟨aq,ay,hj⟩:=bd hj
   refine RL.call (cg aa) zr Ig [(vi ad.To),(vi ad.cM),(vi (IntKind.wrap .i64 ((p0.aJ.length:Int) - 1)))] zr (aD (m6 N (p0:=ad.To) (p1:=ad.cM) (p2:=(IntKind.wrap .i64 ((p0.aJ.length:Int) - 1))) j ay) ?_)
   rintro _ w ⟨rfl,j⟩
   refine RL.not (hg:=(cg aa)) aq (fL aa (vb (!aq)) (RL.nil ?_))
   obtain rfl:=oi hj
   exact⟨rfl,j.sp 7 [6]⟩
  rintro _ w ⟨O,rfl,j⟩
  refine aH (dU o (fun hc o=>?_) fun hc o=>?_)
  rotate_left
  ·refine RC.skip (bM (aH (RC.region (RL.inc hk hm (mv (vi ((ah+1:Nat):Int)) (RL.nil ?_))))))
   obtain rfl:=oi o
   exact⟨rfl,j.sp 1 [0]⟩
  refine RC.sr (aQ (vi 1) (RL.nt (RC.rb (bT ?_))))
  obtain rfl:=oi o
  exact⟨rfl,bX ⟨rfl,j.drop 1⟩⟩
 ·intro r U w e hK
  subst e
  refine bT ?_
  obtain rfl:=oi o
  exact hK
 rintro ai _ w rfl ⟨O,rfl,j⟩
 rw [Fo.dA] at o
 refine aH (RC.sr (aQ (vi 0) (RL.nt (RC.ret ?_))))
 obtain rfl:=oi o
 exact bX ⟨rfl,j.drop 1⟩
theorem nu {p0:eJ} (o:Holds E w V) (j:ja N p0 p1=some res):
    Calls bO 111 [(str p0),(.int .u8 p1)].toArray w (gW (aW E V res)):=by
 unfold ja at j
 refine enter Tryz.func111 zr zr (RC.sr (aQ (vi 0) (RL.ns (mv (str p0) (mv (.int .u8 p1) (RL.zC (vi (Lib.indexByte p0.cX (Int.toNat p1).toUInt8)) zr [(str p0),(.int .u8 p1)] zr (tO p0 p1 w) (aQ (vi (Lib.indexByte p0.cX (Int.toNat p1).toUInt8)) (RL.nt ?_))))))))
 refine RC.ret ?_
 obtain rfl:=oi j
 exact bX ⟨rfl,o.drop 0⟩
theorem uB {p0 p1:eJ} (o:Holds E w V) (j:kH N p0 p1=some res):
    Calls bO 159 [(str p0),(str p1)].toArray w (gW (aW E V res)):=by
 unfold kH at j
 refine enter Tryz.func159 zr zr (RC.sr (aQ (vi 0) (RL.ns (mv (str p1) (RL.lens p1 A3 (aQ (vi p1.cX.length) (RL.nq (RC.bs ?_))))))))
 refine mv (vi p1.cX.length) (ic ((p1.cX.length:Int)) 0 (mv (vb ((p1.cX.length:Int)==0)) (RL.gs true ((p1.cX.length:Int)==0) (str p1) rfl rfl rfl cH (RL.gs true ((p1.cX.length:Int)==0) (str p0) rfl rfl rfl cH (RL.gs true ((p1.cX.length:Int)==0) (vb (p1.sM p0)) rfl rfl rfl (BQ .eql p1 p0 rfl (fun h=>by exact(cK h:cv (true&&(((p1.cX.length:Int)==0)==false)) (str p1)= (str p1))) (fun h=>by exact(cK h:cv (true&&(((p1.cX.length:Int)==0)==false)) (str p0)= (str p0))) rfl) (RL.pick ((p1.cX.length:Int)==0) (vb (((p1.cX.length:Int)==0)||(p1.sM p0))) (nR true) (aQ (vb (((p1.cX.length:Int)==0)||(p1.sM p0))) (RL.nt ?_))))))))
 refine dU j (fun hc j=>?_) fun hc j=>?_
 ·refine RC.sr (aQ (vi 0) (RL.nt (RC.rb (bT ?_))))
  obtain rfl:=oi j
  exact bX ⟨rfl,o.drop 0⟩
 refine RC.sr (mv (vi p1.cX.length) (ic ((p1.cX.length:Int)) 1 (aQ (vb ((p1.cX.length:Int)==1)) (RL.nt (dU j (fun hc j=>?_) fun hc j=>?_)))))
 ·refine RC.sr (mv (str p0) (mv (str p1) ?_))
  obtain⟨ab,ad,j⟩:=bd j
  refine RL.idxs p1 0 ab zr zr zr A3 ad ?_
  obtain⟨ae,af,j⟩:=bd j
  refine RL.call zt zr IZ [(str p0),(.int .u8 (ab.toNat:Int))] zr (aD (nu N (p0:=p0) (p1:=(ab.toNat:Int)) o af) ?_)
  rintro _ w ⟨rfl,o⟩
  refine aQ (vi ae) (RL.nt (RC.rb (bT ?_)))
  obtain rfl:=oi j
  exact bX ⟨rfl,o.drop 0⟩
 refine RC.sr (mv (vi p1.cX.length) (mv (str p0) (RL.lens p0 A3 (ic ((p1.cX.length:Int)) ((p0.cX.length:Int)) (aQ (vb (decide ((p1.cX.length:Int)>=(p0.cX.length:Int)))) (RL.nt (dU j (fun hc j=>?_) fun hc j=>?_)))))))
 rotate_left
 ·cases j
 refine RC.sr (aQ (vi (-1)) (RL.nt (RC.rb (bT ?_))))
 obtain rfl:=oi j
 exact bX ⟨rfl,o.drop 0⟩
theorem r5 {p0 p1:eJ} (o:Holds E w V) (j:lS N p0 p1=some res):
    Calls bO 143 [(str p0),(str p1)].toArray w (gW (aW E V res)):=by
 unfold lS at j
 refine enter Tryz.func143 zr zr (RC.sr (aQ (vi 0) (RL.ns (mv (str p0) (mv (str p1) ?_)))))
 obtain⟨aa,ab,j⟩:=bd j
 refine RL.call zt zr Ky [(str p0),(str p1)] zr (aD (uB N (p0:=p0) (p1:=p1) o ab) ?_)
 rintro _ w ⟨rfl,o⟩
 refine aQ (vi aa) (RL.nt (RC.ret ?_))
 obtain rfl:=oi j
 exact bX ⟨rfl,o.drop 0⟩
def zj (E:World) (V:List HP) (r:Int) (U:Nat->Value) (w:World):Prop:=mh bO 34 Tryz.f142 (aW E V r) .ret U w
theorem yi {p0 p1:eJ} (hw:Holds E w V) (j:np N p0 p1=some res):
    Calls bO 142 [(str p0),(str p1)].toArray w (gW (aW E V res)):=by
 unfold np at j
 refine enter Tryz.func142 zr zr (RC.sr (aQ (vi 0) (RL.nq (RC.sr (mv (str p1) (RL.lens p1 A3 (ic ((p1.cX.length:Int)) 0 (RL.nt ?_))))))))
 refine dU j (fun hc j=>?_) fun hc j=>?_
 ·cases j
 refine RC.ss (RC.sr (mv (str p1) (RL.lens p1 A3 (ic ((p1.cX.length:Int)) 1 (RL.nt (dU j (fun hc j=>?_) fun hc j=>?_))))))
 ·refine RC.sr (mv (str p0) (mv (str p1) ?_))
  obtain⟨ad,af,j⟩:=bd j
  refine RL.idxs p1 0 ad zr zr zr A3 af (RL.zC (vi ((Lib.countByte p0.cX (Int.toNat (ad.toNat:Int)).toUInt8:Nat):Int)) zr [(str p0),(.int .u8 (ad.toNat:Int))] zr (L8 p0 (ad.toNat:Int) w) (aQ (vi ((Lib.countByte p0.cX (Int.toNat (ad.toNat:Int)).toUInt8:Nat):Int)) (RL.nt (RC.rt ?_))))
  obtain rfl:=oi j
  exact bX ⟨rfl,hw.drop 0⟩
 refine RC.sx (aQ (vi 0) (RL.nt ?_))
 obtain⟨al,hN,j⟩:=bd j
 refine RC.iter (fun(o:eJ×Int)=>SH E V [(0,(str o.1)),(1,(str p1)),(4,vi 0),(5,vi o.2)] []) (fun(o:eJ×Int)=>SH E V [(4,vi 0)] []) (zj E V) hN ?_ ?_ ?_ ?_
 ·exact hw.sp 0 []
 ·rintro o fl _ w ⟨O,rfl,hw⟩ j
  refine RC.bs (mv (str o.1) (mv (str p1) ?_))
  obtain⟨ae,ah,j⟩:=bd j
  refine RL.call zt zr I0 [(str o.1),(str p1)] zr (aD (r5 N (p0:=o.1) (p1:=p1) hw ah) ?_)
  rintro _ w ⟨rfl,hw⟩
  refine aQ (vi ae) (RL.nq (RC.sr (mv (vi ae) (ic ae ((-1)) (RL.nt (dU j (fun hc j=>?_) fun hc j=>?_))))))
  ·refine RC.sr (mv (vi o.2) (aQ (vi o.2) (RL.nt (RC.rt (ot ?_)))))
   obtain rfl:=oi j
   exact⟨rfl,bX ⟨rfl,hw.drop 0⟩⟩
  refine RC.sx (mv (vi o.2) (RL.gl o.2 1 (aQ (vi (IntKind.wrap .i64 (o.2+1))) (RL.nt (RC.region (mv (str o.1) (mv (vi ae) (mv (str p1) ?_))))))))
  refine RL.lens p1 A3 (RL.gl ae (p1.cX.length:Int) ?_)
  obtain⟨ai,aj,j⟩:=bd j
  refine RL.vX o.1 zr zr A3 (.inl zr) (.inr ⟨rfl,zr⟩) aj (aQ (str ai) (RL.nil (bM ?_)))
  obtain rfl:=oi j
  exact⟨rfl,hw.sp 0 []⟩
 ·intro r U w e hK
  subst e
  obtain rfl:=oi j
  exact hK
 rintro o _ w rfl ⟨O,rfl,hw⟩
 rw [Fo.dA] at j
 obtain rfl:=oi j
 refine CE ?_
 exact bX ⟨rfl,hw.drop 0⟩
theorem vC {p0 p1:eJ} {res: (List eJ)} (o:Holds E w V) (j:mW N p0 p1 p2 p3=some res):
    Calls bO 110 [(str p0),(str p1),(vi p2),(vi p3)].toArray w (gW (qx E V res)):=by
 unfold mW at j
 refine enter Tryz.func110 zr zr (RC.sr (aQ (.slice none 0 0) (RL.nq (RC.sr (mv (vi p3) (ic p3 0 (RL.nt (dU j (fun hc j=>?_) fun hc j=>?_))))))))
 ·refine RC.sr (aQ (.slice none 0 0) (RL.nt (RC.rt ?_)))
  obtain rfl:=oi j
  have o:=o.cO eJ 9
  exact bX (o.pk 1 [0])
 refine RC.ss (RC.sr (mv (str p1) (RL.Ee p1 ⟨[]⟩ zt zr zr zr zr (RL.nt (dU j (fun hc j=>?_) fun hc j=>?_)))))
 ·cases j
 refine RC.ss (RC.sr (mv (vi p3) (ic p3 0 (RL.nt ?_))))
 obtain⟨ab,hj,j⟩:=bd j
 refine RC.jn (fun(ab:Int)=>SH E V [(0,(str p0)),(1,(str p1)),(2,vi p2),(3,vi ab)] []) ab ?_ ?_
 ·refine dU hj (fun hc hj=>?_) fun hc hj=>?_
  rotate_left
  ·refine RC.skip ?_
   obtain rfl:=oi hj
   exact⟨rfl,o.sp 0 []⟩
  refine RC.region (mv (str p0) (mv (str p1) ?_))
  obtain⟨aj,ak,hj⟩:=bd hj
  refine RL.call zt zr Kz [(str p0),(str p1)] zr (aD (yi N (p0:=p0) (p1:=p1) o ak) ?_)
  rintro _ w ⟨rfl,o⟩
  refine RL.gl aj 1 (aQ (vi (IntKind.wrap .i64 (aj+1))) (RL.nil ?_))
  obtain rfl:=oi hj
  exact⟨rfl,o.sp 0 []⟩
 rintro _ w ⟨O,rfl,o⟩
 refine aH (RC.sr (mv (vi ab) (mv (str p0) (RL.lens p0 A3 (RL.gl (p0.cX.length:Int) 1 (RL.min ab (IntKind.wrap .i64 ((p0.cX.length:Int)+1)) (aQ (vi (if (IntKind.wrap .i64 ((p0.cX.length:Int)+1))<ab then (IntKind.wrap .i64 ((p0.cX.length:Int)+1)) else ab)) (RL.ns ?_))))))))
 refine mv (vi (if (IntKind.wrap .i64 ((p0.cX.length:Int)+1))<ab then (IntKind.wrap .i64 ((p0.cX.length:Int)+1)) else ab)) ?_
 obtain⟨ay,al,j⟩:=bd j
 refine RL.mk (if (IntKind.wrap .i64 ((p0.cX.length:Int)+1))<ab then (IntKind.wrap .i64 ((p0.cX.length:Int)+1)) else ab) o KA Nh al fun ae w o=>?_
 refine aQ ae (RL.ns (mv (vi (if (IntKind.wrap .i64 ((p0.cX.length:Int)+1))<ab then (IntKind.wrap .i64 ((p0.cX.length:Int)+1)) else ab)) (RL.gl (if (IntKind.wrap .i64 ((p0.cX.length:Int)+1))<ab then (IntKind.wrap .i64 ((p0.cX.length:Int)+1)) else ab) 1 (aQ (vi (IntKind.wrap .i64 ((if (IntKind.wrap .i64 ((p0.cX.length:Int)+1))<ab then (IntKind.wrap .i64 ((p0.cX.length:Int)+1)) else ab) - 1))) (RL.ns (aQ (vi 0) (RL.nq ?_)))))))
 obtain⟨az,hN,j⟩:=bd j
 refine RC.iter (fun(aa:eJ×(List eJ)×Int)=>SH E V [(0,(str aa.1)),(1,(str p1)),(2,vi p2),(3,(vi (IntKind.wrap .i64 ((if (IntKind.wrap .i64 ((p0.cX.length:Int)+1))<ab then (IntKind.wrap .i64 ((p0.cX.length:Int)+1)) else ab) - 1)))),(9,ae),(10,vi aa.2.2)] [own 9 ae aa.2.1]) (fun(aa:eJ×(List eJ)×Int)=>SH E V [(0,(str aa.1)),(9,ae),(10,vi aa.2.2)] [own 9 ae aa.2.1]) (fun(r:Empty) _ _=>r.elim) hN ?_ ?_ ?_ ?_
 ·exact o.sp 1 [0]
 ·rintro aa fl _ w ⟨O,rfl,o⟩ j
  refine RC.seq (RC.sr (mv (vi aa.2.2) (mv (vi (IntKind.wrap .i64 ((if (IntKind.wrap .i64 ((p0.cX.length:Int)+1))<ab then (IntKind.wrap .i64 ((p0.cX.length:Int)+1)) else ab) - 1))) (ic aa.2.2 ((IntKind.wrap .i64 ((if (IntKind.wrap .i64 ((p0.cX.length:Int)+1))<ab then (IntKind.wrap .i64 ((p0.cX.length:Int)+1)) else ab) - 1))) (RL.nt (dU j (fun hc j=>?_) fun hc j=>?_))))))
  rotate_left
  ·refine RC.ex ?_
   obtain rfl:=oi j
   exact⟨rfl,o.sp 1 [0]⟩
  refine RC.sn (RC.bs (mv (str aa.1) (mv (str p1) ?_)))
  obtain⟨ag,ao,j⟩:=bd j
  refine RL.call zt zr I0 [(str aa.1),(str p1)] zr (aD (r5 N (p0:=aa.1) (p1:=p1) o ao) ?_)
  rintro _ w ⟨rfl,o⟩
  refine aQ (vi ag) (RL.nq (RC.sr (mv (vi ag) (ic ag 0 (RL.nt (dU j (fun hc j=>?_) fun hc j=>?_))))))
  ·refine RC.ex (Jl (by decide) ?_)
   obtain rfl:=oi j
   exact⟨rfl,o.sp 1 [0]⟩
  refine RC.sx (mv ae (mv (vi aa.2.2) (mv (str aa.1) (mv (vi ag) (mv (vi p2) (RL.gl ag p2 ?_))))))
  obtain⟨aq,ar,j⟩:=bd j
  refine RL.vX aa.1 zr zr A3 (.inr ⟨rfl,zr⟩) (.inl zr) ar ?_
  obtain⟨a1,ah,j⟩:=bd j
  refine RL.bQ 0 o zr zr Dl ah ?_
  have o:=o.sc eJ aq
  refine RL.gL (f:=(fun _ y=>y)) 1 0 o (jg 1 o ah 0) (bF ah).2.1 zr Fs.self AQ fun w o=>?_
  refine RL.ns (mv (str aa.1) (mv (vi ag) (mv (str p1) (RL.lens p1 A3 (RL.gl ag (p1.cX.length:Int) ?_)))))
  obtain⟨au,av,j⟩:=bd j
  refine RL.vX aa.1 zr zr A3 (.inl zr) (.inr ⟨rfl,zr⟩) av (aQ (str au) (RL.nt (RC.region (mv (vi aa.2.2) (RL.gl aa.2.2 1 (aQ (vi (IntKind.wrap .i64 (aa.2.2+1))) (RL.nil (bM ?_))))))))
  obtain rfl:=oi j
  exact⟨rfl,o.sp 2 [1]⟩
 ·intro r _ _ _ _
  exact r.elim
 rintro aa _ w rfl ⟨O,rfl,o⟩
 rw [Fo.dA] at j
 refine aH (RC.sr (mv ae (mv (vi aa.2.2) (mv (str aa.1) ?_))))
 obtain⟨a2,ai,j⟩:=bd j
 refine RL.bQ 0 o zr zr Dl ai ?_
 have o:=o.sc eJ aa.1
 refine RL.gL (f:=(fun _ y=>y)) 1 0 o (jg 1 o ai 0) (bF ai).2.1 zr Fs.self AQ fun w o=>?_
 refine RL.ns (mv ae (mv (vi aa.2.2) (RL.gl aa.2.2 1 ?_)))
 obtain⟨a3,aw,j⟩:=bd j
 refine RL.BV 1 zr o zr zr Dl (.inr ⟨rfl,zr⟩) aw fun ax o=>(aQ ax (RL.nt (RC.ret ?_)))
 obtain rfl:=oi j
 exact bX (o.pk 2 [1])
theorem r6 {p0 p1:eJ} {res: (List eJ)} (o:Holds E w V) (j:lT N p0 p1=some res):
    Calls bO 79 [(str p0),(str p1)].toArray w (gW (qx E V res)):=by
 unfold lT at j
 refine enter Tryz.func79 zr zr (RC.sr (aQ (.slice none 0 0) (RL.ns (mv (str p0) (mv (str p1) ?_)))))
 obtain⟨ad,aa,j⟩:=bd j
 refine RL.call zt zr KB [(str p0),(str p1),(vi 0),(vi (-1))] zr (aD (vC N (p0:=p0) (p1:=p1) (p2:=0) (p3:=(-1)) o aa) ?_)
 rintro ab w o
 refine aQ ab (RL.nt (RC.ret ?_))
 obtain rfl:=oi j
 exact bX (o.pk 1 [0])
def qX (E:World) (V:List HP) (r:Int) (U:Nat->Value) (w:World):Prop:=mh bO 19 Tryz.f109 (aW E V r) .ret U w
theorem qA {p0: (List eJ)} {p1:eJ->Option Bool} (j:Holds E w V) (h0:V[i0]? =some (rd v0 p0)) (h1:HS bO E V v1 p1 (fun(r:Bool)=>Value.bool r)) (o:k9 N p0 p1=some res):
    Calls bO 109 [v0,v1].toArray w (gW (aW E V res)):=by
 unfold k9 at o
 refine enter Tryz.func109 zr zr ?_
 have j:=j.dup (i0+0) h0
 refine RC.sr (aQ (vi 0) (RL.nq (RC.sr (mv v0 (RL.bA 0 p0 j I1 (mv (vi 0) (RL.nt ?_)))))))
 obtain⟨al,hN,o⟩:=bd o
 refine RC.range (fun(aa:Nat) (ab:Unit)=>SH E V [(0,v0),(1,v1),(7,vi p0.length),(8,vi aa)] [rd v0 p0]) (fun(ab:Unit)=>SH E V [] [rd v0 p0]) (qX E V) hN ?_ ?_ ?_ ?_ ?_
 ·exact j.sp 1 [0]
 ·rintro hm ab _ w ⟨O,rfl,j⟩
  refine RC.sr (ic ((p0.length:Int)) ((p0.length:Int)) (RL.nq (RC.fO tG (RC.ex ?_))))
  exact⟨rfl,j.sp 1 [0]⟩
 ·rintro hm aa ab fl _ w hk ⟨O,rfl,j⟩ o
  refine RC.sr (ic ((aa:Int)) ((p0.length:Int)) (RL.nq (RC.fN (tF hk) (RC.ss (RC.bs (mv (vi aa) (aQ (vi aa) (RL.ns ?_))))))))
  refine mv v1 (mv v0 (mv (vi aa) ?_))
  obtain⟨af,ah,o⟩:=bd o
  refine RL.bP 0 j Dl ah fun ao j=>(RL.bD af 0 j AQ ?_)
  have j:=j.sc eJ af
  obtain⟨aq,ai,o⟩:=bd o
  refine RL.BT 0 zr j zr h1 3 zr zr zr ai fun w j=>(RL.nt (dU o (fun hc o=>?_) fun hc o=>?_))
  rotate_left
  ·refine RC.skip (bM (aH (RC.region (RL.inc hk hm (mv (vi ((aa+1:Nat):Int)) (RL.nil ?_))))))
   obtain rfl:=oi o
   exact⟨rfl,j.sp 3 [2]⟩
  refine RC.sr (mv (vi aa) (aQ (vi aa) (RL.nt (RC.rb (bT ?_)))))
  obtain rfl:=oi o
  exact⟨rfl,bX ⟨rfl,j.drop 3⟩⟩
 ·intro r U w e hK
  subst e
  refine bT ?_
  obtain rfl:=oi o
  exact hK
 rintro ab _ w rfl ⟨O,rfl,j⟩
 rw [Fo.dA] at o
 refine aH (RC.sr (aQ (vi (-1)) (RL.nt (RC.ret ?_))))
 obtain rfl:=oi o
 exact bX ⟨rfl,j.drop 1⟩
theorem pf {p0: (List eJ)} {p1:eJ->Option Bool} {res:Bool} (j:Holds E w V) (h0:V[i0]? =some (rd v0 p0)) (h1:HS bO E V v1 p1 (fun(r:Bool)=>Value.bool r)) (o:iP N p0 p1=some res):
    Calls bO 78 [v0,v1].toArray w (gW (aV E V res)):=by
 unfold iP at o
 refine enter Tryz.func78 zr zr ?_
 have j:=j.dup (i0+0) h0
 refine RC.sr (aQ (vb false) (RL.ns (mv v0 (mv v1 ?_))))
 obtain⟨aa,ab,o⟩:=bd o
 refine RL.call zt zr KD [v0,v1] zr (aD (qA N (i0:=0) j zr (h1.lift 1 zr) ab) ?_)
 rintro _ w ⟨rfl,j⟩
 refine ic aa 0 (aQ (vb (decide (aa>=0))) (RL.nt (RC.ret ?_)))
 obtain rfl:=oi o
 exact bX ⟨rfl,j.drop 1⟩
theorem pg {p0:eJ} (o:Holds E w V) (j:gR N p0 p1=some res):
    Calls bO 81 [(str p0),(.int .u8 p1)].toArray w (gW (aW E V res)):=by
 unfold gR at j
 refine enter Tryz.func81 zr zr (RC.sr (aQ (vi 0) (RL.ns (mv (str p0) (mv (.int .u8 p1) ?_)))))
 obtain⟨aa,ab,j⟩:=bd j
 refine RL.call zt zr IZ [(str p0),(.int .u8 p1)] zr (aD (nu N (p0:=p0) (p1:=p1) o ab) ?_)
 rintro _ w ⟨rfl,o⟩
 refine aQ (vi aa) (RL.nt (RC.ret ?_))
 obtain rfl:=oi j
 exact bX ⟨rfl,o.drop 0⟩
def yj (E:World) (V:List HP) (r:Bool) (U:Nat->Value) (w:World):Prop:=mh bO 49 Tryz.f40 (aV E V r) .ret U w
theorem rk {p0:eJ} {res:Bool} (hw:Holds E w V) (o:jA N p0=some res):
    Calls bO 40 [(str p0)].toArray w (gW (aV E V res)):=by
 unfold jA at o
 refine enter Tryz.func40 zr zr (RC.sr (aQ (vb false) (RL.nq (RC.sr (mv (str p0) (RL.lens p0 A3 (mv (vi 0) (RL.nt ?_))))))))
 obtain⟨ar,hN,o⟩:=bd o
 refine RC.range (fun(ab:Nat) (af:Unit)=>SH E V [(0,(str p0)),(6,vi p0.cX.length),(7,vi ab)] []) (fun(af:Unit)=>SH E V [(0,(str p0))] []) (yj E V) hN ?_ ?_ ?_ ?_ ?_
 ·exact hw.sp 0 []
 ·rintro hm af _ w ⟨O,rfl,hw⟩
  refine RC.sr (ic ((p0.cX.length:Int)) ((p0.cX.length:Int)) (RL.nq (RC.fO tG (RC.ex ?_))))
  exact⟨rfl,hw.sp 0 []⟩
 ·rintro hm ab af fl _ w hk ⟨O,rfl,hw⟩ o
  refine RC.sr (ic ((ab:Int)) ((p0.cX.length:Int)) (RL.nq (RC.fN (tF hk) (RC.ss (RC.bs (mv (vi ab) (aQ (vi ab) (RL.ns ?_))))))))
  refine mv (str p0) (mv (vi ab) ?_)
  obtain⟨j,al,o⟩:=bd o
  refine RL.idxs p0 (ab:Int) j zr zr zr A3 al (aQ (.int .u8 (j.toNat:Int)) (RL.nq ?_))
  obtain⟨ag,hj,o⟩:=bd o
  refine RC.jn (fun(ag:Bool)=>SH E V [(0,(str p0)),(6,vi p0.cX.length),(7,vi ab),(39,vb ag)] []) ag ?_ ?_
  ·refine RC.region (mv (.int .u8 (j.toNat:Int)) (ic ((j.toNat:Int)) 65 (mv (vb (decide ((j.toNat:Int)<65))) (RL.gs true (decide ((j.toNat:Int)<65)) (.int .u8 (j.toNat:Int)) rfl rfl rfl cH (RL.gs true (decide ((j.toNat:Int)<65)) (vb (decide ((j.toNat:Int)>90))) rfl rfl rfl (dI .gtr .u8 (j.toNat:Int) 90 rfl (fun h=>by exact(cK h:cv (true&&((decide ((j.toNat:Int)<65))==false)) (.int .u8 (j.toNat:Int))= (.int .u8 (j.toNat:Int)))) (fun _=>rfl) rfl) (RL.pick (decide ((j.toNat:Int)<65)) (vb ((decide ((j.toNat:Int)<65))||(decide ((j.toNat:Int)>90)))) (nR true) (mv (vb ((decide ((j.toNat:Int)<65))||(decide ((j.toNat:Int)>90)))) (RL.gs true ((decide ((j.toNat:Int)<65))||(decide ((j.toNat:Int)>90))) (.int .u8 (j.toNat:Int)) rfl rfl rfl cH ?_))))))))
   refine RL.gs true ((decide ((j.toNat:Int)<65))||(decide ((j.toNat:Int)>90))) (vb (decide ((j.toNat:Int)<97))) rfl rfl rfl (dI .lss .u8 (j.toNat:Int) 97 rfl (fun h=>by exact(cK h:cv (true&&(((decide ((j.toNat:Int)<65))||(decide ((j.toNat:Int)>90)))==true)) (.int .u8 (j.toNat:Int))= (.int .u8 (j.toNat:Int)))) (fun _=>rfl) rfl) (RL.gs true ((decide ((j.toNat:Int)<65))||(decide ((j.toNat:Int)>90))) (vb (decide ((j.toNat:Int)<97))) rfl rfl rfl (cH (hx:=fun h=>by exact(cK h:cv (true&&(((decide ((j.toNat:Int)<65))||(decide ((j.toNat:Int)>90)))==true)) (vb (decide ((j.toNat:Int)<97)))= (vb (decide ((j.toNat:Int)<97)))))) (RL.gs (true&&(((decide ((j.toNat:Int)<65))||(decide ((j.toNat:Int)>90)))==true)) (decide ((j.toNat:Int)<97)) (.int .u8 (j.toNat:Int)) rfl rfl rfl cH (RL.gs (true&&(((decide ((j.toNat:Int)<65))||(decide ((j.toNat:Int)>90)))==true)) (decide ((j.toNat:Int)<97)) (vb (decide ((j.toNat:Int)>122))) rfl rfl rfl (dI .gtr .u8 (j.toNat:Int) 122 rfl (fun h=>by exact(cK h:cv ((true&&(((decide ((j.toNat:Int)<65))||(decide ((j.toNat:Int)>90)))==true))&&((decide ((j.toNat:Int)<97))==false)) (.int .u8 (j.toNat:Int))= (.int .u8 (j.toNat:Int)))) (fun _=>rfl) rfl) (RL.gs true ((decide ((j.toNat:Int)<65))||(decide ((j.toNat:Int)>90))) (vb ((decide ((j.toNat:Int)<97))||(decide ((j.toNat:Int)>122)))) rfl rfl rfl (kE (decide ((j.toNat:Int)<97)) rfl (fun h=>by exact(cK h:cv (true&&(((decide ((j.toNat:Int)<65))||(decide ((j.toNat:Int)>90)))==true)) (vb (decide ((j.toNat:Int)<97)))= (vb (decide ((j.toNat:Int)<97))))) (fun h=>by exact nR (h:=h) (true&&(((decide ((j.toNat:Int)<65))||(decide ((j.toNat:Int)>90)))==true)))) (RL.pick ((decide ((j.toNat:Int)<65))||(decide ((j.toNat:Int)>90))) (vb (((decide ((j.toNat:Int)<65))||(decide ((j.toNat:Int)>90)))&&((decide ((j.toNat:Int)<97))||(decide ((j.toNat:Int)>122))))) (gr true rfl) (mv (vb (((decide ((j.toNat:Int)<65))||(decide ((j.toNat:Int)>90)))&&((decide ((j.toNat:Int)<97))||(decide ((j.toNat:Int)>122))))) (RL.gs true (((decide ((j.toNat:Int)<65))||(decide ((j.toNat:Int)>90)))&&((decide ((j.toNat:Int)<97))||(decide ((j.toNat:Int)>122)))) (.int .u8 (j.toNat:Int)) rfl rfl rfl cH (RL.gs true (((decide ((j.toNat:Int)<65))||(decide ((j.toNat:Int)>90)))&&((decide ((j.toNat:Int)<97))||(decide ((j.toNat:Int)>122)))) (vb (decide ((j.toNat:Int)<48))) rfl rfl rfl (dI .lss .u8 (j.toNat:Int) 48 rfl (fun h=>by exact(cK h:cv (true&&((((decide ((j.toNat:Int)<65))||(decide ((j.toNat:Int)>90)))&&((decide ((j.toNat:Int)<97))||(decide ((j.toNat:Int)>122))))==true)) (.int .u8 (j.toNat:Int))= (.int .u8 (j.toNat:Int)))) (fun _=>rfl) rfl) ?_))))))))
   refine RL.gs true (((decide ((j.toNat:Int)<65))||(decide ((j.toNat:Int)>90)))&&((decide ((j.toNat:Int)<97))||(decide ((j.toNat:Int)>122)))) (vb (decide ((j.toNat:Int)<48))) rfl rfl rfl (cH (hx:=fun h=>by exact(cK h:cv (true&&((((decide ((j.toNat:Int)<65))||(decide ((j.toNat:Int)>90)))&&((decide ((j.toNat:Int)<97))||(decide ((j.toNat:Int)>122))))==true)) (vb (decide ((j.toNat:Int)<48)))= (vb (decide ((j.toNat:Int)<48)))))) (RL.gs (true&&((((decide ((j.toNat:Int)<65))||(decide ((j.toNat:Int)>90)))&&((decide ((j.toNat:Int)<97))||(decide ((j.toNat:Int)>122))))==true)) (decide ((j.toNat:Int)<48)) (.int .u8 (j.toNat:Int)) rfl rfl rfl cH (RL.gs (true&&((((decide ((j.toNat:Int)<65))||(decide ((j.toNat:Int)>90)))&&((decide ((j.toNat:Int)<97))||(decide ((j.toNat:Int)>122))))==true)) (decide ((j.toNat:Int)<48)) (vb (decide ((j.toNat:Int)>57))) rfl rfl rfl (dI .gtr .u8 (j.toNat:Int) 57 rfl (fun h=>by exact(cK h:cv ((true&&((((decide ((j.toNat:Int)<65))||(decide ((j.toNat:Int)>90)))&&((decide ((j.toNat:Int)<97))||(decide ((j.toNat:Int)>122))))==true))&&((decide ((j.toNat:Int)<48))==false)) (.int .u8 (j.toNat:Int))= (.int .u8 (j.toNat:Int)))) (fun _=>rfl) rfl) (RL.gs true (((decide ((j.toNat:Int)<65))||(decide ((j.toNat:Int)>90)))&&((decide ((j.toNat:Int)<97))||(decide ((j.toNat:Int)>122)))) (vb ((decide ((j.toNat:Int)<48))||(decide ((j.toNat:Int)>57)))) rfl rfl rfl (kE (decide ((j.toNat:Int)<48)) rfl (fun h=>by exact(cK h:cv (true&&((((decide ((j.toNat:Int)<65))||(decide ((j.toNat:Int)>90)))&&((decide ((j.toNat:Int)<97))||(decide ((j.toNat:Int)>122))))==true)) (vb (decide ((j.toNat:Int)<48)))= (vb (decide ((j.toNat:Int)<48))))) (fun h=>by exact nR (h:=h) (true&&((((decide ((j.toNat:Int)<65))||(decide ((j.toNat:Int)>90)))&&((decide ((j.toNat:Int)<97))||(decide ((j.toNat:Int)>122))))==true)))) (RL.pick (((decide ((j.toNat:Int)<65))||(decide ((j.toNat:Int)>90)))&&((decide ((j.toNat:Int)<97))||(decide ((j.toNat:Int)>122)))) (vb ((((decide ((j.toNat:Int)<65))||(decide ((j.toNat:Int)>90)))&&((decide ((j.toNat:Int)<97))||(decide ((j.toNat:Int)>122))))&&((decide ((j.toNat:Int)<48))||(decide ((j.toNat:Int)>57))))) (gr true rfl) (mv (vb ((((decide ((j.toNat:Int)<65))||(decide ((j.toNat:Int)>90)))&&((decide ((j.toNat:Int)<97))||(decide ((j.toNat:Int)>122))))&&((decide ((j.toNat:Int)<48))||(decide ((j.toNat:Int)>57))))) (fC hj (fun ad hj=>?_) fun ad hj=>?_))))))
   rotate_left
   ·refine bG ad (bG ad (bG ad (fL ad (vb false) (RL.nil ?_))))
    obtain rfl:=oi hj
    exact⟨rfl,hw.sp 0 []⟩
   refine RL.move (.int .u8 (j.toNat:Int)) (cg ad) ?_
   obtain⟨aj,an,hj⟩:=bd hj
   refine RL.call (cg ad) zr KE [(str ⟨[95,43,45,35]⟩),(.int .u8 (j.toNat:Int))] zr (aD (pg N (p0:=⟨[95,43,45,35]⟩) (p1:=(j.toNat:Int)) hw an) ?_)
   rintro _ w ⟨rfl,hw⟩
   refine RL.kD aj 0 (cg ad) (fL ad (vb (decide (aj<0))) (RL.nil ?_))
   obtain rfl:=oi hj
   exact⟨rfl,hw.sp 0 []⟩
  rintro _ w ⟨O,rfl,hw⟩
  refine aH (dU o (fun hc o=>?_) fun hc o=>?_)
  rotate_left
  ·refine RC.skip (bM (aH (RC.region (RL.inc hk hm (mv (vi ((ab+1:Nat):Int)) (RL.nil ?_))))))
   obtain rfl:=oi o
   exact⟨rfl,hw.sp 0 []⟩
  refine RC.sr (aQ (vb false) (RL.nt (RC.rb (bT ?_))))
  obtain rfl:=oi o
  exact⟨rfl,bX ⟨rfl,hw.drop 0⟩⟩
 ·intro r U w e hK
  subst e
  refine bT ?_
  obtain rfl:=oi o
  exact hK
 rintro af _ w rfl ⟨O,rfl,hw⟩
 rw [Fo.dA] at o
 refine aH (RC.sr (mv (str p0) (RL.lens p0 A3 (ic ((p0.cX.length:Int)) 1 (mv (vb (decide ((p0.cX.length:Int)>=1))) (RL.gs true (decide ((p0.cX.length:Int)>=1)) (str p0) rfl rfl rfl cH (RL.gs true (decide ((p0.cX.length:Int)>=1)) (vi p0.cX.length) rfl rfl rfl (HX (s:=p0) rfl (fun h=>by exact(cK h:cv (true&&((decide ((p0.cX.length:Int)>=1))==true)) (str p0)= (str p0))) A3) (RL.gs true (decide ((p0.cX.length:Int)>=1)) (vb (decide ((p0.cX.length:Int)<=40))) rfl rfl rfl (dI .leq .i64 (p0.cX.length:Int) 40 rfl (fun h=>by exact(cK h:cv (true&&((decide ((p0.cX.length:Int)>=1))==true)) (vi p0.cX.length)= (vi p0.cX.length))) (fun _=>rfl) rfl) ?_))))))))
 refine RL.pick (decide ((p0.cX.length:Int)>=1)) (vb ((decide ((p0.cX.length:Int)>=1))&&(decide ((p0.cX.length:Int)<=40)))) (gr true zr) (aQ (vb ((decide ((p0.cX.length:Int)>=1))&&(decide ((p0.cX.length:Int)<=40)))) (RL.nt (RC.ret ?_)))
 obtain rfl:=oi o
 exact bX ⟨rfl,hw.drop 0⟩
theorem uC {p0:eJ} {res:Bool} (o:Holds E w V) (j:iQ N p0=some res):
    Calls bO 80 [(str p0)].toArray w (gW (aV E V res)):=by
 unfold iQ at j
 refine enter Tryz.func80 zr zr (RC.sr (aQ (vb false) (RL.ns (mv (str p0) ?_))))
 obtain⟨aa,ab,j⟩:=bd j
 refine RL.call zt zr KF [(str p0)] zr (aD (rk N (p0:=p0) o ab) ?_)
 rintro _ w ⟨rfl,o⟩
 refine RL.not aa (aQ (vb (!aa)) (RL.nt (RC.ret ?_)))
 obtain rfl:=oi j
 exact bX ⟨rfl,o.drop 0⟩
theorem xl {p0:eJ} {res:Bool} (j:Holds E w V) (hb:mq N p0=some res):
    Calls bO 39 [(str p0)].toArray w (gW (aV E V res)):=by
 unfold mq at hb
 refine enter Tryz.func39 zr zr (RC.sr (aQ (vb false) (RL.nq ?_)))
 obtain⟨ad,hj,hb⟩:=bd hb
 refine RC.jn (fun(ad:Bool)=>SH E V [(2,vb ad)] []) ad ?_ ?_
 ·refine RC.region (mv (str p0) (RL.lens p0 A3 (ic ((p0.cX.length:Int)) 200 (mv (vb (decide ((p0.cX.length:Int)<=200))) (fC hj (fun o hj=>?_) fun o hj=>?_)))))
  rotate_left
  ·refine bG o (bG o (bG o (bG o (fL o (vb false) (aQ (vb false) (RL.nil ?_))))))
   obtain rfl:=oi hj
   exact⟨rfl,j.sp 0 []⟩
  refine RL.move (str p0) (cg o) ?_
  obtain⟨ai,af,hj⟩:=bd hj
  refine RL.call (cg o) zr KC [(str p0),(str ⟨[47]⟩)] zr (aD (r6 N (p0:=p0) (p1:=⟨[47]⟩) j af) ?_)
  rintro ag w j
  have j:=j.freeze 0
  obtain⟨ae,ah,hj⟩:=bd hj
  refine RL.call (cg o) rfl Ma [ag,(.func (.func 80) #[] #[])] rfl (aD (pf N (i0:=0) j rfl ⟨80,[],rfl,L9,fun w Γl v y0 r i j hi hr=>by obtain rfl:=j.CI (γ:=eJ) hi;exact aD (uC N (p0:=y0) j hr) fun _ _ h=>h⟩ ah) ?_)
  rintro _ w ⟨rfl,j⟩
  refine RL.not (hg:=(cg o)) ae (fL o (vb (!ae)) (aQ (vb (!ae)) (RL.nil ?_)))
  obtain rfl:=oi hj
  exact⟨rfl,j.sp 1 []⟩
 rintro _ w ⟨O,rfl,j⟩
 refine aH (RC.ret ?_)
 obtain rfl:=oi hb
 exact bX ⟨rfl,j.drop 0⟩
def zU (E:World) (V:List HP) (res:fD) (v:Value) (w:World):Prop:=Holds E w ([rd v res]++V)
theorem pG {p0:fW} {res:fD} (j:Holds E w V) (h0:V[i0]? =some (rd v0 p0)) (o:mX N p0=some res):
    Calls bO 42 [v0].toArray w (gW (zU E V res)):=by
 unfold mX at o
 refine enter Tryz.func42 zr zr ?_
 have j:=j.dup (i0+0) h0
 refine RC.sr (RL.dJ 0 v0 j zr fun aa w j=>?_)
 refine RL.alloc j Jz.z fun ab w j=>?_
 refine RL.ns (RL.aX zr uo (RL.aN 1 j zr nU AQ (RL.aX zr x9 (RL.aN 1 j zr qj AQ ?_))))
 have j:=(j.sc eJ p0.Part).sc eJ p0.fD
 refine RL.build (⟨p0.Part,p0.fD⟩:fD) trivial rfl j [(0,(str p0.Part)),(1,(str p0.fD))] rfl KG rfl (fun M hs g=>by have h:=IX M;exact cT.cons (f:=fun(x:fD) y=>{x with Part:=y}) h Dd (g.sat 1 _ rfl).1 fun _ h=>cT.cons (f:=fun(x:fD) y=>{x with fD:=y}) h Df (g.sat 0 _ rfl).1 fun _ h=>cT.nil h) fun ad j=>?_
 refine RL.cA 3 j 0 zr KH fun w j=>?_
 refine RL.nt (RC.ret ?_)
 obtain rfl:=oi o
 exact H0 3 zr j zr zr KH fun ae j=>(j.pk 7 [0])
theorem rG {p0 p1:eJ} (o:Holds E w V) (j:l4 N p0 p1=some res):
    Calls bO 112 [(str p0),(str p1)].toArray w (gW (aW E V res)):=by
 unfold l4 at j
 refine enter Tryz.func112 zr zr (RC.sr (aQ (vi 0) (RL.ns (mv (str p0) (mv (str p1) (RL.zC (vi (Lib.compareBytes p0.cX p1.cX)) zr [(str p0),(str p1)] zr (Mc p0 p1 w) (aQ (vi (Lib.compareBytes p0.cX p1.cX)) (RL.nt ?_))))))))
 refine RC.ret ?_
 obtain rfl:=oi j
 exact bX ⟨rfl,o.drop 0⟩
theorem qB {p0 p1:eJ} (o:Holds E w V) (j:nG N p0 p1=some res):
    Calls bO 82 [(str p0),(str p1)].toArray w (gW (aW E V res)):=by
 unfold nG at j
 refine enter Tryz.func82 zr zr (RC.sr (aQ (vi 0) (RL.ns (mv (str p0) (mv (str p1) ?_)))))
 obtain⟨aa,ab,j⟩:=bd j
 refine RL.call zt zr KI [(str p0),(str p1)] zr (aD (rG N (p0:=p0) (p1:=p1) o ab) ?_)
 rintro _ w ⟨rfl,o⟩
 refine aQ (vi aa) (RL.nt (RC.ret ?_))
 obtain rfl:=oi j
 exact bX ⟨rfl,o.drop 0⟩
theorem tc {p0 p1:fD} (j:Holds E w V) (h0:V[i0]? =some (rd v0 p0)) (h1:V[i1]? =some (rd v1 p1)) (o:jP N p0 p1=some res):
    Calls bO 41 [v0,v1].toArray w (gW (aW E V res)):=by
 unfold jP at o
 refine enter Tryz.func41 zr zr ?_
 have j:=(j.dup (i0+0) h0).dup (i1+1) h1
 refine RC.sr (RL.dJ 1 v0 j zr fun ag w j=>?_)
 refine RL.dJ 1 v1 j zr fun ah w j=>?_
 refine aQ (vi 0) (RL.nq (RC.sr (RL.aX zr GX (RL.aN 1 j zr Dc AQ (RL.aX zr GX (RL.aN 0 j zr Dc AQ ?_))))))
 obtain⟨aa,ab,o⟩:=bd o
 refine RL.call zt zr KJ [(str p0.Part),(str p1.Part)] zr (aD (qB N (p0:=p0.Part) (p1:=p1.Part) j ab) ?_)
 rintro _ w ⟨rfl,j⟩
 refine aQ (vi aa) (RL.ns (mv (vi aa) (ic aa 0 (RL.nt (dU o (fun hc o=>?_) fun hc o=>?_)))))
 ·refine RC.sr (mv (vi aa) (aQ (vi aa) (RL.nt (RC.rt ?_))))
  obtain rfl:=oi o
  exact bX ⟨rfl,j.drop 4⟩
 refine RC.sx (RL.aX zr GY (RL.aN 1 j zr De AQ (RL.aX zr GY (RL.aN 0 j zr De AQ ?_))))
 obtain⟨ae,af,o⟩:=bd o
 refine RL.call zt zr KJ [(str p0.fD),(str p1.fD)] zr (aD (qB N (p0:=p0.fD) (p1:=p1.fD) j af) ?_)
 rintro _ w ⟨rfl,j⟩
 refine aQ (vi ae) (RL.nt (RC.ret ?_))
 obtain rfl:=oi o
 exact bX ⟨rfl,j.drop 4⟩
def vD (E:World) (V:List HP) (r:Int) (U:Nat->Value) (w:World):Prop:=mh bO 60 Tryz.f17 (aW E V r) .ret U w
theorem uD {p0:k7} (j:Holds E w V) (h0:V[i0]? =some (rd v0 p0)) (hb:kI N p0=some res):
    Calls bO 17 [v0].toArray w (gW (aW E V res)):=by
 unfold kI at hb
 refine enter Tryz.func17 zr zr ?_
 have j:=j.dup (i0+0) h0
 refine RC.sr (RL.dJ 0 v0 j zr fun ag w j=>?_)
 have j:=j.lR (i:=0) rfl
 refine aQ (vi 0) (RL.nq (RC.sr (RL.dX 0 j zr rB oy fun bk j=>(RL.bL 0 p0.bV j A2 fun bl j=>(RL.bA 0 p0.bV j FO (ic ((p0.bV.length:Int)) 1000 (RL.nt (dU hb (fun hc hb=>?_) fun hc hb=>?_))))))))
 ·refine RC.sr (aQ (vi 2) (RL.nt (RC.rt ?_)))
  obtain rfl:=oi hb
  exact bX ⟨rfl,j.drop 4⟩
 refine RC.ss (RC.sr (RL.dX 2 j zr rB oy fun bm j=>(RL.bL 0 p0.bV j A2 fun ah j=>(RL.bA 0 p0.bV j FO (mv (vi 0) (RL.nt ?_))))))
 obtain⟨bn,hN,hb⟩:=bd hb
 refine RC.range (fun(ad:Nat) (ak:Unit)=>SH E V [(1,vp ag 0),(10,ah),(11,vi p0.bV.length),(12,vi ad)] [pt (vp ag 0) p0,rd ah p0.bV]) (fun(ak:Unit)=>SH E V [] [pt (vp ag 0) p0,rd ah p0.bV]) (vD E V) hN ?_ ?_ ?_ ?_ ?_
 ·exact j.sp 6 [4,0]
 ·rintro hm ak _ w ⟨O,rfl,j⟩
  refine RC.sr (ic ((p0.bV.length:Int)) ((p0.bV.length:Int)) (RL.nq (RC.fO tG (RC.ex ?_))))
  exact⟨rfl,j.sp 2 [0,1]⟩
 ·rintro hm ad ak fl _ w hk ⟨O,rfl,j⟩ hb
  refine RC.sr (ic ((ad:Int)) ((p0.bV.length:Int)) (RL.nq (RC.fN (tF hk) (RC.ss (RC.bs (mv (vi ad) ?_))))))
  obtain⟨ai,a1,hb⟩:=bd hb
  refine RL.bP 1 j FP a1 fun bp j=>(RL.bL 0 ai j vt fun bq j=>(RL.alloc j GW.z fun al w j=>?_))
  refine aQ (vi ad) (RL.cA 0 j 1 zr vt fun w j=>?_)
  refine RL.nt (RC.block (RC.seq ?_))
  obtain⟨an,o,hb⟩:=bd hb
  refine RC.jn (fun(an:Bool)=>SH E V [(1,vp ag 0),(3,vi ad),(4,vp al 0),(10,ah),(11,vi p0.bV.length),(12,vi ad),(17,vb an)] [pt (vp ag 0) p0,bx 79 al ai,rd ah p0.bV]) an ?_ ?_
  ·refine RC.region (RL.aX zr uo (RL.aN 0 j zr nU AQ ?_))
   obtain⟨ay,a2,o⟩:=bd o
   refine RL.call zt zr Mb [(str ai.Part)] zr (aD (xl N (p0:=ai.Part) j a2) ?_)
   rintro _ w ⟨rfl,j⟩
   refine RL.not ay (mv (vb (!ay)) (fC o (fun ae o=>?_) fun ae o=>?_))
   ·refine bG ae (bG ae (bG ae (bG ae (fL ae (vb true) (aQ (vb true) (RL.nil ?_))))))
    obtain rfl:=oi o
    exact⟨rfl,j.sp 5 [3,0,4]⟩
   refine RL.aX (hg:=(cg ae)) zr x9 (RL.aN (hg:=(cg ae)) 0 j zr qj AQ ?_)
   obtain⟨ao,a3,o⟩:=bd o
   refine RL.call (cg ae) zr KF [(str ai.fD)] zr (aD (rk N (p0:=ai.fD) j a3) ?_)
   rintro _ w ⟨rfl,j⟩
   refine RL.not (hg:=(cg ae)) ao (fL ae (vb (!ao)) (aQ (vb (!ao)) (RL.nil ?_)))
   obtain rfl:=oi o
   exact⟨rfl,j.sp 5 [3,0,4]⟩
  rintro _ w ⟨O,rfl,j⟩
  refine aH (dU hb (fun hc hb=>?_) fun hc hb=>?_)
  ·refine RC.sr (aQ (vi 5) (RL.nt (RC.rb (ot (bT ?_)))))
   obtain rfl:=oi hb
   exact⟨rfl,bX ⟨rfl,j.drop 3⟩⟩
  refine RC.seq ?_
  obtain⟨aq,o,hb⟩:=bd hb
  refine RC.jn (fun(aq:Bool)=>SH E V [(1,vp ag 0),(3,vi ad),(4,vp al 0),(10,ah),(11,vi p0.bV.length),(12,vi ad),(28,vb aq)] [pt (vp ag 0) p0,bx 79 al ai,rd ah p0.bV]) aq ?_ ?_
  ·refine RC.region (RL.aX zr ya (RL.aN 1 j zr ql cJ (RL.dX 0 j zr mx jc fun br j=>(RL.bL 0 p0.aJ j pB fun bt j=>(RL.bA 0 p0.aJ j qw (RL.gl (p0.aJ.length:Int) 1 ?_))))))
   obtain⟨az,a4,o⟩:=bd o
   refine RL.call zt zr Ig [(vi ai.cU),(vi 0),(vi (IntKind.wrap .i64 ((p0.aJ.length:Int) - 1)))] zr (aD (m6 N (p0:=ai.cU) (p1:=0) (p2:=(IntKind.wrap .i64 ((p0.aJ.length:Int) - 1))) j a4) ?_)
   rintro _ w ⟨rfl,j⟩
   refine RL.not az (mv (vb (!az)) (fC o (fun af o=>?_) fun af o=>?_))
   ·refine bG af (bG af (bG af (bG af (fL af (vb true) (aQ (vb true) (RL.nil ?_))))))
    obtain rfl:=oi o
    exact⟨rfl,j.sp 5 [2,3,4]⟩
   refine RL.aX (hg:=(cg af)) zr yb (RL.bE (hg:=(cg af)) 3 j zr qm Dk fun a5 j=>?_)
   obtain⟨ar,a6,o⟩:=bd o
   refine RL.call (cg af) zr Kw [a5] zr (aD (rY N (i0:=0) j zr a6) ?_)
   rintro _ w ⟨rfl,j⟩
   refine RL.not (hg:=(cg af)) ar (fL af (vb (!ar)) (aQ (vb (!ar)) (RL.nil ?_)))
   obtain rfl:=oi o
   exact⟨rfl,j.sp 6 [3,4,5]⟩
  rintro _ w ⟨O,rfl,j⟩
  refine aH (dU hb (fun hc hb=>?_) fun hc hb=>?_)
  ·refine RC.sr (aQ (vi 1) (RL.nt (RC.rb (ot (bT ?_)))))
   obtain rfl:=oi hb
   exact⟨rfl,bX ⟨rfl,j.drop 3⟩⟩
  refine RC.seq ?_
  obtain⟨au,o,hb⟩:=bd hb
  refine RC.jn (fun(au:Bool)=>SH E V [(1,vp ag 0),(10,ah),(11,vi p0.bV.length),(12,vi ad),(43,vb au)] [pt (vp ag 0) p0,rd ah p0.bV]) au ?_ ?_
  ·refine RC.v5 mixed [0,0,0,0,2,1,1,1,1,1,1,2,2,0,0,0] [0,1,2,3,5,6,7,8,9,10,4,11,12,13,14,15] ?_
   have j:=j.drew
   refine DP.e0 zr (mv (vi ad) (aZ zr (ic ((ad:Int)) 0 (aZ zr (mv (vb (decide ((ad:Int)>0))) (DP.d0 (fC o (fun ab o=>?_) fun ab o=>?_)))))))
   rotate_left
   ·refine DP.e0 zr (bG ab (DP.d0 (DP.e1 undef zr (fun w=>bG ab DP.d1) (DP.e1 undef zr (fun w=>bG ab DP.d1) (DP.e1 undef zr (fun w=>bG ab DP.d1) (DP.e1 undef zr (fun w=>bG ab DP.d1) (DP.e1 undef zr (fun w=>bG ab DP.d1) (DP.e1 undef zr (fun w=>bG ab DP.d1) ?_))))))))
    refine DP.e2 zr (bG ab (E7 zr (bG ab (E7 zr (bG ab (tP zr (bG ab (aZ zr ?_))))))))
    refine fL ab (vb false) (aZ zr (aQ (vb false) (DP.d0 (DP.z ?_))))
    obtain rfl:=oi o
    exact⟨rfl,j.sp 3 [0,2]⟩
   refine DP.e0 zr (RL.bE (hg:=(cg ab)) (f:=(fun x=>x)) 1 j zr Fd.self vt fun a7 j=>(DP.d0 (DP.B5 1 zr (cg ab) j zr rB oy fun bu j=>(DP.zg p0.bV 0 zr (cg ab) j A2 fun bw a378 bz j=>(DP.e1 (vi ad) zr (fun w=>RL.move (vi ad) (cg ab) DP.d1) (DP.e1 (vi (IntKind.wrap .i64 ((ad:Int) - 1))) zr (fun w=>RL.gl (hg:=(cg ab)) (ad:Int) 1 DP.d1) ?_))))))
   obtain⟨a8,a9,o⟩:=bd o
   refine DP.v7 (hg:=(cg ab)) 1 zr j FP a9 fun b0 j=>(DP.zg a8 0 zr (cg ab) j vt fun ba a383 b1 j=>(DP.e2 zr ?_))
   obtain⟨b2,bb,o⟩:=bd o
   refine RL.call (cg ab) zr JA [a7] zr (aD (pG N (i0:=6) j zr bb) ?_)
   rintro bc w j
   refine DP.d2 (⟨⟨zt,j.iq 4⟩,j.iq 1⟩) (DP.e2 zr ?_)
   obtain⟨b3,bf,o⟩:=bd o
   refine RL.call (cg ab) zr JA [ba] zr (aD (pG N (i0:=2) j zr bf) ?_)
   rintro bg w j
   refine DP.d2 (⟨⟨zt,j.iq 5⟩,j.iq 2⟩) (DP.e2 zr ?_)
   obtain⟨av,bh,o⟩:=bd o
   refine RL.call (cg ab) zr Md [bc,bg] zr (aD (tc N (i0:=1) (i1:=0) j zr zr bh) ?_)
   rintro _ w ⟨rfl,j⟩
   refine DP.d2 (⟨⟨zt,j.iq 5⟩,j.iq 2⟩) (DP.e0 zr (RL.kD av 0 (cg ab) (aZ zr (fL ab (vb (decide (av<=0))) (aZ zr (aQ (vb (decide (av<=0))) (DP.d0 ?_)))))))
   have j:=j.pl 12 [0,1,3,4,6,7,8,9,10,11]
   refine DP.z ?_
   obtain rfl:=oi o
   exact⟨rfl,j.sp 10 [7,9]⟩
  rintro _ w ⟨O,rfl,j⟩
  refine aH (dU hb (fun hc hb=>?_) fun hc hb=>?_)
  rotate_left
  ·refine RC.skip (bM (bM (aH (RC.region (RL.inc hk hm (mv (vi ((ad+1:Nat):Int)) (RL.nil ?_)))))))
   obtain rfl:=oi hb
   exact⟨rfl,j.sp 2 [0,1]⟩
  refine RC.sr (aQ (vi 8) (RL.nt (RC.rb (ot (bT ?_)))))
  obtain rfl:=oi hb
  exact⟨rfl,bX ⟨rfl,j.drop 2⟩⟩
 ·intro r U w e hK
  subst e
  refine bT ?_
  obtain rfl:=oi hb
  exact hK
 rintro ak _ w rfl ⟨O,rfl,j⟩
 rw [Fo.dA] at hb
 refine aH (RC.sr (aQ (vi 0) (RL.nt (RC.ret ?_))))
 obtain rfl:=oi hb
 exact bX ⟨rfl,j.drop 2⟩
theorem r7 (o:Holds E w V) (j:lU N p0 p1 p2 p3=some res):
    Calls bO 43 [(vi p0),(vi p1),(vi p2),(vi p3)].toArray w (gW (aW E V res)):=by
 unfold lU at j
 refine enter Tryz.func43 zr zr (RC.sr (aQ (vi 0) (RL.ns (mv (vi p2) (mv (vi p1) (RL.gl p2 p1 (RL.gl (IntKind.wrap .i64 (p2 - p1)) 1 (mv (vi p0) ?_))))))))
 refine mv (vi p3) (RL.gl p0 p3 (RL.gl (IntKind.wrap .i64 (p0 - p3)) 1 (RL.LP (a:=0) (b:=(IntKind.wrap .i64 ((IntKind.wrap .i64 (p2 - p1))+1))) (c:=(IntKind.wrap .i64 ((IntKind.wrap .i64 (p0 - p3))+1))) zt zr zr zr zr (aQ (vi (if (if 0< (IntKind.wrap .i64 ((IntKind.wrap .i64 (p2 - p1))+1)) then (IntKind.wrap .i64 ((IntKind.wrap .i64 (p2 - p1))+1)) else 0)< (IntKind.wrap .i64 ((IntKind.wrap .i64 (p0 - p3))+1)) then (IntKind.wrap .i64 ((IntKind.wrap .i64 (p0 - p3))+1)) else (if 0< (IntKind.wrap .i64 ((IntKind.wrap .i64 (p2 - p1))+1)) then (IntKind.wrap .i64 ((IntKind.wrap .i64 (p2 - p1))+1)) else 0))) (RL.nt (RC.ret ?_))))))
 obtain rfl:=oi j
 exact bX ⟨rfl,o.drop 0⟩
theorem Cf {p0 p1:aI} (j:Holds E w V) (h0:V[i0]? =some (rd v0 p0)) (h1:V[i1]? =some (rd v1 p1)) (o:rQ N p0 p1=some res):
    Calls bO 18 [v0,v1].toArray w (gW (aW E V res)):=by
 unfold rQ at o
 refine enter Tryz.func18 zr zr ?_
 have j:=(j.dup (i0+0) h0).dup (i1+1) h1
 refine RC.sr (RL.dJ 1 v0 j zr fun aa w j=>?_)
 refine RL.dJ 1 v1 j zr fun ab w j=>?_
 refine aQ (vi 0) (RL.nq ?_)
 have j:=j.drew
 refine RC.Et (fun w=>Holds E w ([bx 59 ab p1,bx 59 aa p0]++V)) mixed zr [0,0,0,0,0,0,0,0,2,1,1,1,1,1,1,1,1,2,0,0] [0,1,2,3,4,5,6,7,9,10,11,12,13,14,15,16,8,17,18,19] (j.pk 4 [0,1]) (DP.e0 zr (RL.aX zr ir (aZ zr (RL.aN 1 j zr dL cJ (aZ zr (RL.aX zr jl (aZ zr (RL.aN 1 j zr eE cJ ?_))))))))
 refine aZ zr (RL.aX zr ir (aZ zr (RL.aN 0 j zr dL cJ (aZ zr (RL.aX zr jl (aZ zr (RL.aN 0 j zr eE cJ (DP.d0 ?_))))))))
 refine DP.e1 (vp aa 1) zr (fun w=>RL.aX zr g8 DP.d1) (DP.Ic (vi p0.Y0) zr (fun w j=>RL.aN 1 j zr dF cJ DP.d1) (DP.e1 (vp aa 3) zr (fun w=>RL.aX zr kq DP.d1) (DP.Ic (vi p0.Y1) zr (fun w j=>RL.aN 1 j zr fF cJ DP.d1) (DP.e1 (vp ab 1) zr (fun w=>RL.aX zr g8 DP.d1) (DP.Ic (vi p1.Y0) zr (fun w j=>RL.aN 0 j zr dF cJ DP.d1) (DP.e1 (vp ab 3) zr (fun w=>RL.aX zr kq DP.d1) (DP.Ic (vi p1.Y1) zr (fun w j=>RL.aN 0 j zr fF cJ DP.d1) (DP.e2 zr ?_))))))))
 obtain⟨ad,af,o⟩:=bd o
 refine RL.call zt zr KK [(vi p0.X0),(vi p0.X1),(vi p1.X0),(vi p1.X1)] zr (aD (r7 N (p0:=p0.X0) (p1:=p0.X1) (p2:=p1.X0) (p3:=p1.X1) j af) ?_)
 rintro _ w ⟨rfl,j⟩
 refine DP.d2 (j.pk 4 [0,1]) (DP.e2 zr ?_)
 obtain⟨ae,ag,o⟩:=bd o
 refine RL.call zt zr KK [(vi p0.Y0),(vi p0.Y1),(vi p1.Y0),(vi p1.Y1)] zr (aD (r7 N (p0:=p0.Y0) (p1:=p0.Y1) (p2:=p1.Y0) (p3:=p1.Y1) j ag) ?_)
 rintro _ w ⟨rfl,j⟩
 refine DP.d2 (j.pk 4 [0,1]) (DP.e0 zr (RL.max ad ae (aZ zr (aQ (vi (if ad<ae then ae else ad)) (DP.d0 (DP.z (aH (RC.ret ?_))))))))
 obtain rfl:=oi o
 exact bX ⟨rfl,j.drop 4⟩
end Go.Gk
