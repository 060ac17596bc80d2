/-
  Printed texts: Go functions as plain functions, and that they are. No statement of the seed is proved here.
-/
import Derived.Test.YtmmiladckdcjeadGreatDoorG1
import Derived.Test.YtmmiladckdcjeadGreatDoorA2
set_option linter.unusedVariables false
set_option linter.unusedSimpArgs false
set_option linter.unusedSectionVars false
set_option maxRecDepth 100000
set_option maxHeartbeats 4000000
namespace Go.Gk
open Go Go.Proofs
variable (N:Nat) {E w:World} {i0 i1:Nat} {p0 p1 p2 p3 res:Int} {v0 v1:Value} {V:List HP}
theorem jr {p0:cE} {res:aI} (j:Holds E w V) (h0:V[i0]? =some (rd v0 p0)) (o:gJ N p0=some res):
    Calls bN 31 [v0].toArray w (gQ (oJ E V res)):=by
 unfold gJ at o
 refine enter Tryz.func31 zr zr ?_
 have j:=j.dup (i0+0) h0
 refine RC.sr (RL.dK 0 v0 j zr fun aa w j=>?_)
 refine RL.alloc j om.z fun ab w j=>?_
 refine RL.nq (RC.yh mixed ?_)
 have j:=j.drew
 refine RO.go (RL.aZ zr yk (RO.nx (RL.aZ zr wz (RO.nx (RL.aM (f:=(fun x=>x.At.X)) 1 j zr (Fd.comp (f:=fun(x:cE)=>x.At) (fun(x:eQ)=>x.X) qs nN) cG (RO.nx (RL.aZ zr rP (RO.nx ?_))))))))
 refine RL.aM 1 j zr l6 cG (RO.nx (RL.quo p0.dH 2 (RO.nx (RL.fO p0.At.X (IntKind.wrap .i64 (Int.tdiv p0.dH 2)) (RO.nx (RL.aZ zr yk (RO.nx (RL.aZ zr wA ?_))))))))
 refine RO.nx (RL.aM (f:=(fun x=>x.At.Y)) 1 j zr (Fd.comp (f:=fun(x:cE)=>x.At) (fun(x:eQ)=>x.Y) qs nO) cG (RO.nx (RL.aZ zr rP (RO.nx (RL.aM 1 j zr l6 cG (RO.nx (RL.quo p0.dH 2 (RO.nx ?_))))))))
 refine RL.fO p0.At.Y (IntKind.wrap .i64 (Int.tdiv p0.dH 2)) (RO.nx (aP (vi (IntKind.wrap .i64 (p0.At.X - (IntKind.wrap .i64 (Int.tdiv p0.dH 2))))) (RO.nx (aP (vi (IntKind.wrap .i64 (p0.At.Y - (IntKind.wrap .i64 (Int.tdiv p0.dH 2))))) (RO.last (aG (RC.sr (mv (vi (IntKind.wrap .i64 (p0.At.X - (IntKind.wrap .i64 (Int.tdiv p0.dH 2))))) ?_))))))))
 refine mv (vi (IntKind.wrap .i64 (p0.At.Y - (IntKind.wrap .i64 (Int.tdiv p0.dH 2))))) (mv (vi (IntKind.wrap .i64 (p0.At.X - (IntKind.wrap .i64 (Int.tdiv p0.dH 2))))) (RL.aZ zr rP (RL.aM 1 j zr l6 cG (RL.fO (IntKind.wrap .i64 (p0.At.X - (IntKind.wrap .i64 (Int.tdiv p0.dH 2)))) p0.dH (mv (vi (IntKind.wrap .i64 (p0.At.Y - (IntKind.wrap .i64 (Int.tdiv p0.dH 2))))) (RL.aZ zr rP (RL.aM 1 j zr l6 cG (RL.fO (IntKind.wrap .i64 (p0.At.Y - (IntKind.wrap .i64 (Int.tdiv p0.dH 2)))) p0.dH ?_))))))))
 have j:=((j.sc Int (IntKind.wrap .i64 (p0.At.X - (IntKind.wrap .i64 (Int.tdiv p0.dH 2))))).sc Int (IntKind.wrap .i64 (p0.At.Y - (IntKind.wrap .i64 (Int.tdiv p0.dH 2))))).sc Int (IntKind.wrap .i64 ((IntKind.wrap .i64 (p0.At.X - (IntKind.wrap .i64 (Int.tdiv p0.dH 2))))+p0.dH))
 have j:=j.sc Int (IntKind.wrap .i64 ((IntKind.wrap .i64 (p0.At.Y - (IntKind.wrap .i64 (Int.tdiv p0.dH 2))))+p0.dH))
 refine RL.build (⟨(IntKind.wrap .i64 (p0.At.X - (IntKind.wrap .i64 (Int.tdiv p0.dH 2)))),(IntKind.wrap .i64 (p0.At.Y - (IntKind.wrap .i64 (Int.tdiv p0.dH 2)))),(IntKind.wrap .i64 ((IntKind.wrap .i64 (p0.At.X - (IntKind.wrap .i64 (Int.tdiv p0.dH 2))))+p0.dH)),(IntKind.wrap .i64 ((IntKind.wrap .i64 (p0.At.Y - (IntKind.wrap .i64 (Int.tdiv p0.dH 2))))+p0.dH))⟩:aI) trivial rfl j [(0,(vi (IntKind.wrap .i64 (p0.At.X - (IntKind.wrap .i64 (Int.tdiv p0.dH 2)))))),(1,(vi (IntKind.wrap .i64 (p0.At.Y - (IntKind.wrap .i64 (Int.tdiv p0.dH 2)))))),(2,(vi (IntKind.wrap .i64 ((IntKind.wrap .i64 (p0.At.X - (IntKind.wrap .i64 (Int.tdiv p0.dH 2))))+p0.dH)))),(3,(vi (IntKind.wrap .i64 ((IntKind.wrap .i64 (p0.At.Y - (IntKind.wrap .i64 (Int.tdiv p0.dH 2))))+p0.dH))))] rfl DI rfl (fun M hs g=>by have h:=tx M;exact cS.cons (f:=fun(x:aI) y=>{x with X0:=y}) h oY (g.sat 3 _ rfl).1 fun _ h=>cS.cons (f:=fun(x:aI) y=>{x with Y0:=y}) h qo (g.sat 2 _ rfl).1 fun _ h=>cS.cons (f:=fun(x:aI) y=>{x with X1:=y}) h oZ (g.sat 1 _ rfl).1 fun _ h=>cS.cons (f:=fun(x:aI) y=>{x with Y1:=y}) h qp (g.sat 0 _ rfl).1 fun _ h=>cS.nil h) fun ad j=>?_
 refine RL.bZ 5 j 0 zr iq fun w j=>?_
 refine RL.nt (RC.ret ?_)
 obtain rfl:=oi o
 exact Gf 5 j iq fun ae j=>(j.pk 9 [0])
theorem vQ {p0: (List aA)} {res:aI} (j:Holds E w V) (h0:V[i0]? =some (rd v0 p0)) (hb:m9 N p0=some res):
    Calls bN 94 [v0].toArray w (gQ (oJ E V res)):=by
 unfold m9 at hb
 refine enter Tryz.func94 zr zr ?_
 have j:=j.dup (i0+0) h0
 refine RC.sr (RL.alloc j om.z fun bf w j=>?_)
 refine RL.nq ?_
 obtain⟨bj,bo,hb⟩:=bd hb
 obtain⟨bb,bp,hb⟩:=bd hb
 obtain⟨a8,bq,hb⟩:=bd hb
 obtain⟨bk,br,hb⟩:=bd hb
 obtain⟨bc,bt,hb⟩:=bd hb
 obtain⟨a9,bu,hb⟩:=bd hb
 refine RC.ER E V mixed [1,0,0,0,0,0,1,0,0,0,1,0,0,0,0,0,1,1,0,1,0,0,0,0,0,0] [1,2,3,4,7,8,11,12,13,14,20,21,23,24,25] (fun(x:Value×Value×Value×Value×Value×Value×Value×Value×Value×Value×Value×Value×Value×Nat)=>(fun ah ai aj ak al an ao aq ar au av aw ax ae=>[(0,6,v0),(1,7,ah),(2,8,ai),(3,9,aj),(4,10,ak),(5,11,(vi bb)),(6,12,v0),(7,13,al),(8,14,an),(9,15,(vi a8.Y0)),(10,16,v0),(11,17,ao),(12,18,aq),(13,19,ar),(14,20,au),(15,21,(vi bc)),(16,22,v0),(17,23,v0),(18,24,(vi p0.length)),(19,25,(vi (IntKind.wrap .i64 ((p0.length:Int) - 1)))),(20,26,av),(21,27,aw),(22,28,(vi a9.Y1)),(23,29,ax),(24,3,(vp ae 0))]) x.1 x.2.1 x.2.2.1 x.2.2.2.1 x.2.2.2.2.1 x.2.2.2.2.2.1 x.2.2.2.2.2.2.1 x.2.2.2.2.2.2.2.1 x.2.2.2.2.2.2.2.2.1 x.2.2.2.2.2.2.2.2.2.1 x.2.2.2.2.2.2.2.2.2.2.1 x.2.2.2.2.2.2.2.2.2.2.2.1 x.2.2.2.2.2.2.2.2.2.2.2.2.1 x.2.2.2.2.2.2.2.2.2.2.2.2.2) [(0,v0),(2,vp bf 0)] [] (fun(D:Nat->Bool) (x:Value×Value×Value×Value×Value×Value×Value×Value×Value×Value×Value×Value×Value×Nat)=>(fun ah ai aj ak al an ao aq ar au av aw ax ae=>[bif D 0 then (pt ah bj) else aX,bif D 1 then (pt ai bj.Xs) else aX,bif D 2 then (rd aj bj.Xs) else aX,bif D 3 then (pt ak bb) else aX,bif D 4 then (pt al a8) else aX,bif D 5 then (pt an a8.Y0) else aX,bif D 6 then (pt ao bk) else aX,bif D 7 then (pt aq bk.Xs) else aX,bif D 8 then (rd ar bk.Xs) else aX,bif D 9 then (pt au bc) else aX,bif D 10 then (pt av a9) else aX,bif D 11 then (pt aw a9.Y1) else aX,bif D 12 then (rd ax (⟨bb,a8.Y0,bc,a9.Y1⟩:aI)) else aX,bif D 14 then (bx 73 ae (⟨bb,a8.Y0,bc,a9.Y1⟩:aI)) else (bif D 13 then (raw 73 ae 4) else aX),raw 73 bf 4,rd v0 p0]) x.1 x.2.1 x.2.2.1 x.2.2.2.1 x.2.2.2.2.1 x.2.2.2.2.2.1 x.2.2.2.2.2.2.1 x.2.2.2.2.2.2.2.1 x.2.2.2.2.2.2.2.2.1 x.2.2.2.2.2.2.2.2.2.1 x.2.2.2.2.2.2.2.2.2.2.1 x.2.2.2.2.2.2.2.2.2.2.2.1 x.2.2.2.2.2.2.2.2.2.2.2.2.1 x.2.2.2.2.2.2.2.2.2.2.2.2.2) (fun x=>by kernel_rfl) ?_ ⟨fun _=>je gn,?_,?_,?_,?_,?_,fun _=>je gn,?_,?_,?_,fun _=>je gn,?_,?_,?_,?_,?_,fun _=>je gn,fun _=>je gn,?_,fun _=>Kc gn rfl,?_,?_,?_,?_,?_,?_,trivial⟩ ?_
 ·have j:=((((((((((((j.drew).aX).aX).aX).aX).aX).aX).aX).aX).aX).aX).aX).aX
  have j:=(j.aX).aX
  exact⟨(undef,undef,undef,undef,undef,undef,undef,undef,undef,undef,undef,undef,undef,0),eU.none,(DB zr),zt,j⟩
 ·rintro D U w hD o ag ⟨⟨ah,ai,aj,ak,al,an,ao,aq,ar,au,av,aw,ax,ae⟩,hv,ha,_,j⟩
  obtain⟨O,rfl⟩:=(ac (hv.at 0 rfl (o.1 rfl)) az).eN
  have j:=j.bX 0 hD
  refine RL.bM 15 j o0 bo fun bw j=>?_
  have j:=(j.pl 17 [0,2,3,4,5,6,7,8,9,10,11,12,13,14,15,16]).cD 0 true rfl aX
  exact RL.nil ⟨rfl,(bw,ai,aj,ak,al,an,ao,aq,ar,au,av,aw,ax,ae),hv.pu 1,ha.u,zt,j⟩
 ·rintro D U w hD o ag ⟨⟨ah,ai,aj,ak,al,an,ao,aq,ar,au,av,aw,ax,ae⟩,hv,ha,_,j⟩
  obtain⟨O,rfl⟩:=(ac (hv.at 1 rfl (o.1 rfl)) az).eN
  have j:=(j.cC 0 (o.1 rfl)).bX 1 hD
  refine RL.dN 0 j zr nP dS fun bz j=>?_
  have j:=((j.pl 17 [1,0,3,4,5,6,7,8,9,10,11,12,13,14,15,16]).cD 0 (D 1) (o.1 rfl) aX).cD 1 true rfl aX
  exact RL.nil ⟨rfl,(ah,bz,aj,ak,al,an,ao,aq,ar,au,av,aw,ax,ae),hv.pu 2,ha.u,zt,j⟩
 ·rintro D U w hD o ag ⟨⟨ah,ai,aj,ak,al,an,ao,aq,ar,au,av,aw,ax,ae⟩,hv,ha,_,j⟩
  obtain⟨O,rfl⟩:=(ac (hv.at 2 rfl (o.1 rfl)) az).eN
  have j:=(j.cC 1 (o.1 rfl)).bX 2 hD
  refine RL.bF 1 bj.Xs j fM fun b0 j=>?_
  have j:=((j.pl 17 [1,2,0,4,5,6,7,8,9,10,11,12,13,14,15,16]).cD 1 (D 2) (o.1 rfl) aX).cD 2 true rfl aX
  exact RL.nil ⟨rfl,(ah,ai,b0,ak,al,an,ao,aq,ar,au,av,aw,ax,ae),hv.pu 3,ha.u,zt,j⟩
 ·rintro D U w hD o ag ⟨⟨ah,ai,aj,ak,al,an,ao,aq,ar,au,av,aw,ax,ae⟩,hv,ha,_,j⟩
  obtain⟨O,rfl⟩:=(ac (hv.at 3 rfl (o.1 rfl)) az).eN
  have j:=(j.cC 2 (o.1 rfl)).bX 3 hD
  refine RL.bM 2 j eD bp fun b1 j=>?_
  have j:=((j.pl 17 [1,2,3,0,5,6,7,8,9,10,11,12,13,14,15,16]).cD 2 (D 3) (o.1 rfl) aX).cD 3 true rfl aX
  exact RL.nil ⟨rfl,(ah,ai,aj,b1,al,an,ao,aq,ar,au,av,aw,ax,ae),hv.pu 4,ha.u,zt,j⟩
 ·rintro D U w hD o ag ⟨⟨ah,ai,aj,ak,al,an,ao,aq,ar,au,av,aw,ax,ae⟩,hv,ha,_,j⟩
  obtain⟨O,rfl⟩:=(ac (hv.at 4 rfl (o.1 rfl)) az).eN
  have j:=j.cC 3 (o.1 rfl)
  refine RL.bB bb 3 j cG ?_
  have j:=j.cD 3 (D 4) (o.1 rfl) aX
  exact RL.nil ⟨rfl,(ah,ai,aj,ak,al,an,ao,aq,ar,au,av,aw,ax,ae),hv.pu 5,ha.u,zt,j⟩
 ·rintro D U w hD o ag ⟨⟨ah,ai,aj,ak,al,an,ao,aq,ar,au,av,aw,ax,ae⟩,hv,ha,_,j⟩
  obtain⟨O,rfl⟩:=(ac (hv.at 6 rfl (o.1 rfl)) az).eN
  have j:=j.bX 4 hD
  refine RL.bM 15 j o0 bq fun b2 j=>?_
  have j:=(j.pl 17 [1,2,3,4,0,6,7,8,9,10,11,12,13,14,15,16]).cD 4 true rfl aX
  exact RL.nil ⟨rfl,(ah,ai,aj,ak,b2,an,ao,aq,ar,au,av,aw,ax,ae),hv.pu 7,ha.u,zt,j⟩
 ·rintro D U w hD o ag ⟨⟨ah,ai,aj,ak,al,an,ao,aq,ar,au,av,aw,ax,ae⟩,hv,ha,_,j⟩
  obtain⟨O,rfl⟩:=(ac (hv.at 7 rfl (o.1 rfl)) az).eN
  have j:=(j.cC 4 (o.1 rfl)).bX 5 hD
  refine RL.dN 4 j zr rO gK fun b3 j=>?_
  have j:=((j.pl 17 [1,2,3,4,5,0,7,8,9,10,11,12,13,14,15,16]).cD 4 (D 7) (o.1 rfl) aX).cD 5 true rfl aX
  exact RL.nil ⟨rfl,(ah,ai,aj,ak,al,b3,ao,aq,ar,au,av,aw,ax,ae),hv.pu 8,ha.u,zt,j⟩
 ·rintro D U w hD o ag ⟨⟨ah,ai,aj,ak,al,an,ao,aq,ar,au,av,aw,ax,ae⟩,hv,ha,_,j⟩
  obtain⟨O,rfl⟩:=(ac (hv.at 8 rfl (o.1 rfl)) az).eN
  have j:=j.cC 5 (o.1 rfl)
  refine RL.bB a8.Y0 5 j cG ?_
  have j:=j.cD 5 (D 8) (o.1 rfl) aX
  exact RL.nil ⟨rfl,(ah,ai,aj,ak,al,an,ao,aq,ar,au,av,aw,ax,ae),hv.pu 9,ha.u,zt,j⟩
 ·rintro D U w hD o ag ⟨⟨ah,ai,aj,ak,al,an,ao,aq,ar,au,av,aw,ax,ae⟩,hv,ha,_,j⟩
  obtain⟨O,rfl⟩:=(ac (hv.at 10 rfl (o.1 rfl)) az).eN
  have j:=j.bX 6 hD
  refine RL.bM 15 j o0 br fun b4 j=>?_
  have j:=(j.pl 17 [1,2,3,4,5,6,0,8,9,10,11,12,13,14,15,16]).cD 6 true rfl aX
  exact RL.nil ⟨rfl,(ah,ai,aj,ak,al,an,b4,aq,ar,au,av,aw,ax,ae),hv.pu 11,ha.u,zt,j⟩
 ·rintro D U w hD o ag ⟨⟨ah,ai,aj,ak,al,an,ao,aq,ar,au,av,aw,ax,ae⟩,hv,ha,_,j⟩
  obtain⟨O,rfl⟩:=(ac (hv.at 11 rfl (o.1 rfl)) az).eN
  have j:=(j.cC 6 (o.1 rfl)).bX 7 hD
  refine RL.dN 6 j zr nP dS fun b5 j=>?_
  have j:=((j.pl 17 [1,2,3,4,5,6,7,0,9,10,11,12,13,14,15,16]).cD 6 (D 11) (o.1 rfl) aX).cD 7 true rfl aX
  exact RL.nil ⟨rfl,(ah,ai,aj,ak,al,an,ao,b5,ar,au,av,aw,ax,ae),hv.pu 12,ha.u,zt,j⟩
 ·rintro D U w hD o ag ⟨⟨ah,ai,aj,ak,al,an,ao,aq,ar,au,av,aw,ax,ae⟩,hv,ha,_,j⟩
  obtain⟨O,rfl⟩:=(ac (hv.at 12 rfl (o.1 rfl)) az).eN
  have j:=(j.cC 7 (o.1 rfl)).bX 8 hD
  refine RL.bF 7 bk.Xs j fM fun b6 j=>?_
  have j:=((j.pl 17 [1,2,3,4,5,6,7,8,0,10,11,12,13,14,15,16]).cD 7 (D 12) (o.1 rfl) aX).cD 8 true rfl aX
  exact RL.nil ⟨rfl,(ah,ai,aj,ak,al,an,ao,aq,b6,au,av,aw,ax,ae),hv.pu 13,ha.u,zt,j⟩
 ·rintro D U w hD o ag ⟨⟨ah,ai,aj,ak,al,an,ao,aq,ar,au,av,aw,ax,ae⟩,hv,ha,_,j⟩
  obtain⟨O,rfl⟩:=(ac (hv.at 13 rfl (o.1 rfl)) az).eN
  have j:=(j.cC 8 (o.1 rfl)).bX 9 hD
  refine RL.bM 8 j eD bt fun b7 j=>?_
  have j:=((j.pl 17 [1,2,3,4,5,6,7,8,9,0,11,12,13,14,15,16]).cD 8 (D 13) (o.1 rfl) aX).cD 9 true rfl aX
  exact RL.nil ⟨rfl,(ah,ai,aj,ak,al,an,ao,aq,ar,b7,av,aw,ax,ae),hv.pu 14,ha.u,zt,j⟩
 ·rintro D U w hD o ag ⟨⟨ah,ai,aj,ak,al,an,ao,aq,ar,au,av,aw,ax,ae⟩,hv,ha,_,j⟩
  obtain⟨O,rfl⟩:=(ac (hv.at 14 rfl (o.1 rfl)) az).eN
  have j:=j.cC 9 (o.1 rfl)
  refine RL.bB bc 9 j cG ?_
  have j:=j.cD 9 (D 14) (o.1 rfl) aX
  exact RL.nil ⟨rfl,(ah,ai,aj,ak,al,an,ao,aq,ar,au,av,aw,ax,ae),hv.pu 15,ha.u,zt,j⟩
 ·rintro D U w hD o ag ⟨⟨ah,ai,aj,ak,al,an,ao,aq,ar,au,av,aw,ax,ae⟩,hv,ha,_,j⟩
  obtain⟨O,rfl⟩:=(ac (hv.at 17 rfl (o.1 rfl)) az).eN
  refine RL.bC 15 p0 j vI ?_
  exact RL.nil ⟨rfl,(ah,ai,aj,ak,al,an,ao,aq,ar,au,av,aw,ax,ae),hv.pu 18,ha.u,zt,j⟩
 ·rintro D U w hD o ag ⟨⟨ah,ai,aj,ak,al,an,ao,aq,ar,au,av,aw,ax,ae⟩,hv,ha,_,j⟩
  obtain⟨O,rfl⟩:=(ac (hv.at 16 rfl (o.1 rfl)) (ac (hv.at 19 rfl (o.2.1 rfl)) az)).eN
  have j:=j.bX 10 hD
  refine RL.bM 15 j o0 bu fun b8 j=>?_
  have j:=(j.pl 17 [1,2,3,4,5,6,7,8,9,10,0,12,13,14,15,16]).cD 10 true rfl aX
  exact RL.nil ⟨rfl,(ah,ai,aj,ak,al,an,ao,aq,ar,au,b8,aw,ax,ae),hv.pu 20,ha.u,zt,j⟩
 ·rintro D U w hD o ag ⟨⟨ah,ai,aj,ak,al,an,ao,aq,ar,au,av,aw,ax,ae⟩,hv,ha,_,j⟩
  obtain⟨O,rfl⟩:=(ac (hv.at 20 rfl (o.1 rfl)) az).eN
  have j:=(j.cC 10 (o.1 rfl)).bX 11 hD
  refine RL.dN 10 j zr pL fQ fun b9 j=>?_
  have j:=((j.pl 17 [1,2,3,4,5,6,7,8,9,10,11,0,13,14,15,16]).cD 10 (D 20) (o.1 rfl) aX).cD 11 true rfl aX
  exact RL.nil ⟨rfl,(ah,ai,aj,ak,al,an,ao,aq,ar,au,av,b9,ax,ae),hv.pu 21,ha.u,zt,j⟩
 ·rintro D U w hD o ag ⟨⟨ah,ai,aj,ak,al,an,ao,aq,ar,au,av,aw,ax,ae⟩,hv,ha,_,j⟩
  obtain⟨O,rfl⟩:=(ac (hv.at 21 rfl (o.1 rfl)) az).eN
  have j:=j.cC 11 (o.1 rfl)
  refine RL.bB a9.Y1 11 j cG ?_
  have j:=j.cD 11 (D 21) (o.1 rfl) aX
  exact RL.nil ⟨rfl,(ah,ai,aj,ak,al,an,ao,aq,ar,au,av,aw,ax,ae),hv.pu 22,ha.u,zt,j⟩
 ·rintro D U w hD o ag ⟨⟨ah,ai,aj,ak,al,an,ao,aq,ar,au,av,aw,ax,ae⟩,hv,ha,_,j⟩
  obtain⟨O,rfl⟩:=(ac (hv.at 5 rfl (o.1 rfl)) (ac (hv.at 9 rfl (o.2.1 rfl)) (ac (hv.at 15 rfl (o.2.2.1 rfl)) (ac (hv.at 22 rfl (o.2.2.2.1 rfl)) az)))).eN
  have j:=((((j.bX 12 hD).sc Int bb).sc Int a8.Y0).sc Int bc).sc Int a9.Y1
  refine RL.build (⟨bb,a8.Y0,bc,a9.Y1⟩:aI) trivial rfl j [(0,vi bb),(1,vi a8.Y0),(2,vi bc),(3,vi a9.Y1)] rfl DI rfl (fun M hs g=>by have h:=tx M;exact cS.cons (f:=fun(x:aI) y=>{x with X0:=y}) h oY (g.sat 3 _ rfl).1 fun _ h=>cS.cons (f:=fun(x:aI) y=>{x with Y0:=y}) h qo (g.sat 2 _ rfl).1 fun _ h=>cS.cons (f:=fun(x:aI) y=>{x with X1:=y}) h oZ (g.sat 1 _ rfl).1 fun _ h=>cS.cons (f:=fun(x:aI) y=>{x with Y1:=y}) h qp (g.sat 0 _ rfl).1 fun _ h=>cS.nil h) fun ca j=>?_
  have j:=(j.pl 21 [5,6,7,8,9,10,11,12,13,14,15,16,0,18,19,20]).cD 12 true rfl aX
  exact RL.nil ⟨rfl,(ah,ai,aj,ak,al,an,ao,aq,ar,au,av,aw,ca,ae),hv.pu 23,ha.u,zt,j⟩
 ·rintro D U w hD o ag ⟨⟨ah,ai,aj,ak,al,an,ao,aq,ar,au,av,aw,ax,ae⟩,hv,ha,_,j⟩
  obtain⟨O,rfl⟩:=(az (U:=U)).eN
  have j:=(j.bX 13 (nh ag hD 25)).bX 13 hD
  refine RL.alloc j om.z fun bl w j=>?_
  have j:=((j.pl 17 [1,2,3,4,5,6,7,8,9,10,11,12,13,0,15,16]).cD 13 true rfl aX).eY 13 (D 25) (nh ag hD 25) (bx 73 bl (⟨bb,a8.Y0,bc,a9.Y1⟩:aI))
  exact RL.nil ⟨rfl,(ah,ai,aj,ak,al,an,ao,aq,ar,au,av,aw,ax,bl),hv.pu 24,ha.u,zt,j⟩
 ·rintro D U w hD o ag ⟨⟨ah,ai,aj,ak,al,an,ao,aq,ar,au,av,aw,ax,ae⟩,hv,ha,_,j⟩
  obtain⟨O,rfl⟩:=(ac (hv.at 23 rfl (o.2.1 rfl)) (ac (hv.at 24 rfl (o.1 rfl)) az)).eN
  have j:=((j.cC 12 (o.2.1 rfl)).bX 13 hD).cC 13 (o.1 rfl)
  refine RL.bZ 13 j 12 zr iq fun w j=>?_
  have j:=(j.cD 12 (D 23) (o.2.1 rfl) aX).cD 13 true rfl (bif D 24 then (raw 73 ae 4) else aX)
  exact RL.nil ⟨rfl,(ah,ai,aj,ak,al,an,ao,aq,ar,au,av,aw,ax,ae),hv.n1,ha,zt,j⟩
 rintro D U w a6 ⟨⟨ah,ai,aj,ak,al,an,ao,aq,ar,au,av,aw,ax,ae⟩,hv,ha,_,j⟩
 have j:=((((((j.cC 0 (jQ a6 1)).cC 1 (jQ a6 2)).cC 2 (jQ a6 3)).cC 3 (jQ a6 4)).cC 4 (jQ a6 7)).cC 5 (jQ a6 8)).cC 6 (jQ a6 11)
 have j:=((((((j.cC 7 (jQ a6 12)).cC 8 (jQ a6 13)).cC 9 (jQ a6 14)).cC 10 (jQ a6 20)).cC 11 (jQ a6 21)).cC 12 (jQ a6 23)).cC 13 (jQ a6 25)
 obtain⟨O,rfl⟩:=(ac (hv.at 24 rfl (jQ a6 24)) (ac (ha.at 0 rfl) (ac (ha.at 1 rfl) az))).eN
 refine aG (RC.seq (RC.sr (mv v0 (RL.bC 15 p0 j vI (mv (vi 0) (RL.nt ?_))))))
 obtain⟨af,hN,hb⟩:=bd hb
 refine RC.fold (fun(bg:Nat) (af:aI)=>SH E V [(2,vp bf 0),(3,vp ae 0),(30,v0),(31,vi p0.length),(32,vi bg)] [raw 73 bf 4,bx 73 ae af,rd v0 p0]) (fun(af:aI)=>SH E V [(2,vp bf 0),(3,vp ae 0)] [raw 73 bf 4,bx 73 ae af,rd v0 p0]) hN ?_ ?_ ?_ ?_
 ·exact j.sp 16 [14,13,15]
 ·rintro hm af _ w ⟨O,rfl,j⟩
  refine RC.sr (ic ((p0.length:Int)) ((p0.length:Int)) (RL.nq (RC.fw sf (RC.ex ?_))))
  exact⟨rfl,j.sp 3 [0,1,2]⟩
 ·rintro hm bg af s' _ w hk ⟨O,rfl,j⟩ hb
  refine RC.sr (ic ((bg:Int)) ((p0.length:Int)) (RL.nq (RC.fu (sd hk) (RC.ss (RC.bs ?_)))))
  obtain⟨ba,cc,hb⟩:=bd hb
  refine RL.bM 2 j o0 cc fun cd j=>(RL.bF 0 ba j Cs fun cf j=>(RL.alloc j Hx.z fun bh w j=>?_))
  refine RL.bZ 0 j 1 zr Cs fun w j=>?_
  refine RL.nt ?_
  obtain⟨a5,cg,hb⟩:=bd hb
  obtain⟨a7,ch,hb⟩:=bd hb
  refine RC.ER E V mixed [1,0,1,0,0,0,0,1,0,1,0,1,0,0,1,0,0,0,1,0,1,0] [3,4,10,12,15,19,21] (fun(x:Value×Value×Value×Value×Value)=>(fun ay a0 a1 a2 a3=>[(0,36,(vp ae 0)),(1,37,(vi af.X0)),(2,38,(vp bh 2)),(3,39,ay),(4,40,a0),(5,41,(vi a5)),(6,42,(vi (if a5<af.X0 then a5 else af.X0))),(7,43,(vp ae 2)),(8,44,(vi af.X1)),(9,45,(vp bh 2)),(10,46,a1),(11,47,(vp bh 2)),(12,48,a2),(13,49,(vi ba.Xs.length)),(14,50,(vi (IntKind.wrap .i64 ((ba.Xs.length:Int) - 1)))),(15,51,a3),(16,52,(vi a7)),(17,53,(vi (if af.X1<a7 then a7 else af.X1))),(18,54,(vp ae 0)),(20,55,(vp ae 2))]) x.1 x.2.1 x.2.2.1 x.2.2.2.1 x.2.2.2.2) [(2,vp bf 0),(3,vp ae 0),(5,vp bh 0),(30,v0),(31,vi p0.length),(32,vi bg)] [] (fun(D:Nat->Bool) (x:Value×Value×Value×Value×Value)=>(fun ay a0 a1 a2 a3=>[bif D 0 then (rd ay ba.Xs) else aX,bif D 1 then (pt a0 a5) else aX,bif D 2 then (rd a1 ba.Xs) else aX,bif D 3 then (rd a2 ba.Xs) else aX,bif D 4 then (pt a3 a7) else aX,bx 81 bh ba,rd cf ba,pt cd ba,raw 73 bf 4,bif D 6 then (bx 73 ae {{af with X0:=(if a5<af.X0 then a5 else af.X0)} with X1:=(if af.X1<a7 then a7 else af.X1)}) else (bif D 5 then (bx 73 ae {af with X0:=(if a5<af.X0 then a5 else af.X0)}) else (bx 73 ae af)),rd v0 p0]) x.1 x.2.1 x.2.2.1 x.2.2.2.1 x.2.2.2.2) (fun x=>by kernel_rfl) ?_ ⟨fun _=>mG gn gO,?_,fun _=>mG gn nP,?_,?_,?_,?_,fun _=>mG gn iX,?_,fun _=>mG gn nP,?_,fun _=>mG gn nP,?_,?_,fun _=>Kc gn rfl,?_,?_,?_,fun _=>mG gn gO,?_,fun _=>mG gn iX,?_,trivial⟩ ?_
  ·have j:=(((((j.drew).aX).aX).aX).aX).aX
   exact⟨(undef,undef,undef,undef,undef),eU.none,(DB zr),zt,j⟩
  ·rintro D U w hD o ag ⟨⟨ay,a0,a1,a2,a3⟩,hv,ha,_,j⟩
   obtain⟨O,rfl⟩:=(ac (hv.at 0 rfl (o.1 rfl)) az).eN
   have j:=(j.bX 9 (nh ag hD 21)).bX 9 (nh ag hD 19)
   refine RL.aM 9 j zr dD cG ?_
   have j:=(j.eY 9 (D 19) (nh ag hD 19) (bx 73 ae {af with X0:=(if a5<af.X0 then a5 else af.X0)})).eY 9 (D 21) (nh ag hD 21) (bx 73 ae {{af with X0:=(if a5<af.X0 then a5 else af.X0)} with X1:=(if af.X1<a7 then a7 else af.X1)})
   exact RL.nil ⟨rfl,(ay,a0,a1,a2,a3),hv.pu 1,ha.u,zt,j⟩
  ·rintro D U w hD o ag ⟨⟨ay,a0,a1,a2,a3⟩,hv,ha,_,j⟩
   obtain⟨O,rfl⟩:=(ac (hv.at 2 rfl (o.1 rfl)) az).eN
   have j:=j.bX 0 hD
   refine RL.bG 5 j zr dS fM fun cj j=>?_
   have j:=(j.pl 12 [0,2,3,4,5,6,7,8,9,10,11]).cD 0 true rfl aX
   exact RL.nil ⟨rfl,(cj,a0,a1,a2,a3),hv.pu 3,ha.u,zt,j⟩
  ·rintro D U w hD o ag ⟨⟨ay,a0,a1,a2,a3⟩,hv,ha,_,j⟩
   obtain⟨O,rfl⟩:=(ac (hv.at 3 rfl (o.1 rfl)) az).eN
   have j:=(j.cC 0 (o.1 rfl)).bX 1 hD
   refine RL.bM 0 j eD cg fun ck j=>?_
   have j:=((j.pl 12 [1,0,3,4,5,6,7,8,9,10,11]).cD 0 (D 3) (o.1 rfl) aX).cD 1 true rfl aX
   exact RL.nil ⟨rfl,(ay,ck,a1,a2,a3),hv.pu 4,ha.u,zt,j⟩
  ·rintro D U w hD o ag ⟨⟨ay,a0,a1,a2,a3⟩,hv,ha,_,j⟩
   obtain⟨O,rfl⟩:=(ac (hv.at 4 rfl (o.1 rfl)) az).eN
   have j:=j.cC 1 (o.1 rfl)
   refine RL.bB a5 1 j cG ?_
   have j:=j.cD 1 (D 4) (o.1 rfl) aX
   exact RL.nil ⟨rfl,(ay,a0,a1,a2,a3),hv.pu 5,ha.u,zt,j⟩
  ·rintro D U w hD o ag ⟨⟨ay,a0,a1,a2,a3⟩,hv,ha,_,j⟩
   obtain⟨O,rfl⟩:=(ac (hv.at 1 rfl (o.1 rfl)) (ac (hv.at 5 rfl (o.2.1 rfl)) az)).eN
   refine RL.min af.X0 a5 ?_
   exact RL.nil ⟨rfl,(ay,a0,a1,a2,a3),hv.pu 6,ha.u,zt,j⟩
  ·rintro D U w hD o ag ⟨⟨ay,a0,a1,a2,a3⟩,hv,ha,_,j⟩
   obtain⟨O,rfl⟩:=(ac (hv.at 7 rfl (o.1 rfl)) az).eN
   have j:=(j.bX 9 (nh ag hD 21)).bX 9 (nh ag hD 19)
   refine RL.aM 9 j zr dY cG ?_
   have j:=(j.eY 9 (D 19) (nh ag hD 19) (bx 73 ae {af with X0:=(if a5<af.X0 then a5 else af.X0)})).eY 9 (D 21) (nh ag hD 21) (bx 73 ae {{af with X0:=(if a5<af.X0 then a5 else af.X0)} with X1:=(if af.X1<a7 then a7 else af.X1)})
   exact RL.nil ⟨rfl,(ay,a0,a1,a2,a3),hv.pu 8,ha.u,zt,j⟩
  ·rintro D U w hD o ag ⟨⟨ay,a0,a1,a2,a3⟩,hv,ha,_,j⟩
   obtain⟨O,rfl⟩:=(ac (hv.at 9 rfl (o.1 rfl)) az).eN
   have j:=j.bX 2 hD
   refine RL.bG 5 j zr dS fM fun cl j=>?_
   have j:=(j.pl 12 [1,2,0,4,5,6,7,8,9,10,11]).cD 2 true rfl aX
   exact RL.nil ⟨rfl,(ay,a0,cl,a2,a3),hv.pu 10,ha.u,zt,j⟩
  ·rintro D U w hD o ag ⟨⟨ay,a0,a1,a2,a3⟩,hv,ha,_,j⟩
   obtain⟨O,rfl⟩:=(ac (hv.at 11 rfl (o.1 rfl)) az).eN
   have j:=j.bX 3 hD
   refine RL.bG 5 j zr dS fM fun cm j=>?_
   have j:=(j.pl 12 [1,2,3,0,5,6,7,8,9,10,11]).cD 3 true rfl aX
   exact RL.nil ⟨rfl,(ay,a0,a1,cm,a3),hv.pu 12,ha.u,zt,j⟩
  ·rintro D U w hD o ag ⟨⟨ay,a0,a1,a2,a3⟩,hv,ha,_,j⟩
   obtain⟨O,rfl⟩:=(ac (hv.at 12 rfl (o.1 rfl)) az).eN
   have j:=j.cC 3 (o.1 rfl)
   refine RL.bC 3 ba.Xs j mw ?_
   have j:=j.cD 3 (D 12) (o.1 rfl) aX
   exact RL.nil ⟨rfl,(ay,a0,a1,a2,a3),hv.pu 13,ha.u,zt,j⟩
  ·rintro D U w hD o ag ⟨⟨ay,a0,a1,a2,a3⟩,hv,ha,_,j⟩
   obtain⟨O,rfl⟩:=(ac (hv.at 10 rfl (o.1 rfl)) (ac (hv.at 14 rfl (o.2.1 rfl)) az)).eN
   have j:=(j.cC 2 (o.1 rfl)).bX 4 hD
   refine RL.bM 2 j eD ch fun cn j=>?_
   have j:=((j.pl 12 [1,2,3,4,0,6,7,8,9,10,11]).cD 2 (D 10) (o.1 rfl) aX).cD 4 true rfl aX
   exact RL.nil ⟨rfl,(ay,a0,a1,a2,cn),hv.pu 15,ha.u,zt,j⟩
  ·rintro D U w hD o ag ⟨⟨ay,a0,a1,a2,a3⟩,hv,ha,_,j⟩
   obtain⟨O,rfl⟩:=(ac (hv.at 15 rfl (o.1 rfl)) az).eN
   have j:=j.cC 4 (o.1 rfl)
   refine RL.bB a7 4 j cG ?_
   have j:=j.cD 4 (D 15) (o.1 rfl) aX
   exact RL.nil ⟨rfl,(ay,a0,a1,a2,a3),hv.pu 16,ha.u,zt,j⟩
  ·rintro D U w hD o ag ⟨⟨ay,a0,a1,a2,a3⟩,hv,ha,_,j⟩
   obtain⟨O,rfl⟩:=(ac (hv.at 8 rfl (o.1 rfl)) (ac (hv.at 16 rfl (o.2.1 rfl)) az)).eN
   refine RL.max af.X1 a7 ?_
   exact RL.nil ⟨rfl,(ay,a0,a1,a2,a3),hv.pu 17,ha.u,zt,j⟩
  ·rintro D U w hD o ag ⟨⟨ay,a0,a1,a2,a3⟩,hv,ha,_,j⟩
   obtain⟨O,rfl⟩:=(ac (hv.at 6 rfl (o.2.1 rfl)) (ac (hv.at 18 rfl (o.1 rfl)) az)).eN
   have j:=((j.bX 9 (nh ag hD 21)).bX 9 hD).sc Int (if a5<af.X0 then a5 else af.X0)
   refine RL.wW 10 j zr zr zr 0 zr oY cG fun w j=>?_
   have j:=((j.pl 12 [1,2,3,4,5,6,7,8,9,10,11]).cD 9 true rfl (bx 73 ae af)).eY 9 (D 21) (nh ag hD 21) (bx 73 ae {{af with X0:=(if a5<af.X0 then a5 else af.X0)} with X1:=(if af.X1<a7 then a7 else af.X1)})
   exact RL.nil ⟨rfl,(ay,a0,a1,a2,a3),hv.n1,ha,zt,j⟩
  ·rintro D U w hD o ag ⟨⟨ay,a0,a1,a2,a3⟩,hv,ha,_,j⟩
   obtain⟨O,rfl⟩:=(ac (hv.at 17 rfl (o.2.1 rfl)) (ac (hv.at 19 rfl (o.1 rfl)) az)).eN
   have j:=((j.bX 9 hD).cC 9 (o.2.2.1 rfl)).sc Int (if af.X1<a7 then a7 else af.X1)
   refine RL.wW 10 j zr zr zr 0 zr oZ cG fun w j=>?_
   have j:=(j.pl 12 [1,2,3,4,5,6,7,8,9,10,11]).cD 9 true rfl (bif D 19 then (bx 73 ae {af with X0:=(if a5<af.X0 then a5 else af.X0)}) else (bx 73 ae af))
   exact RL.nil ⟨rfl,(ay,a0,a1,a2,a3),hv.n1,ha,zt,j⟩
  rintro D U w a6 ⟨⟨ay,a0,a1,a2,a3⟩,hv,ha,_,j⟩
  have j:=(((((j.cC 0 (jQ a6 3)).cC 1 (jQ a6 4)).cC 2 (jQ a6 10)).cC 3 (jQ a6 12)).cC 4 (jQ a6 15)).cC 9 (jQ a6 21)
  obtain⟨O,rfl⟩:=(ac (ha.at 0 rfl) (ac (ha.at 1 rfl) (ac (ha.at 2 rfl) (ac (ha.at 3 rfl) (ac (ha.at 4 rfl) (ac (ha.at 5 rfl) az)))))).eN
  refine bO (aG (RC.region (RL.inc hk hm (mv (vi ((bg+1:Nat):Int)) (RL.nil ?_)))))
  obtain rfl:=oi hb
  exact⟨rfl,j.sp 11 [8,9,10]⟩
 rintro _ w ⟨O,rfl,j⟩
 refine aG (RC.sr (RL.bG (f:=(fun x=>x)) 1 j zr Fd.self iq fun cp j=>(RL.bZ 1 j 0 zr iq fun w j=>?_)))
 refine RL.nt (RC.ret ?_)
 obtain rfl:=oi hb
 exact Gf 1 j iq fun cq j=>(j.pk 5 [0])
theorem xz {p0: (List aA)} {res:Bool} (j:Holds E w V) (h0:V[i0]? =some (rd v0 p0)) (hb:mC N p0=some res):
    Calls bN 50 [v0].toArray w (gQ (aU E V res)):=by
 unfold mC at hb
 refine enter Tryz.func50 zr zr ?_
 have j:=j.dup (i0+0) h0
 refine RC.sr (aP (vb false) (RL.nq ?_))
 obtain⟨ad,o,hb⟩:=bd hb
 refine RC.jn (fun(ad:Bool)=>SH E V [(2,vb ad)] []) ad ?_ ?_
 ·refine RC.region (mv v0 (RL.bC 0 p0 j vI (ic ((p0.length:Int)) 0 (mv (vb ((p0.length:Int)==0)) (fN o (fun aa o=>?_) fun aa o=>?_)))))
  ·refine bJ aa (bJ aa (bJ aa (fU aa (vb true) (aP (vb true) (RL.nil ?_)))))
   obtain rfl:=oi o
   exact⟨rfl,j.sp 1 []⟩
  refine RL.move v0 (cg aa) ?_
  obtain⟨ai,af,o⟩:=bd o
  refine RL.call (cg aa) zr MC [v0] zr (aD (vQ N (i0:=0) j zr af) ?_)
  rintro ag w j
  obtain⟨ae,ah,o⟩:=bd o
  refine RL.call (cg aa) zr K0 [ag] zr (aD (t8 N (i0:=0) j zr ah) ?_)
  rintro _ w ⟨rfl,j⟩
  refine fU aa (vb ae) (aP (vb ae) (RL.nil ?_))
  obtain rfl:=oi o
  exact⟨rfl,j.sp 2 []⟩
 rintro _ w ⟨O,rfl,j⟩
 refine aG (RC.ret ?_)
 obtain rfl:=oi hb
 exact bY ⟨rfl,j.drop 0⟩
def zp (E:World) (V:List HP) (res:aI×Int) (v:Value) (w:World):Prop:=∃u0:Value,v = .tuple #[u0,(vi res.2)]/\Holds E w ([rd u0 res.1]++V)
theorem sF {p0:cE} {res:aI×Int} (j:Holds E w V) (h0:V[i0]? =some (rd v0 p0)) (o:kV N p0=some res):
    Calls bN 26 [v0].toArray w (gQ (zp E V res)):=by
 unfold kV at o
 refine enter Tryz.func26 zr zr ?_
 have j:=j.dup (i0+0) h0
 refine RC.sr (RL.dK 0 v0 j zr fun af w j=>?_)
 refine RL.alloc j om.z fun ag w j=>?_
 refine aP (vi 0) (RL.nq (RC.seq ?_))
 obtain⟨ad,hj,o⟩:=bd o
 refine RC.jn (fun(ad:Bool)=>SH E V [(1,vp af 0),(2,vp ag 0),(14,vb ad)] [bx 70 af p0,raw 73 ag 4]) ad ?_ ?_
 ·refine RC.region (RL.aZ zr rP (RL.aM 1 j zr l6 cG ?_))
  obtain⟨ah,aj,hj⟩:=bd hj
  refine RL.call zt zr IX [(vi p0.dH),(vi 1),(vi 10000)] zr (aD (ni N (p0:=p0.dH) (p1:=1) (p2:=10000) j aj) ?_)
  rintro _ w ⟨rfl,j⟩
  refine RL.not ah (mv (vb (!ah)) (fN hj (fun aa hj=>?_) fun aa hj=>?_))
  ·refine bJ aa (bJ aa (bJ aa (bJ aa (fU aa (vb true) (RL.nil ?_)))))
   obtain rfl:=oi hj
   exact⟨rfl,j.sp 3 [1,0]⟩
  refine RL.aZ (hg:=(cg aa)) zr yk (RL.bG (hg:=(cg aa)) 1 j zr qs zm fun ak j=>?_)
  obtain⟨ai,al,hj⟩:=bd hj
  refine RL.call (cg aa) zr K9 [ak] zr (aD (sE N (i0:=0) j zr al) ?_)
  rintro _ w ⟨rfl,j⟩
  refine RL.not (hg:=(cg aa)) ai (fU aa (vb (!ai)) (RL.nil ?_))
  obtain rfl:=oi hj
  exact⟨rfl,j.sp 4 [2,1]⟩
 rintro _ w ⟨O,rfl,j⟩
 refine aG (dX o (fun hc o=>?_) fun hc o=>?_)
 ·refine RC.sr (RL.build (⟨0,0,0,0⟩:aI) trivial rfl j [] rfl DI rfl (fun M hs g=>by have h:=tx M;exact cS.nil h) fun a2 j=>?_)
  refine RL.bZ 2 j 0 zr iq fun w j=>?_
  refine aP (vi 1) (RL.nt (RC.rt ?_))
  obtain rfl:=oi o
  exact wZ 2 j iq fun an j=>⟨an,zr,j.pk 4 [0]⟩
 refine RC.sx (RL.bG (f:=(fun x=>x)) 0 j zr Fd.self mf fun ao j=>?_)
 obtain⟨aq,ar,o⟩:=bd o
 refine RL.call zt zr Gn [ao] zr (aD (jr N (i0:=0) j zr ar) ?_)
 rintro a3 w j
 refine RL.alloc j om.z fun a4 w j=>?_
 refine RL.bZ 0 j 1 zr iq fun w j=>?_
 refine RL.nq (RC.sr (RL.bG (f:=(fun x=>x)) 0 j zr Fd.self iq fun au j=>(RL.dQ ([aq]: (List aI)) j [au] iK om (fun M hs g=>⟨(g.sat 0 _ zr).1,zt⟩) fun av w j=>?_)))
 have j:=j.freeze 0
 obtain⟨a5,aw,o⟩:=bd o
 refine RL.call zt zr Hy [av] zr (aD (mK N (i0:=0) j zr aw) ?_)
 rintro ax w j
 have j:=j.freeze 0
 obtain⟨ay,az,o⟩:=bd o
 refine RL.call zt zr MD [ax] zr (aD (xz N (i0:=0) j zr az) ?_)
 rintro _ w ⟨rfl,j⟩
 refine RL.not ay (RL.nt (dX o (fun hc o=>?_) fun hc o=>?_))
 ·refine RC.sr (RL.build (⟨0,0,0,0⟩:aI) trivial rfl j [] rfl DI rfl (fun M hs g=>by have h:=tx M;exact cS.nil h) fun a6 j=>?_)
  refine RL.bZ 8 j 0 zr iq fun w j=>?_
  refine aP (vi 1) (RL.nt (RC.rt ?_))
  obtain rfl:=oi o
  exact wZ 8 j iq fun a0 j=>⟨a0,zr,j.pk 10 [0]⟩
 refine RC.sx (RL.bG (f:=(fun x=>x)) 3 j zr Fd.self iq fun a7 j=>(RL.bZ 8 j 0 zr iq fun w j=>?_))
 refine aP (vi 0) (RL.nt (RC.ret ?_))
 obtain rfl:=oi o
 exact wZ 8 j iq fun a1 j=>⟨a1,zr,j.pk 10 [0]⟩
def vR (E:World) (V:List HP) (r:Int) (U:Nat->Value) (w:World):Prop:=lS bN 47 Tryz.f28 (aV E V r) .ret U w
theorem uP {p0:kH} (j:Holds E w V) (h0:V[i0]? =some (rd v0 p0)) (o:kJ N p0=some res):
    Calls bN 28 [v0].toArray w (gQ (aV E V res)):=by
 unfold kJ at o
 refine enter Tryz.func28 zr zr ?_
 have j:=j.dup (i0+0) h0
 refine RC.sr (RL.dK 0 v0 j zr fun a0 w j=>?_)
 refine aP (vi 0) (RL.nq (RC.sr (RL.aZ zr iw (RL.bG 0 j zr gU nQ fun a1 j=>(RL.bC 0 p0.aO j wy (ic ((p0.aO.length:Int)) 500 (RL.nt (dX o (fun hc o=>?_) fun hc o=>?_))))))))
 ·refine RC.sr (aP (vi 2) (RL.nt (RC.rt ?_)))
  obtain rfl:=oi o
  exact bY ⟨rfl,j.drop 3⟩
 refine RC.sx (RL.aZ zr me (RL.bG 1 j zr iW oQ fun a2 j=>(RL.bC 0 p0.aJ j oR (aP (vi p0.aJ.length) (RL.nq (RC.sr (RL.aZ zr iw (RL.bG 2 j zr gU nQ fun ag j=>?_))))))))
 refine RL.bC 0 p0.aO j wy (mv (vi 0) (RL.nt ?_))
 obtain⟨a3,hN,o⟩:=bd o
 refine RC.range (fun(ah:Nat) (ai:Unit)=>SH E V [(3,vi p0.aJ.length),(16,ag),(17,vi p0.aO.length),(18,vi ah)] [rd ag p0.aO]) (fun(ai:Unit)=>SH E V [] [rd ag p0.aO]) (vR E V) hN ?_ ?_ ?_ ?_ ?_
 ·exact j.sp 5 [0]
 ·rintro hm ai _ w ⟨O,rfl,j⟩
  refine RC.sr (ic ((p0.aO.length:Int)) ((p0.aO.length:Int)) (RL.nq (RC.fw sf (RC.ex ?_))))
  exact⟨rfl,j.sp 1 [0]⟩
 ·rintro hm ah ai fl _ w hk ⟨O,rfl,j⟩ o
  refine RC.sr (ic ((ah:Int)) ((p0.aO.length:Int)) (RL.nq (RC.fu (sd hk) (RC.ss (RC.bs ?_)))))
  obtain⟨ad,au,o⟩:=bd o
  refine RL.bM 0 j qE au fun a5 j=>(RL.bF 0 ad j mf fun a6 j=>(RL.alloc j EV.z fun a7 w j=>?_))
  refine RL.bZ 0 j 1 zr mf fun w j=>?_
  refine RL.nq (RC.sr (RL.bG (f:=(fun x=>x)) 0 j zr Fd.self mf fun av j=>?_))
  obtain⟨ae,aw,o⟩:=bd o
  refine RL.call zt zr Lb [av] zr (aD (sF N (i0:=0) j zr aw) ?_)
  rintro _ w ⟨an,rfl,j⟩
  refine mv (.tuple #[an,(vi ae.2)]) (RL.extract an (RL.extract (vi ae.2) (RL.alloc j om.z fun a8 w j=>?_)))
  refine RL.bZ 0 j 1 zr iq fun w j=>?_
  refine aP (vi ae.2) (RL.ns (mv (vi ae.2) (ic ae.2 0 (RL.nt (dX o (fun hc o=>?_) fun hc o=>?_)))))
  ·refine RC.sr (mv (vi ae.2) (aP (vi ae.2) (RL.nt (RC.rt (oz (bQ ?_))))))
   obtain rfl:=oi o
   exact⟨rfl,bY ⟨rfl,j.drop 7⟩⟩
  refine RC.ss ?_
  obtain⟨aj,hj,o⟩:=bd o
  refine RC.jn (fun(aj:Bool)=>SH E V [(3,vi p0.aJ.length),(16,ag),(17,vi p0.aO.length),(18,vi ah),(45,vb aj)] [rd ag p0.aO]) aj ?_ ?_
  ·refine RC.region (RL.aZ zr pM (RL.aM 3 j zr kC cG (mv (vi p0.aJ.length) (RL.fO (p0.aJ.length:Int) 1 ?_))))
   obtain⟨ao,ax,hj⟩:=bd hj
   refine RL.call zt zr IX [(vi ad.cR),(vi 0),(vi (IntKind.wrap .i64 ((p0.aJ.length:Int) - 1)))] zr (aD (ni N (p0:=ad.cR) (p1:=0) (p2:=(IntKind.wrap .i64 ((p0.aJ.length:Int) - 1))) j ax) ?_)
   rintro _ w ⟨rfl,j⟩
   refine RL.not ao (mv (vb (!ao)) (fN hj (fun aa hj=>?_) fun aa hj=>?_))
   ·refine bJ aa (bJ aa (bJ aa (bJ aa (bJ aa (bJ aa (bJ aa (bJ aa (fU aa (vb true) ?_))))))))
    refine RL.nil ?_
    obtain rfl:=oi hj
    exact⟨rfl,j.sp 7 [6]⟩
   refine RL.aZ (hg:=(cg aa)) zr rQ (RL.aM (hg:=(cg aa)) 3 j zr l7 cG (RL.aZ (hg:=(cg aa)) zr pM (RL.aM (hg:=(cg aa)) 3 j zr kC cG (RL.move (vi p0.aJ.length) (cg aa) (RL.fO (hg:=(cg aa)) (p0.aJ.length:Int) 1 ?_)))))
   obtain⟨aq,ay,hj⟩:=bd hj
   refine RL.call (cg aa) zr IX [(vi ad.To),(vi ad.cR),(vi (IntKind.wrap .i64 ((p0.aJ.length:Int) - 1)))] zr (aD (ni N (p0:=ad.To) (p1:=ad.cR) (p2:=(IntKind.wrap .i64 ((p0.aJ.length:Int) - 1))) j ay) ?_)
   rintro _ w ⟨rfl,j⟩
   refine RL.not (hg:=(cg aa)) aq (fU aa (vb (!aq)) (RL.nil ?_))
   obtain rfl:=oi hj
   exact⟨rfl,j.sp 7 [6]⟩
  rintro _ w ⟨O,rfl,j⟩
  refine aG (dX o (fun hc o=>?_) fun hc o=>?_)
  rotate_left
  ·refine RC.skip (bO (aG (RC.region (RL.inc hk hm (mv (vi ((ah+1:Nat):Int)) (RL.nil ?_))))))
   obtain rfl:=oi o
   exact⟨rfl,j.sp 1 [0]⟩
  refine RC.sr (aP (vi 1) (RL.nt (RC.rb (bQ ?_))))
  obtain rfl:=oi o
  exact⟨rfl,bY ⟨rfl,j.drop 1⟩⟩
 ·intro r U w e hK
  subst e
  refine bQ ?_
  obtain rfl:=oi o
  exact hK
 rintro ai _ w rfl ⟨O,rfl,j⟩
 rw [Fo.dB] at o
 refine aG (RC.sr (aP (vi 0) (RL.nt (RC.ret ?_))))
 obtain rfl:=oi o
 exact bY ⟨rfl,j.drop 1⟩
theorem nB {p0:eJ} (o:Holds E w V) (j:jg N p0 p1=some res):
    Calls bN 123 [(str p0),(.int .u8 p1)].toArray w (gQ (aV E V res)):=by
 unfold jg at j
 refine enter Tryz.func123 zr zr (RC.sr (aP (vi 0) (RL.ns (mv (str p0) (mv (.int .u8 p1) (RL.zQ (vi (Lib.indexByte p0.dA (Int.toNat p1).toUInt8)) zr [(str p0),(.int .u8 p1)] zr (MG p0 p1 w) (aP (vi (Lib.indexByte p0.dA (Int.toNat p1).toUInt8)) (RL.nt ?_))))))))
 refine RC.ret ?_
 obtain rfl:=oi j
 exact bY ⟨rfl,o.drop 0⟩
theorem uQ {p0 p1:eJ} (o:Holds E w V) (j:kK N p0 p1=some res):
    Calls bN 166 [(str p0),(str p1)].toArray w (gQ (aV E V res)):=by
 unfold kK at j
 refine enter Tryz.func166 zr zr (RC.sr (aP (vi 0) (RL.ns (mv (str p1) (RL.lens p1 Bl (aP (vi p1.dA.length) (RL.nq (RC.bs ?_))))))))
 refine mv (vi p1.dA.length) (ic ((p1.dA.length:Int)) 0 (mv (vb ((p1.dA.length:Int)==0)) (RL.gs true ((p1.dA.length:Int)==0) (str p1) rfl rfl rfl cI (RL.gs true ((p1.dA.length:Int)==0) (str p0) rfl rfl rfl cI (RL.gs true ((p1.dA.length:Int)==0) (vb (p1.tj p0)) rfl rfl rfl (Cb .eql p1 p0 rfl (fun h=>by exact(cO h:cv (true&&(((p1.dA.length:Int)==0)==false)) (str p1)= (str p1))) (fun h=>by exact(cO h:cv (true&&(((p1.dA.length:Int)==0)==false)) (str p0)= (str p0))) rfl) (RL.pick ((p1.dA.length:Int)==0) (vb (((p1.dA.length:Int)==0)||(p1.tj p0))) (nW true) (aP (vb (((p1.dA.length:Int)==0)||(p1.tj p0))) (RL.nt ?_))))))))
 refine dX j (fun hc j=>?_) fun hc j=>?_
 ·refine RC.sr (aP (vi 0) (RL.nt (RC.rb (bQ ?_))))
  obtain rfl:=oi j
  exact bY ⟨rfl,o.drop 0⟩
 refine RC.sr (mv (vi p1.dA.length) (ic ((p1.dA.length:Int)) 1 (aP (vb ((p1.dA.length:Int)==1)) (RL.nt (dX j (fun hc j=>?_) fun hc j=>?_)))))
 ·refine RC.sr (mv (str p0) (mv (str p1) ?_))
  obtain⟨ab,ad,j⟩:=bd j
  refine RL.idxs p1 0 ab zr zr zr Bl ad ?_
  obtain⟨ae,af,j⟩:=bd j
  refine RL.call zt zr Jw [(str p0),(.int .u8 (ab.toNat:Int))] zr (aD (nB N (p0:=p0) (p1:=(ab.toNat:Int)) o af) ?_)
  rintro _ w ⟨rfl,o⟩
  refine aP (vi ae) (RL.nt (RC.rb (bQ ?_)))
  obtain rfl:=oi j
  exact bY ⟨rfl,o.drop 0⟩
 refine RC.sr (mv (vi p1.dA.length) (mv (str p0) (RL.lens p0 Bl (ic ((p1.dA.length:Int)) ((p0.dA.length:Int)) (aP (vb (decide ((p1.dA.length:Int)>=(p0.dA.length:Int)))) (RL.nt (dX j (fun hc j=>?_) fun hc j=>?_)))))))
 rotate_left
 ·cases j
 refine RC.sr (aP (vi (-1)) (RL.nt (RC.rb (bQ ?_))))
 obtain rfl:=oi j
 exact bY ⟨rfl,o.drop 0⟩
theorem sG {p0 p1:eJ} (o:Holds E w V) (j:l3 N p0 p1=some res):
    Calls bN 151 [(str p0),(str p1)].toArray w (gQ (aV E V res)):=by
 unfold l3 at j
 refine enter Tryz.func151 zr zr (RC.sr (aP (vi 0) (RL.ns (mv (str p0) (mv (str p1) ?_)))))
 obtain⟨aa,ab,j⟩:=bd j
 refine RL.call zt zr Lc [(str p0),(str p1)] zr (aD (uQ N (p0:=p0) (p1:=p1) o ab) ?_)
 rintro _ w ⟨rfl,o⟩
 refine aP (vi aa) (RL.nt (RC.ret ?_))
 obtain rfl:=oi j
 exact bY ⟨rfl,o.drop 0⟩
def zq (E:World) (V:List HP) (r:Int) (U:Nat->Value) (w:World):Prop:=lS bN 34 Tryz.f150 (aV E V r) .ret U w
theorem yv {p0 p1:eJ} (hw:Holds E w V) (j:nz N p0 p1=some res):
    Calls bN 150 [(str p0),(str p1)].toArray w (gQ (aV E V res)):=by
 unfold nz at j
 refine enter Tryz.func150 zr zr (RC.sr (aP (vi 0) (RL.nq (RC.sr (mv (str p1) (RL.lens p1 Bl (ic ((p1.dA.length:Int)) 0 (RL.nt ?_))))))))
 refine dX j (fun hc j=>?_) fun hc j=>?_
 ·cases j
 refine RC.ss (RC.sr (mv (str p1) (RL.lens p1 Bl (ic ((p1.dA.length:Int)) 1 (RL.nt (dX j (fun hc j=>?_) fun hc j=>?_))))))
 ·refine RC.sr (mv (str p0) (mv (str p1) ?_))
  obtain⟨ad,af,j⟩:=bd j
  refine RL.idxs p1 0 ad zr zr zr Bl af (RL.zQ (vi ((Lib.countByte p0.dA (Int.toNat (ad.toNat:Int)).toUInt8:Nat):Int)) zr [(str p0),(.int .u8 (ad.toNat:Int))] zr (MF p0 (ad.toNat:Int) w) (aP (vi ((Lib.countByte p0.dA (Int.toNat (ad.toNat:Int)).toUInt8:Nat):Int)) (RL.nt (RC.rt ?_))))
  obtain rfl:=oi j
  exact bY ⟨rfl,hw.drop 0⟩
 refine RC.sx (aP (vi 0) (RL.nt ?_))
 obtain⟨al,hN,j⟩:=bd j
 refine RC.iter (fun(o:eJ×Int)=>SH E V [(0,(str o.1)),(1,(str p1)),(4,vi 0),(5,vi o.2)] []) (fun(o:eJ×Int)=>SH E V [(4,vi 0)] []) (zq E V) hN ?_ ?_ ?_ ?_
 ·exact hw.sp 0 []
 ·rintro o fl _ w ⟨O,rfl,hw⟩ j
  refine RC.bs (mv (str o.1) (mv (str p1) ?_))
  obtain⟨ae,ah,j⟩:=bd j
  refine RL.call zt zr Jx [(str o.1),(str p1)] zr (aD (sG N (p0:=o.1) (p1:=p1) hw ah) ?_)
  rintro _ w ⟨rfl,hw⟩
  refine aP (vi ae) (RL.nq (RC.sr (mv (vi ae) (ic ae ((-1)) (RL.nt (dX j (fun hc j=>?_) fun hc j=>?_))))))
  ·refine RC.sr (mv (vi o.2) (aP (vi o.2) (RL.nt (RC.rt (oz ?_)))))
   obtain rfl:=oi j
   exact⟨rfl,bY ⟨rfl,hw.drop 0⟩⟩
  refine RC.sx (mv (vi o.2) (RL.fO o.2 1 (aP (vi (IntKind.wrap .i64 (o.2+1))) (RL.nt (RC.region (mv (str o.1) (mv (vi ae) (mv (str p1) ?_))))))))
  refine RL.lens p1 Bl (RL.fO ae (p1.dA.length:Int) ?_)
  obtain⟨ai,aj,j⟩:=bd j
  refine RL.wo o.1 zr zr Bl (.inl zr) (.inr ⟨rfl,zr⟩) aj (aP (str ai) (RL.nil (bO ?_)))
  obtain rfl:=oi j
  exact⟨rfl,hw.sp 0 []⟩
 ·intro r U w e hK
  subst e
  obtain rfl:=oi j
  exact hK
 rintro o _ w rfl ⟨O,rfl,hw⟩
 rw [Fo.dB] at j
 obtain rfl:=oi j
 refine CZ ?_
 exact bY ⟨rfl,hw.drop 0⟩
theorem vS {p0 p1:eJ} {res: (List eJ)} (o:Holds E w V) (j:na N p0 p1 p2 p3=some res):
    Calls bN 122 [(str p0),(str p1),(vi p2),(vi p3)].toArray w (gQ (qF E V res)):=by
 unfold na at j
 refine enter Tryz.func122 zr zr (RC.sr (aP (.slice none 0 0) (RL.nq (RC.sr (mv (vi p3) (ic p3 0 (RL.nt (dX j (fun hc j=>?_) fun hc j=>?_))))))))
 ·refine RC.sr (aP (.slice none 0 0) (RL.nt (RC.rt ?_)))
  obtain rfl:=oi j
  have o:=o.cQ eJ 9
  exact bY (o.pk 1 [0])
 refine RC.ss (RC.sr (mv (str p1) (RL.EE p1 ⟨[]⟩ zt zr zr zr zr (RL.nt (dX j (fun hc j=>?_) fun hc j=>?_)))))
 ·cases j
 refine RC.ss (RC.sr (mv (vi p3) (ic p3 0 (RL.nt ?_))))
 obtain⟨ab,hj,j⟩:=bd j
 refine RC.jn (fun(ab:Int)=>SH E V [(0,(str p0)),(1,(str p1)),(2,vi p2),(3,vi ab)] []) ab ?_ ?_
 ·refine dX hj (fun hc hj=>?_) fun hc hj=>?_
  rotate_left
  ·refine RC.skip ?_
   obtain rfl:=oi hj
   exact⟨rfl,o.sp 0 []⟩
  refine RC.region (mv (str p0) (mv (str p1) ?_))
  obtain⟨aj,ak,hj⟩:=bd hj
  refine RL.call zt zr Ld [(str p0),(str p1)] zr (aD (yv N (p0:=p0) (p1:=p1) o ak) ?_)
  rintro _ w ⟨rfl,o⟩
  refine RL.fO aj 1 (aP (vi (IntKind.wrap .i64 (aj+1))) (RL.nil ?_))
  obtain rfl:=oi hj
  exact⟨rfl,o.sp 0 []⟩
 rintro _ w ⟨O,rfl,o⟩
 refine aG (RC.sr (mv (vi ab) (mv (str p0) (RL.lens p0 Bl (RL.fO (p0.dA.length:Int) 1 (RL.min ab (IntKind.wrap .i64 ((p0.dA.length:Int)+1)) (aP (vi (if (IntKind.wrap .i64 ((p0.dA.length:Int)+1))<ab then (IntKind.wrap .i64 ((p0.dA.length:Int)+1)) else ab)) (RL.ns ?_))))))))
 refine mv (vi (if (IntKind.wrap .i64 ((p0.dA.length:Int)+1))<ab then (IntKind.wrap .i64 ((p0.dA.length:Int)+1)) else ab)) ?_
 obtain⟨ay,al,j⟩:=bd j
 refine RL.mk (if (IntKind.wrap .i64 ((p0.dA.length:Int)+1))<ab then (IntKind.wrap .i64 ((p0.dA.length:Int)+1)) else ab) o Le NY al fun ae w o=>?_
 refine aP ae (RL.ns (mv (vi (if (IntKind.wrap .i64 ((p0.dA.length:Int)+1))<ab then (IntKind.wrap .i64 ((p0.dA.length:Int)+1)) else ab)) (RL.fO (if (IntKind.wrap .i64 ((p0.dA.length:Int)+1))<ab then (IntKind.wrap .i64 ((p0.dA.length:Int)+1)) else ab) 1 (aP (vi (IntKind.wrap .i64 ((if (IntKind.wrap .i64 ((p0.dA.length:Int)+1))<ab then (IntKind.wrap .i64 ((p0.dA.length:Int)+1)) else ab) - 1))) (RL.ns (aP (vi 0) (RL.nq ?_)))))))
 obtain⟨az,hN,j⟩:=bd j
 refine RC.iter (fun(aa:eJ×(List eJ)×Int)=>SH E V [(0,(str aa.1)),(1,(str p1)),(2,vi p2),(3,(vi (IntKind.wrap .i64 ((if (IntKind.wrap .i64 ((p0.dA.length:Int)+1))<ab then (IntKind.wrap .i64 ((p0.dA.length:Int)+1)) else ab) - 1)))),(9,ae),(10,vi aa.2.2)] [own 9 ae aa.2.1]) (fun(aa:eJ×(List eJ)×Int)=>SH E V [(0,(str aa.1)),(9,ae),(10,vi aa.2.2)] [own 9 ae aa.2.1]) (fun(r:Empty) _ _=>r.elim) hN ?_ ?_ ?_ ?_
 ·exact o.sp 1 [0]
 ·rintro aa fl _ w ⟨O,rfl,o⟩ j
  refine RC.seq (RC.sr (mv (vi aa.2.2) (mv (vi (IntKind.wrap .i64 ((if (IntKind.wrap .i64 ((p0.dA.length:Int)+1))<ab then (IntKind.wrap .i64 ((p0.dA.length:Int)+1)) else ab) - 1))) (ic aa.2.2 ((IntKind.wrap .i64 ((if (IntKind.wrap .i64 ((p0.dA.length:Int)+1))<ab then (IntKind.wrap .i64 ((p0.dA.length:Int)+1)) else ab) - 1))) (RL.nt (dX j (fun hc j=>?_) fun hc j=>?_))))))
  rotate_left
  ·refine RC.ex ?_
   obtain rfl:=oi j
   exact⟨rfl,o.sp 1 [0]⟩
  refine RC.sn (RC.bs (mv (str aa.1) (mv (str p1) ?_)))
  obtain⟨ag,ao,j⟩:=bd j
  refine RL.call zt zr Jx [(str aa.1),(str p1)] zr (aD (sG N (p0:=aa.1) (p1:=p1) o ao) ?_)
  rintro _ w ⟨rfl,o⟩
  refine aP (vi ag) (RL.nq (RC.sr (mv (vi ag) (ic ag 0 (RL.nt (dX j (fun hc j=>?_) fun hc j=>?_))))))
  ·refine RC.ex (JY (by decide) ?_)
   obtain rfl:=oi j
   exact⟨rfl,o.sp 1 [0]⟩
  refine RC.sx (mv ae (mv (vi aa.2.2) (mv (str aa.1) (mv (vi ag) (mv (vi p2) (RL.fO ag p2 ?_))))))
  obtain⟨aq,ar,j⟩:=bd j
  refine RL.wo aa.1 zr zr Bl (.inr ⟨rfl,zr⟩) (.inl zr) ar ?_
  obtain⟨a1,ah,j⟩:=bd j
  refine RL.bS 0 o zr zr DJ ah ?_
  have o:=o.sc eJ aq
  refine RL.gR (f:=(fun _ y=>y)) 1 0 o (jJ 1 o ah 0) (bI ah).2.1 zr Fs.self Ba fun w o=>?_
  refine RL.ns (mv (str aa.1) (mv (vi ag) (mv (str p1) (RL.lens p1 Bl (RL.fO ag (p1.dA.length:Int) ?_)))))
  obtain⟨au,av,j⟩:=bd j
  refine RL.wo aa.1 zr zr Bl (.inl zr) (.inr ⟨rfl,zr⟩) av (aP (str au) (RL.nt (RC.region (mv (vi aa.2.2) (RL.fO aa.2.2 1 (aP (vi (IntKind.wrap .i64 (aa.2.2+1))) (RL.nil (bO ?_))))))))
  obtain rfl:=oi j
  exact⟨rfl,o.sp 2 [1]⟩
 ·intro r _ _ _ _
  exact r.elim
 rintro aa _ w rfl ⟨O,rfl,o⟩
 rw [Fo.dB] at j
 refine aG (RC.sr (mv ae (mv (vi aa.2.2) (mv (str aa.1) ?_))))
 obtain⟨a2,ai,j⟩:=bd j
 refine RL.bS 0 o zr zr DJ ai ?_
 have o:=o.sc eJ aa.1
 refine RL.gR (f:=(fun _ y=>y)) 1 0 o (jJ 1 o ai 0) (bI ai).2.1 zr Fs.self Ba fun w o=>?_
 refine RL.ns (mv ae (mv (vi aa.2.2) (RL.fO aa.2.2 1 ?_)))
 obtain⟨a3,aw,j⟩:=bd j
 refine RL.Ch 1 zr o zr zr DJ (.inr ⟨rfl,zr⟩) aw fun ax o=>(aP ax (RL.nt (RC.ret ?_)))
 obtain rfl:=oi j
 exact bY (o.pk 2 [1])
theorem sH {p0 p1:eJ} {res: (List eJ)} (o:Holds E w V) (j:l4 N p0 p1=some res):
    Calls bN 96 [(str p0),(str p1)].toArray w (gQ (qF E V res)):=by
 unfold l4 at j
 refine enter Tryz.func96 zr zr (RC.sr (aP (.slice none 0 0) (RL.ns (mv (str p0) (mv (str p1) ?_)))))
 obtain⟨ad,aa,j⟩:=bd j
 refine RL.call zt zr Lg [(str p0),(str p1),(vi 0),(vi (-1))] zr (aD (vS N (p0:=p0) (p1:=p1) (p2:=0) (p3:=(-1)) o aa) ?_)
 rintro ab w o
 refine aP ab (RL.nt (RC.ret ?_))
 obtain rfl:=oi j
 exact bY (o.pk 1 [0])
def rj (E:World) (V:List HP) (r:Int) (U:Nat->Value) (w:World):Prop:=lS bN 19 Tryz.f121 (aV E V r) .ret U w
theorem qI {p0: (List eJ)} {p1:eJ->Option Bool} (j:Holds E w V) (h0:V[i0]? =some (rd v0 p0)) (h1:Iw bN E V v1 p1 (fun(r:Bool)=>Value.bool r)) (o:lk N p0 p1=some res):
    Calls bN 121 [v0,v1].toArray w (gQ (aV E V res)):=by
 unfold lk at o
 refine enter Tryz.func121 zr zr ?_
 have j:=j.dup (i0+0) h0
 refine RC.sr (aP (vi 0) (RL.nq (RC.sr (mv v0 (RL.bC 0 p0 j Jy (mv (vi 0) (RL.nt ?_)))))))
 obtain⟨al,hN,o⟩:=bd o
 refine RC.range (fun(aa:Nat) (ab:Unit)=>SH E V [(0,v0),(1,v1),(7,vi p0.length),(8,vi aa)] [rd v0 p0]) (fun(ab:Unit)=>SH E V [] [rd v0 p0]) (rj E V) hN ?_ ?_ ?_ ?_ ?_
 ·exact j.sp 1 [0]
 ·rintro hm ab _ w ⟨O,rfl,j⟩
  refine RC.sr (ic ((p0.length:Int)) ((p0.length:Int)) (RL.nq (RC.fw sf (RC.ex ?_))))
  exact⟨rfl,j.sp 1 [0]⟩
 ·rintro hm aa ab fl _ w hk ⟨O,rfl,j⟩ o
  refine RC.sr (ic ((aa:Int)) ((p0.length:Int)) (RL.nq (RC.fu (sd hk) (RC.ss (RC.bs (mv (vi aa) (aP (vi aa) (RL.ns ?_))))))))
  refine mv v1 (mv v0 (mv (vi aa) ?_))
  obtain⟨af,ah,o⟩:=bd o
  refine RL.bM 0 j DJ ah fun ao j=>(RL.bB af 0 j Ba ?_)
  have j:=j.sc eJ af
  obtain⟨aq,ai,o⟩:=bd o
  refine RL.Ce 0 zr j zr h1 3 zr zr zr ai fun w j=>(RL.nt (dX o (fun hc o=>?_) fun hc o=>?_))
  rotate_left
  ·refine RC.skip (bO (aG (RC.region (RL.inc hk hm (mv (vi ((aa+1:Nat):Int)) (RL.nil ?_))))))
   obtain rfl:=oi o
   exact⟨rfl,j.sp 3 [2]⟩
  refine RC.sr (mv (vi aa) (aP (vi aa) (RL.nt (RC.rb (bQ ?_)))))
  obtain rfl:=oi o
  exact⟨rfl,bY ⟨rfl,j.drop 3⟩⟩
 ·intro r U w e hK
  subst e
  refine bQ ?_
  obtain rfl:=oi o
  exact hK
 rintro ab _ w rfl ⟨O,rfl,j⟩
 rw [Fo.dB] at o
 refine aG (RC.sr (aP (vi (-1)) (RL.nt (RC.ret ?_))))
 obtain rfl:=oi o
 exact bY ⟨rfl,j.drop 1⟩
theorem px {p0: (List eJ)} {p1:eJ->Option Bool} {res:Bool} (j:Holds E w V) (h0:V[i0]? =some (rd v0 p0)) (h1:Iw bN E V v1 p1 (fun(r:Bool)=>Value.bool r)) (o:iU N p0 p1=some res):
    Calls bN 95 [v0,v1].toArray w (gQ (aU E V res)):=by
 unfold iU at o
 refine enter Tryz.func95 zr zr ?_
 have j:=j.dup (i0+0) h0
 refine RC.sr (aP (vb false) (RL.ns (mv v0 (mv v1 ?_))))
 obtain⟨aa,ab,o⟩:=bd o
 refine RL.call zt zr Li [v0,v1] zr (aD (qI N (i0:=0) j zr (h1.lift 1 zr) ab) ?_)
 rintro _ w ⟨rfl,j⟩
 refine ic aa 0 (aP (vb (decide (aa>=0))) (RL.nt (RC.ret ?_)))
 obtain rfl:=oi o
 exact bY ⟨rfl,j.drop 1⟩
theorem py {p0:eJ} (o:Holds E w V) (j:gX N p0 p1=some res):
    Calls bN 98 [(str p0),(.int .u8 p1)].toArray w (gQ (aV E V res)):=by
 unfold gX at j
 refine enter Tryz.func98 zr zr (RC.sr (aP (vi 0) (RL.ns (mv (str p0) (mv (.int .u8 p1) ?_)))))
 obtain⟨aa,ab,j⟩:=bd j
 refine RL.call zt zr Jw [(str p0),(.int .u8 p1)] zr (aD (nB N (p0:=p0) (p1:=p1) o ab) ?_)
 rintro _ w ⟨rfl,o⟩
 refine aP (vi aa) (RL.nt (RC.ret ?_))
 obtain rfl:=oi j
 exact bY ⟨rfl,o.drop 0⟩
def yw (E:World) (V:List HP) (r:Bool) (U:Nat->Value) (w:World):Prop:=lS bN 49 Tryz.f54 (aU E V r) .ret U w
theorem rD {p0:eJ} {res:Bool} (hw:Holds E w V) (o:jC N p0=some res):
    Calls bN 54 [(str p0)].toArray w (gQ (aU E V res)):=by
 unfold jC at o
 refine enter Tryz.func54 zr zr (RC.sr (aP (vb false) (RL.nq (RC.sr (mv (str p0) (RL.lens p0 Bl (mv (vi 0) (RL.nt ?_))))))))
 obtain⟨ar,hN,o⟩:=bd o
 refine RC.range (fun(ab:Nat) (af:Unit)=>SH E V [(0,(str p0)),(6,vi p0.dA.length),(7,vi ab)] []) (fun(af:Unit)=>SH E V [(0,(str p0))] []) (yw E V) hN ?_ ?_ ?_ ?_ ?_
 ·exact hw.sp 0 []
 ·rintro hm af _ w ⟨O,rfl,hw⟩
  refine RC.sr (ic ((p0.dA.length:Int)) ((p0.dA.length:Int)) (RL.nq (RC.fw sf (RC.ex ?_))))
  exact⟨rfl,hw.sp 0 []⟩
 ·rintro hm ab af fl _ w hk ⟨O,rfl,hw⟩ o
  refine RC.sr (ic ((ab:Int)) ((p0.dA.length:Int)) (RL.nq (RC.fu (sd hk) (RC.ss (RC.bs (mv (vi ab) (aP (vi ab) (RL.ns ?_))))))))
  refine mv (str p0) (mv (vi ab) ?_)
  obtain⟨j,al,o⟩:=bd o
  refine RL.idxs p0 (ab:Int) j zr zr zr Bl al (aP (.int .u8 (j.toNat:Int)) (RL.nq ?_))
  obtain⟨ag,hj,o⟩:=bd o
  refine RC.jn (fun(ag:Bool)=>SH E V [(0,(str p0)),(6,vi p0.dA.length),(7,vi ab),(39,vb ag)] []) ag ?_ ?_
  ·refine RC.region (mv (.int .u8 (j.toNat:Int)) (ic ((j.toNat:Int)) 65 (mv (vb (decide ((j.toNat:Int)<65))) (RL.gs true (decide ((j.toNat:Int)<65)) (.int .u8 (j.toNat:Int)) rfl rfl rfl cI (RL.gs true (decide ((j.toNat:Int)<65)) (vb (decide ((j.toNat:Int)>90))) rfl rfl rfl (dL .gtr .u8 (j.toNat:Int) 90 rfl (fun h=>by exact(cO h:cv (true&&((decide ((j.toNat:Int)<65))==false)) (.int .u8 (j.toNat:Int))= (.int .u8 (j.toNat:Int)))) (fun _=>rfl) rfl) (RL.pick (decide ((j.toNat:Int)<65)) (vb ((decide ((j.toNat:Int)<65))||(decide ((j.toNat:Int)>90)))) (nW true) (mv (vb ((decide ((j.toNat:Int)<65))||(decide ((j.toNat:Int)>90)))) (RL.gs true ((decide ((j.toNat:Int)<65))||(decide ((j.toNat:Int)>90))) (.int .u8 (j.toNat:Int)) rfl rfl rfl cI ?_))))))))
   refine RL.gs true ((decide ((j.toNat:Int)<65))||(decide ((j.toNat:Int)>90))) (vb (decide ((j.toNat:Int)<97))) rfl rfl rfl (dL .lss .u8 (j.toNat:Int) 97 rfl (fun h=>by exact(cO h:cv (true&&(((decide ((j.toNat:Int)<65))||(decide ((j.toNat:Int)>90)))==true)) (.int .u8 (j.toNat:Int))= (.int .u8 (j.toNat:Int)))) (fun _=>rfl) rfl) (RL.gs true ((decide ((j.toNat:Int)<65))||(decide ((j.toNat:Int)>90))) (vb (decide ((j.toNat:Int)<97))) rfl rfl rfl (cI (hx:=fun h=>by exact(cO h:cv (true&&(((decide ((j.toNat:Int)<65))||(decide ((j.toNat:Int)>90)))==true)) (vb (decide ((j.toNat:Int)<97)))= (vb (decide ((j.toNat:Int)<97)))))) (RL.gs (true&&(((decide ((j.toNat:Int)<65))||(decide ((j.toNat:Int)>90)))==true)) (decide ((j.toNat:Int)<97)) (.int .u8 (j.toNat:Int)) rfl rfl rfl cI (RL.gs (true&&(((decide ((j.toNat:Int)<65))||(decide ((j.toNat:Int)>90)))==true)) (decide ((j.toNat:Int)<97)) (vb (decide ((j.toNat:Int)>122))) rfl rfl rfl (dL .gtr .u8 (j.toNat:Int) 122 rfl (fun h=>by exact(cO h:cv ((true&&(((decide ((j.toNat:Int)<65))||(decide ((j.toNat:Int)>90)))==true))&&((decide ((j.toNat:Int)<97))==false)) (.int .u8 (j.toNat:Int))= (.int .u8 (j.toNat:Int)))) (fun _=>rfl) rfl) (RL.gs true ((decide ((j.toNat:Int)<65))||(decide ((j.toNat:Int)>90))) (vb ((decide ((j.toNat:Int)<97))||(decide ((j.toNat:Int)>122)))) rfl rfl rfl (kG (decide ((j.toNat:Int)<97)) rfl (fun h=>by exact(cO h:cv (true&&(((decide ((j.toNat:Int)<65))||(decide ((j.toNat:Int)>90)))==true)) (vb (decide ((j.toNat:Int)<97)))= (vb (decide ((j.toNat:Int)<97))))) (fun h=>by exact nW (h:=h) (true&&(((decide ((j.toNat:Int)<65))||(decide ((j.toNat:Int)>90)))==true)))) (RL.pick ((decide ((j.toNat:Int)<65))||(decide ((j.toNat:Int)>90))) (vb (((decide ((j.toNat:Int)<65))||(decide ((j.toNat:Int)>90)))&&((decide ((j.toNat:Int)<97))||(decide ((j.toNat:Int)>122))))) (gx true rfl) (mv (vb (((decide ((j.toNat:Int)<65))||(decide ((j.toNat:Int)>90)))&&((decide ((j.toNat:Int)<97))||(decide ((j.toNat:Int)>122))))) (RL.gs true (((decide ((j.toNat:Int)<65))||(decide ((j.toNat:Int)>90)))&&((decide ((j.toNat:Int)<97))||(decide ((j.toNat:Int)>122)))) (.int .u8 (j.toNat:Int)) rfl rfl rfl cI (RL.gs true (((decide ((j.toNat:Int)<65))||(decide ((j.toNat:Int)>90)))&&((decide ((j.toNat:Int)<97))||(decide ((j.toNat:Int)>122)))) (vb (decide ((j.toNat:Int)<48))) rfl rfl rfl (dL .lss .u8 (j.toNat:Int) 48 rfl (fun h=>by exact(cO h:cv (true&&((((decide ((j.toNat:Int)<65))||(decide ((j.toNat:Int)>90)))&&((decide ((j.toNat:Int)<97))||(decide ((j.toNat:Int)>122))))==true)) (.int .u8 (j.toNat:Int))= (.int .u8 (j.toNat:Int)))) (fun _=>rfl) rfl) ?_))))))))
   refine RL.gs true (((decide ((j.toNat:Int)<65))||(decide ((j.toNat:Int)>90)))&&((decide ((j.toNat:Int)<97))||(decide ((j.toNat:Int)>122)))) (vb (decide ((j.toNat:Int)<48))) rfl rfl rfl (cI (hx:=fun h=>by exact(cO h:cv (true&&((((decide ((j.toNat:Int)<65))||(decide ((j.toNat:Int)>90)))&&((decide ((j.toNat:Int)<97))||(decide ((j.toNat:Int)>122))))==true)) (vb (decide ((j.toNat:Int)<48)))= (vb (decide ((j.toNat:Int)<48)))))) (RL.gs (true&&((((decide ((j.toNat:Int)<65))||(decide ((j.toNat:Int)>90)))&&((decide ((j.toNat:Int)<97))||(decide ((j.toNat:Int)>122))))==true)) (decide ((j.toNat:Int)<48)) (.int .u8 (j.toNat:Int)) rfl rfl rfl cI (RL.gs (true&&((((decide ((j.toNat:Int)<65))||(decide ((j.toNat:Int)>90)))&&((decide ((j.toNat:Int)<97))||(decide ((j.toNat:Int)>122))))==true)) (decide ((j.toNat:Int)<48)) (vb (decide ((j.toNat:Int)>57))) rfl rfl rfl (dL .gtr .u8 (j.toNat:Int) 57 rfl (fun h=>by exact(cO h:cv ((true&&((((decide ((j.toNat:Int)<65))||(decide ((j.toNat:Int)>90)))&&((decide ((j.toNat:Int)<97))||(decide ((j.toNat:Int)>122))))==true))&&((decide ((j.toNat:Int)<48))==false)) (.int .u8 (j.toNat:Int))= (.int .u8 (j.toNat:Int)))) (fun _=>rfl) rfl) (RL.gs true (((decide ((j.toNat:Int)<65))||(decide ((j.toNat:Int)>90)))&&((decide ((j.toNat:Int)<97))||(decide ((j.toNat:Int)>122)))) (vb ((decide ((j.toNat:Int)<48))||(decide ((j.toNat:Int)>57)))) rfl rfl rfl (kG (decide ((j.toNat:Int)<48)) rfl (fun h=>by exact(cO h:cv (true&&((((decide ((j.toNat:Int)<65))||(decide ((j.toNat:Int)>90)))&&((decide ((j.toNat:Int)<97))||(decide ((j.toNat:Int)>122))))==true)) (vb (decide ((j.toNat:Int)<48)))= (vb (decide ((j.toNat:Int)<48))))) (fun h=>by exact nW (h:=h) (true&&((((decide ((j.toNat:Int)<65))||(decide ((j.toNat:Int)>90)))&&((decide ((j.toNat:Int)<97))||(decide ((j.toNat:Int)>122))))==true)))) (RL.pick (((decide ((j.toNat:Int)<65))||(decide ((j.toNat:Int)>90)))&&((decide ((j.toNat:Int)<97))||(decide ((j.toNat:Int)>122)))) (vb ((((decide ((j.toNat:Int)<65))||(decide ((j.toNat:Int)>90)))&&((decide ((j.toNat:Int)<97))||(decide ((j.toNat:Int)>122))))&&((decide ((j.toNat:Int)<48))||(decide ((j.toNat:Int)>57))))) (gx true rfl) (mv (vb ((((decide ((j.toNat:Int)<65))||(decide ((j.toNat:Int)>90)))&&((decide ((j.toNat:Int)<97))||(decide ((j.toNat:Int)>122))))&&((decide ((j.toNat:Int)<48))||(decide ((j.toNat:Int)>57))))) (fN hj (fun ad hj=>?_) fun ad hj=>?_))))))
   rotate_left
   ·refine bJ ad (bJ ad (bJ ad (fU ad (vb false) (RL.nil ?_))))
    obtain rfl:=oi hj
    exact⟨rfl,hw.sp 0 []⟩
   refine RL.move (.int .u8 (j.toNat:Int)) (cg ad) ?_
   obtain⟨aj,an,hj⟩:=bd hj
   refine RL.call (cg ad) zr Lj [(str ⟨[95,43,45,35]⟩),(.int .u8 (j.toNat:Int))] zr (aD (py N (p0:=⟨[95,43,45,35]⟩) (p1:=(j.toNat:Int)) hw an) ?_)
   rintro _ w ⟨rfl,hw⟩
   refine RL.ld aj 0 (cg ad) (fU ad (vb (decide (aj<0))) (RL.nil ?_))
   obtain rfl:=oi hj
   exact⟨rfl,hw.sp 0 []⟩
  rintro _ w ⟨O,rfl,hw⟩
  refine aG (dX o (fun hc o=>?_) fun hc o=>?_)
  rotate_left
  ·refine RC.skip (bO (aG (RC.region (RL.inc hk hm (mv (vi ((ab+1:Nat):Int)) (RL.nil ?_))))))
   obtain rfl:=oi o
   exact⟨rfl,hw.sp 0 []⟩
  refine RC.sr (aP (vb false) (RL.nt (RC.rb (bQ ?_))))
  obtain rfl:=oi o
  exact⟨rfl,bY ⟨rfl,hw.drop 0⟩⟩
 ·intro r U w e hK
  subst e
  refine bQ ?_
  obtain rfl:=oi o
  exact hK
 rintro af _ w rfl ⟨O,rfl,hw⟩
 rw [Fo.dB] at o
 refine aG (RC.sr (mv (str p0) (RL.lens p0 Bl (ic ((p0.dA.length:Int)) 1 (mv (vb (decide ((p0.dA.length:Int)>=1))) (RL.gs true (decide ((p0.dA.length:Int)>=1)) (str p0) rfl rfl rfl cI (RL.gs true (decide ((p0.dA.length:Int)>=1)) (vi p0.dA.length) rfl rfl rfl (ID (s:=p0) rfl (fun h=>by exact(cO h:cv (true&&((decide ((p0.dA.length:Int)>=1))==true)) (str p0)= (str p0))) Bl) (RL.gs true (decide ((p0.dA.length:Int)>=1)) (vb (decide ((p0.dA.length:Int)<=40))) rfl rfl rfl (dL .leq .i64 (p0.dA.length:Int) 40 rfl (fun h=>by exact(cO h:cv (true&&((decide ((p0.dA.length:Int)>=1))==true)) (vi p0.dA.length)= (vi p0.dA.length))) (fun _=>rfl) rfl) ?_))))))))
 refine RL.pick (decide ((p0.dA.length:Int)>=1)) (vb ((decide ((p0.dA.length:Int)>=1))&&(decide ((p0.dA.length:Int)<=40)))) (gx true zr) (aP (vb ((decide ((p0.dA.length:Int)>=1))&&(decide ((p0.dA.length:Int)<=40)))) (RL.nt (RC.ret ?_)))
 obtain rfl:=oi o
 exact bY ⟨rfl,hw.drop 0⟩
theorem uR {p0:eJ} {res:Bool} (o:Holds E w V) (j:iV N p0=some res):
    Calls bN 97 [(str p0)].toArray w (gQ (aU E V res)):=by
 unfold iV at j
 refine enter Tryz.func97 zr zr (RC.sr (aP (vb false) (RL.ns (mv (str p0) ?_))))
 obtain⟨aa,ab,j⟩:=bd j
 refine RL.call zt zr Ll [(str p0)] zr (aD (rD N (p0:=p0) o ab) ?_)
 rintro _ w ⟨rfl,o⟩
 refine RL.not aa (aP (vb (!aa)) (RL.nt (RC.ret ?_)))
 obtain rfl:=oi j
 exact bY ⟨rfl,o.drop 0⟩
theorem xA {p0:eJ} {res:Bool} (j:Holds E w V) (hb:mD N p0=some res):
    Calls bN 53 [(str p0)].toArray w (gQ (aU E V res)):=by
 unfold mD at hb
 refine enter Tryz.func53 zr zr (RC.sr (aP (vb false) (RL.nq ?_)))
 obtain⟨ad,hj,hb⟩:=bd hb
 refine RC.jn (fun(ad:Bool)=>SH E V [(2,vb ad)] []) ad ?_ ?_
 ·refine RC.region (mv (str p0) (RL.lens p0 Bl (ic ((p0.dA.length:Int)) 200 (mv (vb (decide ((p0.dA.length:Int)<=200))) (fN hj (fun o hj=>?_) fun o hj=>?_)))))
  rotate_left
  ·refine bJ o (bJ o (bJ o (bJ o (fU o (vb false) (aP (vb false) (RL.nil ?_))))))
   obtain rfl:=oi hj
   exact⟨rfl,j.sp 0 []⟩
  refine RL.move (str p0) (cg o) ?_
  obtain⟨ai,af,hj⟩:=bd hj
  refine RL.call (cg o) zr Lh [(str p0),(str ⟨[47]⟩)] zr (aD (sH N (p0:=p0) (p1:=⟨[47]⟩) j af) ?_)
  rintro ag w j
  have j:=j.freeze 0
  obtain⟨ae,ah,hj⟩:=bd hj
  refine RL.call (cg o) rfl MI [ag,(.func (.func 97) #[] #[])] rfl (aD (px N (i0:=0) j rfl ⟨97,[],rfl,MH,fun w Γl v y0 r i j hi hr=>by obtain rfl:=j.C3 (γ:=eJ) hi;exact aD (uR N (p0:=y0) j hr) fun _ _ h=>h⟩ ah) ?_)
  rintro _ w ⟨rfl,j⟩
  refine RL.not (hg:=(cg o)) ae (fU o (vb (!ae)) (aP (vb (!ae)) (RL.nil ?_)))
  obtain rfl:=oi hj
  exact⟨rfl,j.sp 1 []⟩
 rintro _ w ⟨O,rfl,j⟩
 refine aG (RC.ret ?_)
 obtain rfl:=oi hb
 exact bY ⟨rfl,j.drop 0⟩
def Ae (E:World) (V:List HP) (res:fG) (v:Value) (w:World):Prop:=Holds E w ([rd v res]++V)
theorem pN {p0:fP} {res:fG} (j:Holds E w V) (h0:V[i0]? =some (rd v0 p0)) (o:nb N p0=some res):
    Calls bN 56 [v0].toArray w (gQ (Ae E V res)):=by
 unfold nb at o
 refine enter Tryz.func56 zr zr ?_
 have j:=j.dup (i0+0) h0
 refine RC.sr (RL.dK 0 v0 j zr fun aa w j=>?_)
 refine RL.alloc j Kf.z fun ab w j=>?_
 refine RL.ns (RL.aZ zr uK (RL.aM 1 j zr nY Ba (RL.aZ zr yl (RL.aM 1 j zr qu Ba ?_))))
 have j:=(j.sc eJ p0.Part).sc eJ p0.fG
 refine RL.build (⟨p0.Part,p0.fG⟩:fG) trivial rfl j [(0,(str p0.Part)),(1,(str p0.fG))] rfl Lm rfl (fun M hs g=>by have h:=Ju M;exact cS.cons (f:=fun(x:fG) y=>{x with Part:=y}) h DE (g.sat 1 _ rfl).1 fun _ h=>cS.cons (f:=fun(x:fG) y=>{x with fG:=y}) h DG (g.sat 0 _ rfl).1 fun _ h=>cS.nil h) fun ad j=>?_
 refine RL.bZ 3 j 0 zr Ln fun w j=>?_
 refine RL.nt (RC.ret ?_)
 obtain rfl:=oi o
 exact Gf 3 j Ln fun ae j=>(j.pk 7 [0])
theorem rW {p0 p1:eJ} (o:Holds E w V) (j:mc N p0 p1=some res):
    Calls bN 124 [(str p0),(str p1)].toArray w (gQ (aV E V res)):=by
 unfold mc at j
 refine enter Tryz.func124 zr zr (RC.sr (aP (vi 0) (RL.ns (mv (str p0) (mv (str p1) (RL.zQ (vi (Lib.compareBytes p0.dA p1.dA)) zr [(str p0),(str p1)] zr (Hs p0 p1 w) (aP (vi (Lib.compareBytes p0.dA p1.dA)) (RL.nt ?_))))))))
 refine RC.ret ?_
 obtain rfl:=oi j
 exact bY ⟨rfl,o.drop 0⟩
theorem qJ {p0 p1:eJ} (o:Holds E w V) (j:nL N p0 p1=some res):
    Calls bN 99 [(str p0),(str p1)].toArray w (gQ (aV E V res)):=by
 unfold nL at j
 refine enter Tryz.func99 zr zr (RC.sr (aP (vi 0) (RL.ns (mv (str p0) (mv (str p1) ?_)))))
 obtain⟨aa,ab,j⟩:=bd j
 refine RL.call zt zr Lo [(str p0),(str p1)] zr (aD (rW N (p0:=p0) (p1:=p1) o ab) ?_)
 rintro _ w ⟨rfl,o⟩
 refine aP (vi aa) (RL.nt (RC.ret ?_))
 obtain rfl:=oi j
 exact bY ⟨rfl,o.drop 0⟩
theorem tD {p0 p1:fG} (j:Holds E w V) (h0:V[i0]? =some (rd v0 p0)) (h1:V[i1]? =some (rd v1 p1)) (o:jS N p0 p1=some res):
    Calls bN 55 [v0,v1].toArray w (gQ (aV E V res)):=by
 unfold jS at o
 refine enter Tryz.func55 zr zr ?_
 have j:=(j.dup (i0+0) h0).dup (i1+1) h1
 refine RC.sr (RL.dK 1 v0 j zr fun ag w j=>?_)
 refine RL.dK 1 v1 j zr fun ah w j=>?_
 refine aP (vi 0) (RL.nq (RC.sr (RL.aZ zr HC (RL.aM 1 j zr DD Ba (RL.aZ zr HC (RL.aM 0 j zr DD Ba ?_))))))
 obtain⟨aa,ab,o⟩:=bd o
 refine RL.call zt zr Lp [(str p0.Part),(str p1.Part)] zr (aD (qJ N (p0:=p0.Part) (p1:=p1.Part) j ab) ?_)
 rintro _ w ⟨rfl,j⟩
 refine aP (vi aa) (RL.ns (mv (vi aa) (ic aa 0 (RL.nt (dX o (fun hc o=>?_) fun hc o=>?_)))))
 ·refine RC.sr (mv (vi aa) (aP (vi aa) (RL.nt (RC.rt ?_))))
  obtain rfl:=oi o
  exact bY ⟨rfl,j.drop 4⟩
 refine RC.sx (RL.aZ zr HD (RL.aM 1 j zr DF Ba (RL.aZ zr HD (RL.aM 0 j zr DF Ba ?_))))
 obtain⟨ae,af,o⟩:=bd o
 refine RL.call zt zr Lp [(str p0.fG),(str p1.fG)] zr (aD (qJ N (p0:=p0.fG) (p1:=p1.fG) j af) ?_)
 rintro _ w ⟨rfl,j⟩
 refine aP (vi ae) (RL.nt (RC.ret ?_))
 obtain rfl:=oi o
 exact bY ⟨rfl,j.drop 4⟩
def vT (E:World) (V:List HP) (r:Int) (U:Nat->Value) (w:World):Prop:=lS bN 60 Tryz.f29 (aV E V r) .ret U w
theorem uS {p0:kH} (j:Holds E w V) (h0:V[i0]? =some (rd v0 p0)) (hb:kL N p0=some res):
    Calls bN 29 [v0].toArray w (gQ (aV E V res)):=by
 unfold kL at hb
 refine enter Tryz.func29 zr zr ?_
 have j:=j.dup (i0+0) h0
 refine RC.sr (RL.dK 0 v0 j zr fun ag w j=>?_)
 have j:=j.lf (i:=0) rfl
 refine aP (vi 0) (RL.nq (RC.sr (RL.dN 0 j zr rR oF fun bk j=>(RL.bF 0 p0.bV j Bj fun bl j=>(RL.bC 0 p0.bV j Gp (ic ((p0.bV.length:Int)) 1000 (RL.nt (dX hb (fun hc hb=>?_) fun hc hb=>?_))))))))
 ·refine RC.sr (aP (vi 2) (RL.nt (RC.rt ?_)))
  obtain rfl:=oi hb
  exact bY ⟨rfl,j.drop 4⟩
 refine RC.ss (RC.sr (RL.dN 2 j zr rR oF fun bm j=>(RL.bF 0 p0.bV j Bj fun ah j=>(RL.bC 0 p0.bV j Gp (mv (vi 0) (RL.nt ?_))))))
 obtain⟨bn,hN,hb⟩:=bd hb
 refine RC.range (fun(ad:Nat) (ak:Unit)=>SH E V [(1,vp ag 0),(10,ah),(11,vi p0.bV.length),(12,vi ad)] [pt (vp ag 0) p0,rd ah p0.bV]) (fun(ak:Unit)=>SH E V [] [pt (vp ag 0) p0,rd ah p0.bV]) (vT E V) hN ?_ ?_ ?_ ?_ ?_
 ·exact j.sp 6 [4,0]
 ·rintro hm ak _ w ⟨O,rfl,j⟩
  refine RC.sr (ic ((p0.bV.length:Int)) ((p0.bV.length:Int)) (RL.nq (RC.fw sf (RC.ex ?_))))
  exact⟨rfl,j.sp 2 [0,1]⟩
 ·rintro hm ad ak fl _ w hk ⟨O,rfl,j⟩ hb
  refine RC.sr (ic ((ad:Int)) ((p0.bV.length:Int)) (RL.nq (RC.fu (sd hk) (RC.ss (RC.bs (mv (vi ad) ?_))))))
  obtain⟨ai,a1,hb⟩:=bd hb
  refine RL.bM 1 j Gq a1 fun bp j=>(RL.bF 0 ai j vJ fun bq j=>(RL.alloc j HB.z fun al w j=>?_))
  refine aP (vi ad) (RL.bZ 0 j 1 zr vJ fun w j=>?_)
  refine RL.nt (RC.block (RC.seq ?_))
  obtain⟨an,o,hb⟩:=bd hb
  refine RC.jn (fun(an:Bool)=>SH E V [(1,vp ag 0),(3,vi ad),(4,vp al 0),(10,ah),(11,vi p0.bV.length),(12,vi ad),(17,vb an)] [pt (vp ag 0) p0,bx 94 al ai,rd ah p0.bV]) an ?_ ?_
  ·refine RC.region (RL.aZ zr uK (RL.aM 0 j zr nY Ba ?_))
   obtain⟨ay,a2,o⟩:=bd o
   refine RL.call zt zr MJ [(str ai.Part)] zr (aD (xA N (p0:=ai.Part) j a2) ?_)
   rintro _ w ⟨rfl,j⟩
   refine RL.not ay (mv (vb (!ay)) (fN o (fun ae o=>?_) fun ae o=>?_))
   ·refine bJ ae (bJ ae (bJ ae (bJ ae (fU ae (vb true) (aP (vb true) (RL.nil ?_))))))
    obtain rfl:=oi o
    exact⟨rfl,j.sp 5 [3,0,4]⟩
   refine RL.aZ (hg:=(cg ae)) zr yl (RL.aM (hg:=(cg ae)) 0 j zr qu Ba ?_)
   obtain⟨ao,a3,o⟩:=bd o
   refine RL.call (cg ae) zr Ll [(str ai.fG)] zr (aD (rD N (p0:=ai.fG) j a3) ?_)
   rintro _ w ⟨rfl,j⟩
   refine RL.not (hg:=(cg ae)) ao (fU ae (vb (!ao)) (aP (vb (!ao)) (RL.nil ?_)))
   obtain rfl:=oi o
   exact⟨rfl,j.sp 5 [3,0,4]⟩
  rintro _ w ⟨O,rfl,j⟩
  refine aG (dX hb (fun hc hb=>?_) fun hc hb=>?_)
  ·refine RC.sr (aP (vi 5) (RL.nt (RC.rb (oz (bQ ?_)))))
   obtain rfl:=oi hb
   exact⟨rfl,bY ⟨rfl,j.drop 3⟩⟩
  refine RC.seq ?_
  obtain⟨aq,o,hb⟩:=bd hb
  refine RC.jn (fun(aq:Bool)=>SH E V [(1,vp ag 0),(3,vi ad),(4,vp al 0),(10,ah),(11,vi p0.bV.length),(12,vi ad),(28,vb aq)] [pt (vp ag 0) p0,bx 94 al ai,rd ah p0.bV]) aq ?_ ?_
  ·refine RC.region (RL.aZ zr ym (RL.aM 1 j zr qw cG (RL.dN 0 j zr me iW fun br j=>(RL.bF 0 p0.aJ j oQ fun bt j=>(RL.bC 0 p0.aJ j oR (RL.fO (p0.aJ.length:Int) 1 ?_))))))
   obtain⟨az,a4,o⟩:=bd o
   refine RL.call zt zr IX [(vi ai.cK),(vi 0),(vi (IntKind.wrap .i64 ((p0.aJ.length:Int) - 1)))] zr (aD (ni N (p0:=ai.cK) (p1:=0) (p2:=(IntKind.wrap .i64 ((p0.aJ.length:Int) - 1))) j a4) ?_)
   rintro _ w ⟨rfl,j⟩
   refine RL.not az (mv (vb (!az)) (fN o (fun af o=>?_) fun af o=>?_))
   ·refine bJ af (bJ af (bJ af (bJ af (fU af (vb true) (aP (vb true) (RL.nil ?_))))))
    obtain rfl:=oi o
    exact⟨rfl,j.sp 5 [2,3,4]⟩
   refine RL.aZ (hg:=(cg af)) zr yn (RL.bG (hg:=(cg af)) 3 j zr qx zm fun a5 j=>?_)
   obtain⟨ar,a6,o⟩:=bd o
   refine RL.call (cg af) zr K9 [a5] zr (aD (sE N (i0:=0) j zr a6) ?_)
   rintro _ w ⟨rfl,j⟩
   refine RL.not (hg:=(cg af)) ar (fU af (vb (!ar)) (aP (vb (!ar)) (RL.nil ?_)))
   obtain rfl:=oi o
   exact⟨rfl,j.sp 6 [3,4,5]⟩
  rintro _ w ⟨O,rfl,j⟩
  refine aG (dX hb (fun hc hb=>?_) fun hc hb=>?_)
  ·refine RC.sr (aP (vi 1) (RL.nt (RC.rb (oz (bQ ?_)))))
   obtain rfl:=oi hb
   exact⟨rfl,bY ⟨rfl,j.drop 3⟩⟩
  refine RC.seq ?_
  obtain⟨au,o,hb⟩:=bd hb
  refine RC.jn (fun(au:Bool)=>SH E V [(1,vp ag 0),(10,ah),(11,vi p0.bV.length),(12,vi ad),(43,vb au)] [pt (vp ag 0) p0,rd ah p0.bV]) au ?_ ?_
  ·refine RC.vH mixed [0,0,0,0,2,1,1,1,1,1,1,2,2,0,0,0] [0,1,2,3,5,6,7,8,9,10,4,11,12,13,14,15] ?_
   have j:=j.drew
   refine DP.e0 zr (mv (vi ad) (aY zr (ic ((ad:Int)) 0 (aY zr (mv (vb (decide ((ad:Int)>0))) (DP.d0 (fN o (fun ab o=>?_) fun ab o=>?_)))))))
   rotate_left
   ·refine DP.e0 zr (bJ ab (DP.d0 (DP.e1 undef zr (fun w=>bJ ab DP.d1) (DP.e1 undef zr (fun w=>bJ ab DP.d1) (DP.e1 undef zr (fun w=>bJ ab DP.d1) (DP.e1 undef zr (fun w=>bJ ab DP.d1) (DP.e1 undef zr (fun w=>bJ ab DP.d1) (DP.e1 undef zr (fun w=>bJ ab DP.d1) ?_))))))))
    refine DP.e2 zr (bJ ab (FM zr (bJ ab (FM zr (bJ ab (uh zr (bJ ab (aY zr ?_))))))))
    refine fU ab (vb false) (aY zr (aP (vb false) (DP.d0 (DP.z ?_))))
    obtain rfl:=oi o
    exact⟨rfl,j.sp 3 [0,2]⟩
   refine DP.e0 zr (RL.bG (hg:=(cg ab)) (f:=(fun x=>x)) 1 j zr Fd.self vJ fun a7 j=>(DP.d0 (DP.Cq 1 zr (cg ab) j zr rR oF fun bu j=>(DP.yj p0.bV 0 zr (cg ab) j Bj fun bw a378 bz j=>(DP.e1 (vi ad) zr (fun w=>RL.move (vi ad) (cg ab) DP.d1) (DP.e1 (vi (IntKind.wrap .i64 ((ad:Int) - 1))) zr (fun w=>RL.fO (hg:=(cg ab)) (ad:Int) 1 DP.d1) ?_))))))
   obtain⟨a8,a9,o⟩:=bd o
   refine DP.wx (hg:=(cg ab)) 1 zr j Gq a9 fun b0 j=>(DP.yj a8 0 zr (cg ab) j vJ fun ba a383 b1 j=>(DP.e2 zr ?_))
   obtain⟨b2,bb,o⟩:=bd o
   refine RL.call (cg ab) zr Kg [a7] zr (aD (pN N (i0:=6) j zr bb) ?_)
   rintro bc w j
   refine DP.d2 (⟨⟨zt,j.gm 4⟩,j.gm 1⟩) (DP.e2 zr ?_)
   obtain⟨b3,bf,o⟩:=bd o
   refine RL.call (cg ab) zr Kg [ba] zr (aD (pN N (i0:=2) j zr bf) ?_)
   rintro bg w j
   refine DP.d2 (⟨⟨zt,j.gm 5⟩,j.gm 2⟩) (DP.e2 zr ?_)
   obtain⟨av,bh,o⟩:=bd o
   refine RL.call (cg ab) zr MK [bc,bg] zr (aD (tD N (i0:=1) (i1:=0) j zr zr bh) ?_)
   rintro _ w ⟨rfl,j⟩
   refine DP.d2 (⟨⟨zt,j.gm 5⟩,j.gm 2⟩) (DP.e0 zr (RL.ld av 0 (cg ab) (aY zr (fU ab (vb (decide (av<=0))) (aY zr (aP (vb (decide (av<=0))) (DP.d0 ?_)))))))
   have j:=j.pl 12 [0,1,3,4,6,7,8,9,10,11]
   refine DP.z ?_
   obtain rfl:=oi o
   exact⟨rfl,j.sp 10 [7,9]⟩
  rintro _ w ⟨O,rfl,j⟩
  refine aG (dX hb (fun hc hb=>?_) fun hc hb=>?_)
  rotate_left
  ·refine RC.skip (bO (bO (aG (RC.region (RL.inc hk hm (mv (vi ((ad+1:Nat):Int)) (RL.nil ?_)))))))
   obtain rfl:=oi hb
   exact⟨rfl,j.sp 2 [0,1]⟩
  refine RC.sr (aP (vi 8) (RL.nt (RC.rb (oz (bQ ?_)))))
  obtain rfl:=oi hb
  exact⟨rfl,bY ⟨rfl,j.drop 2⟩⟩
 ·intro r U w e hK
  subst e
  refine bQ ?_
  obtain rfl:=oi hb
  exact hK
 rintro ak _ w rfl ⟨O,rfl,j⟩
 rw [Fo.dB] at hb
 refine aG (RC.sr (aP (vi 0) (RL.nt (RC.ret ?_))))
 obtain rfl:=oi hb
 exact bY ⟨rfl,j.drop 2⟩
theorem sI (o:Holds E w V) (j:l5 N p0 p1 p2 p3=some res):
    Calls bN 57 [(vi p0),(vi p1),(vi p2),(vi p3)].toArray w (gQ (aV E V res)):=by
 unfold l5 at j
 refine enter Tryz.func57 zr zr (RC.sr (aP (vi 0) (RL.ns (mv (vi p2) (mv (vi p1) (RL.fO p2 p1 (RL.fO (IntKind.wrap .i64 (p2 - p1)) 1 (mv (vi p0) ?_))))))))
 refine mv (vi p3) (RL.fO p0 p3 (RL.fO (IntKind.wrap .i64 (p0 - p3)) 1 (RL.Mn (a:=0) (b:=(IntKind.wrap .i64 ((IntKind.wrap .i64 (p2 - p1))+1))) (c:=(IntKind.wrap .i64 ((IntKind.wrap .i64 (p0 - p3))+1))) zt zr zr zr zr (aP (vi (if (if 0< (IntKind.wrap .i64 ((IntKind.wrap .i64 (p2 - p1))+1)) then (IntKind.wrap .i64 ((IntKind.wrap .i64 (p2 - p1))+1)) else 0)< (IntKind.wrap .i64 ((IntKind.wrap .i64 (p0 - p3))+1)) then (IntKind.wrap .i64 ((IntKind.wrap .i64 (p0 - p3))+1)) else (if 0< (IntKind.wrap .i64 ((IntKind.wrap .i64 (p2 - p1))+1)) then (IntKind.wrap .i64 ((IntKind.wrap .i64 (p2 - p1))+1)) else 0))) (RL.nt (RC.ret ?_))))))
 obtain rfl:=oi j
 exact bY ⟨rfl,o.drop 0⟩
theorem Cy {p0 p1:aI} (j:Holds E w V) (h0:V[i0]? =some (rd v0 p0)) (h1:V[i1]? =some (rd v1 p1)) (o:si N p0 p1=some res):
    Calls bN 30 [v0,v1].toArray w (gQ (aV E V res)):=by
 unfold si at o
 refine enter Tryz.func30 zr zr ?_
 have j:=(j.dup (i0+0) h0).dup (i1+1) h1
 refine RC.sr (RL.dK 1 v0 j zr fun aa w j=>?_)
 refine RL.dK 1 v1 j zr fun ab w j=>?_
 refine aP (vi 0) (RL.nq ?_)
 have j:=j.drew
 refine RC.EU (fun w=>Holds E w ([bx 73 ab p1,bx 73 aa p0]++V)) mixed zr [0,0,0,0,0,0,0,0,2,1,1,1,1,1,1,1,1,2,0,0] [0,1,2,3,4,5,6,7,9,10,11,12,13,14,15,16,8,17,18,19] (j.pk 4 [0,1]) (DP.e0 zr (RL.aZ zr gO (aY zr (RL.aM 1 j zr dD cG (aY zr (RL.aZ zr iX (aY zr (RL.aM 1 j zr dY cG ?_))))))))
 refine aY zr (RL.aZ zr gO (aY zr (RL.aM 0 j zr dD cG (aY zr (RL.aZ zr iX (aY zr (RL.aM 0 j zr dY cG (DP.d0 ?_))))))))
 refine DP.e1 (vp aa 1) zr (fun w=>RL.aZ zr gG DP.d1) (DP.IV (vi p0.Y0) zr (fun w j=>RL.aM 1 j zr cZ cG DP.d1) (DP.e1 (vp aa 3) zr (fun w=>RL.aZ zr jZ DP.d1) (DP.IV (vi p0.Y1) zr (fun w j=>RL.aM 1 j zr eT cG DP.d1) (DP.e1 (vp ab 1) zr (fun w=>RL.aZ zr gG DP.d1) (DP.IV (vi p1.Y0) zr (fun w j=>RL.aM 0 j zr cZ cG DP.d1) (DP.e1 (vp ab 3) zr (fun w=>RL.aZ zr jZ DP.d1) (DP.IV (vi p1.Y1) zr (fun w j=>RL.aM 0 j zr eT cG DP.d1) (DP.e2 zr ?_))))))))
 obtain⟨ad,af,o⟩:=bd o
 refine RL.call zt zr Lq [(vi p0.X0),(vi p0.X1),(vi p1.X0),(vi p1.X1)] zr (aD (sI N (p0:=p0.X0) (p1:=p0.X1) (p2:=p1.X0) (p3:=p1.X1) j af) ?_)
 rintro _ w ⟨rfl,j⟩
 refine DP.d2 (j.pk 4 [0,1]) (DP.e2 zr ?_)
 obtain⟨ae,ag,o⟩:=bd o
 refine RL.call zt zr Lq [(vi p0.Y0),(vi p0.Y1),(vi p1.Y0),(vi p1.Y1)] zr (aD (sI N (p0:=p0.Y0) (p1:=p0.Y1) (p2:=p1.Y0) (p3:=p1.Y1) j ag) ?_)
 rintro _ w ⟨rfl,j⟩
 refine DP.d2 (j.pk 4 [0,1]) (DP.e0 zr (RL.max ad ae (aY zr (aP (vi (if ad<ae then ae else ad)) (DP.d0 (DP.z (aG (RC.ret ?_))))))))
 obtain rfl:=oi o
 exact bY ⟨rfl,j.drop 4⟩
end Go.Gk
