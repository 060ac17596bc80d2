/-
  Printed texts: Go functions as plain functions, and that they are. No statement of the seed is proved here.
-/
import Derived.Test.YtmmiladckdcjeabGreatDoorG1
import Derived.Test.YtmmiladckdcjeabGreatDoorA2
set_option linter.unusedVariables false
set_option linter.unusedSimpArgs false
set_option linter.unusedSectionVars false
set_option maxRecDepth 100000
set_option maxHeartbeats 4000000
namespace Go.Gk
open Go Go.Proofs
variable (N:Nat) {E w:World} {i0 i1:Nat} {p0 p1 p2 p3 res:Int} {v0 v1:Value} {V:List HP}
theorem jr {p0:cA} {res:aI} (j:Holds E w V) (h0:V[i0]? =some (rd v0 p0)) (o:gD N p0=some res):
    Calls bN 25 [v0].toArray w (gJ (oS E V res)):=by
 unfold gD at o
 refine enter Tryz.func25 zr zr ?_
 have j:=j.dup (i0+0) h0
 refine RC.sr (RL.dD 0 v0 j zr fun aa w j=>?_)
 refine RL.alloc j oR.z fun ab w j=>?_
 refine RL.nq (RC.zm mixed ?_)
 have j:=j.drew
 refine RO.go (RL.aX zr yF (RO.nx (RL.aX zr wP (RO.nx (RL.aM (f:=(fun x=>x.At.X)) 1 j zr (Fd.comp (f:=fun(x:cA)=>x.At) (fun(x:jw)=>x.X) qE nZ) cL (RO.nx (RL.aX zr r6 (RO.nx ?_))))))))
 refine RL.aM 1 j zr mb cL (RO.nx (RL.quo p0.dG 2 (RO.nx (RL.gk p0.At.X (IntKind.wrap .i64 (Int.tdiv p0.dG 2)) (RO.nx (RL.aX zr yF (RO.nx (RL.aX zr wQ ?_))))))))
 refine RO.nx (RL.aM (f:=(fun x=>x.At.Y)) 1 j zr (Fd.comp (f:=fun(x:cA)=>x.At) (fun(x:jw)=>x.Y) qE n0) cL (RO.nx (RL.aX zr r6 (RO.nx (RL.aM 1 j zr mb cL (RO.nx (RL.quo p0.dG 2 (RO.nx ?_))))))))
 refine RL.gk p0.At.Y (IntKind.wrap .i64 (Int.tdiv p0.dG 2)) (RO.nx (aP (vi (IntKind.wrap .i64 (p0.At.X - (IntKind.wrap .i64 (Int.tdiv p0.dG 2))))) (RO.nx (aP (vi (IntKind.wrap .i64 (p0.At.Y - (IntKind.wrap .i64 (Int.tdiv p0.dG 2))))) (RO.last (aH (RC.sr (mv (vi (IntKind.wrap .i64 (p0.At.X - (IntKind.wrap .i64 (Int.tdiv p0.dG 2))))) ?_))))))))
 refine mv (vi (IntKind.wrap .i64 (p0.At.Y - (IntKind.wrap .i64 (Int.tdiv p0.dG 2))))) (mv (vi (IntKind.wrap .i64 (p0.At.X - (IntKind.wrap .i64 (Int.tdiv p0.dG 2))))) (RL.aX zr r6 (RL.aM 1 j zr mb cL (RL.gk (IntKind.wrap .i64 (p0.At.X - (IntKind.wrap .i64 (Int.tdiv p0.dG 2)))) p0.dG (mv (vi (IntKind.wrap .i64 (p0.At.Y - (IntKind.wrap .i64 (Int.tdiv p0.dG 2))))) (RL.aX zr r6 (RL.aM 1 j zr mb cL (RL.gk (IntKind.wrap .i64 (p0.At.Y - (IntKind.wrap .i64 (Int.tdiv p0.dG 2)))) p0.dG ?_))))))))
 have j:=((j.sc Int (IntKind.wrap .i64 (p0.At.X - (IntKind.wrap .i64 (Int.tdiv p0.dG 2))))).sc Int (IntKind.wrap .i64 (p0.At.Y - (IntKind.wrap .i64 (Int.tdiv p0.dG 2))))).sc Int (IntKind.wrap .i64 ((IntKind.wrap .i64 (p0.At.X - (IntKind.wrap .i64 (Int.tdiv p0.dG 2))))+p0.dG))
 have j:=j.sc Int (IntKind.wrap .i64 ((IntKind.wrap .i64 (p0.At.Y - (IntKind.wrap .i64 (Int.tdiv p0.dG 2))))+p0.dG))
 refine RL.build (⟨(IntKind.wrap .i64 (p0.At.X - (IntKind.wrap .i64 (Int.tdiv p0.dG 2)))),(IntKind.wrap .i64 (p0.At.Y - (IntKind.wrap .i64 (Int.tdiv p0.dG 2)))),(IntKind.wrap .i64 ((IntKind.wrap .i64 (p0.At.X - (IntKind.wrap .i64 (Int.tdiv p0.dG 2))))+p0.dG)),(IntKind.wrap .i64 ((IntKind.wrap .i64 (p0.At.Y - (IntKind.wrap .i64 (Int.tdiv p0.dG 2))))+p0.dG))⟩:aI) trivial rfl j [(0,(vi (IntKind.wrap .i64 (p0.At.X - (IntKind.wrap .i64 (Int.tdiv p0.dG 2)))))),(1,(vi (IntKind.wrap .i64 (p0.At.Y - (IntKind.wrap .i64 (Int.tdiv p0.dG 2)))))),(2,(vi (IntKind.wrap .i64 ((IntKind.wrap .i64 (p0.At.X - (IntKind.wrap .i64 (Int.tdiv p0.dG 2))))+p0.dG)))),(3,(vi (IntKind.wrap .i64 ((IntKind.wrap .i64 (p0.At.Y - (IntKind.wrap .i64 (Int.tdiv p0.dG 2))))+p0.dG))))] rfl DV rfl (fun M hs g=>by have h:=tF M;exact cT.cons (f:=fun(x:aI) y=>{x with X0:=y}) h pf (g.sat 3 _ rfl).1 fun _ h=>cT.cons (f:=fun(x:aI) y=>{x with Y0:=y}) h qC (g.sat 2 _ rfl).1 fun _ h=>cT.cons (f:=fun(x:aI) y=>{x with X1:=y}) h pg (g.sat 1 _ rfl).1 fun _ h=>cT.cons (f:=fun(x:aI) y=>{x with Y1:=y}) h qD (g.sat 0 _ rfl).1 fun _ h=>cT.nil h) fun ad j=>?_
 refine RL.bZ 5 j 0 zr iK fun w j=>?_
 refine RL.nt (RC.ret ?_)
 obtain rfl:=oi o
 exact IH 5 zr j zr zr iK fun ae j=>(j.pk 9 [0])
theorem v7 {p0: (List aA)} {res:aI} (j:Holds E w V) (h0:V[i0]? =some (rd v0 p0)) (hb:ni N p0=some res):
    Calls bN 85 [v0].toArray w (gJ (oS E V res)):=by
 unfold ni at hb
 refine enter Tryz.func85 zr zr ?_
 have j:=j.dup (i0+0) h0
 refine RC.sr (RL.alloc j oR.z fun bf w j=>?_)
 refine RL.nq ?_
 obtain⟨bj,bo,hb⟩:=bd hb
 obtain⟨bb,bp,hb⟩:=bd hb
 obtain⟨a8,bq,hb⟩:=bd hb
 obtain⟨bk,br,hb⟩:=bd hb
 obtain⟨bc,bt,hb⟩:=bd hb
 obtain⟨a9,bu,hb⟩:=bd hb
 refine RC.Gq E V mixed [1,0,0,0,0,0,1,0,0,0,1,0,0,0,0,0,1,1,0,1,0,0,0,0,0,0] [1,2,3,4,7,8,11,12,13,14,20,21,23,24,25] (fun(x:Value×Value×Value×Value×Value×Value×Value×Value×Value×Value×Value×Value×Value×Nat)=>(fun ah ai aj ak al an ao aq ar au av aw ax ae=>[(0,6,v0),(1,7,ah),(2,8,ai),(3,9,aj),(4,10,ak),(5,11,(vi bb)),(6,12,v0),(7,13,al),(8,14,an),(9,15,(vi a8.Y0)),(10,16,v0),(11,17,ao),(12,18,aq),(13,19,ar),(14,20,au),(15,21,(vi bc)),(16,22,v0),(17,23,v0),(18,24,(vi p0.length)),(19,25,(vi (IntKind.wrap .i64 ((p0.length:Int) - 1)))),(20,26,av),(21,27,aw),(22,28,(vi a9.Y1)),(23,29,ax),(24,3,(vp ae 0))]) x.1 x.2.1 x.2.2.1 x.2.2.2.1 x.2.2.2.2.1 x.2.2.2.2.2.1 x.2.2.2.2.2.2.1 x.2.2.2.2.2.2.2.1 x.2.2.2.2.2.2.2.2.1 x.2.2.2.2.2.2.2.2.2.1 x.2.2.2.2.2.2.2.2.2.2.1 x.2.2.2.2.2.2.2.2.2.2.2.1 x.2.2.2.2.2.2.2.2.2.2.2.2.1 x.2.2.2.2.2.2.2.2.2.2.2.2.2) [(0,v0),(2,vp bf 0)] [] (fun(D:Nat->Bool) (x:Value×Value×Value×Value×Value×Value×Value×Value×Value×Value×Value×Value×Value×Nat)=>(fun ah ai aj ak al an ao aq ar au av aw ax ae=>[bif D 0 then (pt ah bj) else bE,bif D 1 then (pt ai bj.Xs) else bE,bif D 2 then (rd aj bj.Xs) else bE,bif D 3 then (pt ak bb) else bE,bif D 4 then (pt al a8) else bE,bif D 5 then (pt an a8.Y0) else bE,bif D 6 then (pt ao bk) else bE,bif D 7 then (pt aq bk.Xs) else bE,bif D 8 then (rd ar bk.Xs) else bE,bif D 9 then (pt au bc) else bE,bif D 10 then (pt av a9) else bE,bif D 11 then (pt aw a9.Y1) else bE,bif D 12 then (rd ax (⟨bb,a8.Y0,bc,a9.Y1⟩:aI)) else bE,bif D 14 then (bx 69 ae (⟨bb,a8.Y0,bc,a9.Y1⟩:aI)) else (bif D 13 then (raw 69 ae 4) else bE),raw 69 bf 4,rd v0 p0]) x.1 x.2.1 x.2.2.1 x.2.2.2.1 x.2.2.2.2.1 x.2.2.2.2.2.1 x.2.2.2.2.2.2.1 x.2.2.2.2.2.2.2.1 x.2.2.2.2.2.2.2.2.1 x.2.2.2.2.2.2.2.2.2.1 x.2.2.2.2.2.2.2.2.2.2.1 x.2.2.2.2.2.2.2.2.2.2.2.1 x.2.2.2.2.2.2.2.2.2.2.2.2.1 x.2.2.2.2.2.2.2.2.2.2.2.2.2) (fun x=>by kernel_rfl) ?_ ⟨fun _=>jL gn,?_,?_,?_,?_,?_,fun _=>jL gn,?_,?_,?_,fun _=>jL gn,?_,?_,?_,?_,?_,fun _=>jL gn,fun _=>jL gn,?_,fun _=>Kb gn rfl,?_,?_,?_,?_,?_,?_,trivial⟩ ?_
 ·have j:=((((((((((((j.drew).bE).bE).bE).bE).bE).bE).bE).bE).bE).bE).bE).bE
  have j:=(j.bE).bE
  exact⟨(undef,undef,undef,undef,undef,undef,undef,undef,undef,undef,undef,undef,undef,0),fR.none,(E3 zr),zt,j⟩
 ·rintro D U w hD o ag ⟨⟨ah,ai,aj,ak,al,an,ao,aq,ar,au,av,aw,ax,ae⟩,hv,ha,_,j⟩
  obtain⟨O,rfl⟩:=(ac (hv.at 0 rfl (o.1 rfl)) az).fM
  have j:=j.cD 0 hD
  refine RL.bO 15 j pZ bo fun bw j=>?_
  have j:=(j.pl 17 [0,2,3,4,5,6,7,8,9,10,11,12,13,14,15,16]).cR 0 true rfl bE
  exact RL.nil ⟨rfl,(bw,ai,aj,ak,al,an,ao,aq,ar,au,av,aw,ax,ae),hv.pu 1,ha.u,zt,j⟩
 ·rintro D U w hD o ag ⟨⟨ah,ai,aj,ak,al,an,ao,aq,ar,au,av,aw,ax,ae⟩,hv,ha,_,j⟩
  obtain⟨O,rfl⟩:=(ac (hv.at 1 rfl (o.1 rfl)) az).fM
  have j:=(j.cQ 0 (o.1 rfl)).cD 1 hD
  refine RL.dV 0 j zr mq eC fun bz j=>?_
  have j:=((j.pl 17 [1,0,3,4,5,6,7,8,9,10,11,12,13,14,15,16]).cR 0 (D 1) (o.1 rfl) bE).cR 1 true rfl bE
  exact RL.nil ⟨rfl,(ah,bz,aj,ak,al,an,ao,aq,ar,au,av,aw,ax,ae),hv.pu 2,ha.u,zt,j⟩
 ·rintro D U w hD o ag ⟨⟨ah,ai,aj,ak,al,an,ao,aq,ar,au,av,aw,ax,ae⟩,hv,ha,_,j⟩
  obtain⟨O,rfl⟩:=(ac (hv.at 2 rfl (o.1 rfl)) az).fM
  have j:=(j.cQ 1 (o.1 rfl)).cD 2 hD
  refine RL.bJ 1 bj.Xs j eV fun b0 j=>?_
  have j:=((j.pl 17 [1,2,0,4,5,6,7,8,9,10,11,12,13,14,15,16]).cR 1 (D 2) (o.1 rfl) bE).cR 2 true rfl bE
  exact RL.nil ⟨rfl,(ah,ai,b0,ak,al,an,ao,aq,ar,au,av,aw,ax,ae),hv.pu 3,ha.u,zt,j⟩
 ·rintro D U w hD o ag ⟨⟨ah,ai,aj,ak,al,an,ao,aq,ar,au,av,aw,ax,ae⟩,hv,ha,_,j⟩
  obtain⟨O,rfl⟩:=(ac (hv.at 3 rfl (o.1 rfl)) az).fM
  have j:=(j.cQ 2 (o.1 rfl)).cD 3 hD
  refine RL.bO 2 j eF bp fun b1 j=>?_
  have j:=((j.pl 17 [1,2,3,0,5,6,7,8,9,10,11,12,13,14,15,16]).cR 2 (D 3) (o.1 rfl) bE).cR 3 true rfl bE
  exact RL.nil ⟨rfl,(ah,ai,aj,b1,al,an,ao,aq,ar,au,av,aw,ax,ae),hv.pu 4,ha.u,zt,j⟩
 ·rintro D U w hD o ag ⟨⟨ah,ai,aj,ak,al,an,ao,aq,ar,au,av,aw,ax,ae⟩,hv,ha,_,j⟩
  obtain⟨O,rfl⟩:=(ac (hv.at 4 rfl (o.1 rfl)) az).fM
  have j:=j.cQ 3 (o.1 rfl)
  refine RL.bG bb 3 j cL ?_
  have j:=j.cR 3 (D 4) (o.1 rfl) bE
  exact RL.nil ⟨rfl,(ah,ai,aj,ak,al,an,ao,aq,ar,au,av,aw,ax,ae),hv.pu 5,ha.u,zt,j⟩
 ·rintro D U w hD o ag ⟨⟨ah,ai,aj,ak,al,an,ao,aq,ar,au,av,aw,ax,ae⟩,hv,ha,_,j⟩
  obtain⟨O,rfl⟩:=(ac (hv.at 6 rfl (o.1 rfl)) az).fM
  have j:=j.cD 4 hD
  refine RL.bO 15 j pZ bq fun b2 j=>?_
  have j:=(j.pl 17 [1,2,3,4,0,6,7,8,9,10,11,12,13,14,15,16]).cR 4 true rfl bE
  exact RL.nil ⟨rfl,(ah,ai,aj,ak,b2,an,ao,aq,ar,au,av,aw,ax,ae),hv.pu 7,ha.u,zt,j⟩
 ·rintro D U w hD o ag ⟨⟨ah,ai,aj,ak,al,an,ao,aq,ar,au,av,aw,ax,ae⟩,hv,ha,_,j⟩
  obtain⟨O,rfl⟩:=(ac (hv.at 7 rfl (o.1 rfl)) az).fM
  have j:=(j.cQ 4 (o.1 rfl)).cD 5 hD
  refine RL.dV 4 j zr ql ik fun b3 j=>?_
  have j:=((j.pl 17 [1,2,3,4,5,0,7,8,9,10,11,12,13,14,15,16]).cR 4 (D 7) (o.1 rfl) bE).cR 5 true rfl bE
  exact RL.nil ⟨rfl,(ah,ai,aj,ak,al,b3,ao,aq,ar,au,av,aw,ax,ae),hv.pu 8,ha.u,zt,j⟩
 ·rintro D U w hD o ag ⟨⟨ah,ai,aj,ak,al,an,ao,aq,ar,au,av,aw,ax,ae⟩,hv,ha,_,j⟩
  obtain⟨O,rfl⟩:=(ac (hv.at 8 rfl (o.1 rfl)) az).fM
  have j:=j.cQ 5 (o.1 rfl)
  refine RL.bG a8.Y0 5 j cL ?_
  have j:=j.cR 5 (D 8) (o.1 rfl) bE
  exact RL.nil ⟨rfl,(ah,ai,aj,ak,al,an,ao,aq,ar,au,av,aw,ax,ae),hv.pu 9,ha.u,zt,j⟩
 ·rintro D U w hD o ag ⟨⟨ah,ai,aj,ak,al,an,ao,aq,ar,au,av,aw,ax,ae⟩,hv,ha,_,j⟩
  obtain⟨O,rfl⟩:=(ac (hv.at 10 rfl (o.1 rfl)) az).fM
  have j:=j.cD 6 hD
  refine RL.bO 15 j pZ br fun b4 j=>?_
  have j:=(j.pl 17 [1,2,3,4,5,6,0,8,9,10,11,12,13,14,15,16]).cR 6 true rfl bE
  exact RL.nil ⟨rfl,(ah,ai,aj,ak,al,an,b4,aq,ar,au,av,aw,ax,ae),hv.pu 11,ha.u,zt,j⟩
 ·rintro D U w hD o ag ⟨⟨ah,ai,aj,ak,al,an,ao,aq,ar,au,av,aw,ax,ae⟩,hv,ha,_,j⟩
  obtain⟨O,rfl⟩:=(ac (hv.at 11 rfl (o.1 rfl)) az).fM
  have j:=(j.cQ 6 (o.1 rfl)).cD 7 hD
  refine RL.dV 6 j zr mq eC fun b5 j=>?_
  have j:=((j.pl 17 [1,2,3,4,5,6,7,0,9,10,11,12,13,14,15,16]).cR 6 (D 11) (o.1 rfl) bE).cR 7 true rfl bE
  exact RL.nil ⟨rfl,(ah,ai,aj,ak,al,an,ao,b5,ar,au,av,aw,ax,ae),hv.pu 12,ha.u,zt,j⟩
 ·rintro D U w hD o ag ⟨⟨ah,ai,aj,ak,al,an,ao,aq,ar,au,av,aw,ax,ae⟩,hv,ha,_,j⟩
  obtain⟨O,rfl⟩:=(ac (hv.at 12 rfl (o.1 rfl)) az).fM
  have j:=(j.cQ 7 (o.1 rfl)).cD 8 hD
  refine RL.bJ 7 bk.Xs j eV fun b6 j=>?_
  have j:=((j.pl 17 [1,2,3,4,5,6,7,8,0,10,11,12,13,14,15,16]).cR 7 (D 12) (o.1 rfl) bE).cR 8 true rfl bE
  exact RL.nil ⟨rfl,(ah,ai,aj,ak,al,an,ao,aq,b6,au,av,aw,ax,ae),hv.pu 13,ha.u,zt,j⟩
 ·rintro D U w hD o ag ⟨⟨ah,ai,aj,ak,al,an,ao,aq,ar,au,av,aw,ax,ae⟩,hv,ha,_,j⟩
  obtain⟨O,rfl⟩:=(ac (hv.at 13 rfl (o.1 rfl)) az).fM
  have j:=(j.cQ 8 (o.1 rfl)).cD 9 hD
  refine RL.bO 8 j eF bt fun b7 j=>?_
  have j:=((j.pl 17 [1,2,3,4,5,6,7,8,9,0,11,12,13,14,15,16]).cR 8 (D 13) (o.1 rfl) bE).cR 9 true rfl bE
  exact RL.nil ⟨rfl,(ah,ai,aj,ak,al,an,ao,aq,ar,b7,av,aw,ax,ae),hv.pu 14,ha.u,zt,j⟩
 ·rintro D U w hD o ag ⟨⟨ah,ai,aj,ak,al,an,ao,aq,ar,au,av,aw,ax,ae⟩,hv,ha,_,j⟩
  obtain⟨O,rfl⟩:=(ac (hv.at 14 rfl (o.1 rfl)) az).fM
  have j:=j.cQ 9 (o.1 rfl)
  refine RL.bG bc 9 j cL ?_
  have j:=j.cR 9 (D 14) (o.1 rfl) bE
  exact RL.nil ⟨rfl,(ah,ai,aj,ak,al,an,ao,aq,ar,au,av,aw,ax,ae),hv.pu 15,ha.u,zt,j⟩
 ·rintro D U w hD o ag ⟨⟨ah,ai,aj,ak,al,an,ao,aq,ar,au,av,aw,ax,ae⟩,hv,ha,_,j⟩
  obtain⟨O,rfl⟩:=(ac (hv.at 17 rfl (o.1 rfl)) az).fM
  refine RL.bB 15 p0 j vW ?_
  exact RL.nil ⟨rfl,(ah,ai,aj,ak,al,an,ao,aq,ar,au,av,aw,ax,ae),hv.pu 18,ha.u,zt,j⟩
 ·rintro D U w hD o ag ⟨⟨ah,ai,aj,ak,al,an,ao,aq,ar,au,av,aw,ax,ae⟩,hv,ha,_,j⟩
  obtain⟨O,rfl⟩:=(ac (hv.at 16 rfl (o.1 rfl)) (ac (hv.at 19 rfl (o.2.1 rfl)) az)).fM
  have j:=j.cD 10 hD
  refine RL.bO 15 j pZ bu fun b8 j=>?_
  have j:=(j.pl 17 [1,2,3,4,5,6,7,8,9,10,0,12,13,14,15,16]).cR 10 true rfl bE
  exact RL.nil ⟨rfl,(ah,ai,aj,ak,al,an,ao,aq,ar,au,b8,aw,ax,ae),hv.pu 20,ha.u,zt,j⟩
 ·rintro D U w hD o ag ⟨⟨ah,ai,aj,ak,al,an,ao,aq,ar,au,av,aw,ax,ae⟩,hv,ha,_,j⟩
  obtain⟨O,rfl⟩:=(ac (hv.at 20 rfl (o.1 rfl)) az).fM
  have j:=(j.cQ 10 (o.1 rfl)).cD 11 hD
  refine RL.dV 10 j zr nU fS fun b9 j=>?_
  have j:=((j.pl 17 [1,2,3,4,5,6,7,8,9,10,11,0,13,14,15,16]).cR 10 (D 20) (o.1 rfl) bE).cR 11 true rfl bE
  exact RL.nil ⟨rfl,(ah,ai,aj,ak,al,an,ao,aq,ar,au,av,b9,ax,ae),hv.pu 21,ha.u,zt,j⟩
 ·rintro D U w hD o ag ⟨⟨ah,ai,aj,ak,al,an,ao,aq,ar,au,av,aw,ax,ae⟩,hv,ha,_,j⟩
  obtain⟨O,rfl⟩:=(ac (hv.at 21 rfl (o.1 rfl)) az).fM
  have j:=j.cQ 11 (o.1 rfl)
  refine RL.bG a9.Y1 11 j cL ?_
  have j:=j.cR 11 (D 21) (o.1 rfl) bE
  exact RL.nil ⟨rfl,(ah,ai,aj,ak,al,an,ao,aq,ar,au,av,aw,ax,ae),hv.pu 22,ha.u,zt,j⟩
 ·rintro D U w hD o ag ⟨⟨ah,ai,aj,ak,al,an,ao,aq,ar,au,av,aw,ax,ae⟩,hv,ha,_,j⟩
  obtain⟨O,rfl⟩:=(ac (hv.at 5 rfl (o.1 rfl)) (ac (hv.at 9 rfl (o.2.1 rfl)) (ac (hv.at 15 rfl (o.2.2.1 rfl)) (ac (hv.at 22 rfl (o.2.2.2.1 rfl)) az)))).fM
  have j:=((((j.cD 12 hD).sc Int bb).sc Int a8.Y0).sc Int bc).sc Int a9.Y1
  refine RL.build (⟨bb,a8.Y0,bc,a9.Y1⟩:aI) trivial rfl j [(0,vi bb),(1,vi a8.Y0),(2,vi bc),(3,vi a9.Y1)] rfl DV rfl (fun M hs g=>by have h:=tF M;exact cT.cons (f:=fun(x:aI) y=>{x with X0:=y}) h pf (g.sat 3 _ rfl).1 fun _ h=>cT.cons (f:=fun(x:aI) y=>{x with Y0:=y}) h qC (g.sat 2 _ rfl).1 fun _ h=>cT.cons (f:=fun(x:aI) y=>{x with X1:=y}) h pg (g.sat 1 _ rfl).1 fun _ h=>cT.cons (f:=fun(x:aI) y=>{x with Y1:=y}) h qD (g.sat 0 _ rfl).1 fun _ h=>cT.nil h) fun ca j=>?_
  have j:=(j.pl 21 [5,6,7,8,9,10,11,12,13,14,15,16,0,18,19,20]).cR 12 true rfl bE
  exact RL.nil ⟨rfl,(ah,ai,aj,ak,al,an,ao,aq,ar,au,av,aw,ca,ae),hv.pu 23,ha.u,zt,j⟩
 ·rintro D U w hD o ag ⟨⟨ah,ai,aj,ak,al,an,ao,aq,ar,au,av,aw,ax,ae⟩,hv,ha,_,j⟩
  obtain⟨O,rfl⟩:=(az (U:=U)).fM
  have j:=(j.cD 13 (nh ag hD 25)).cD 13 hD
  refine RL.alloc j oR.z fun bl w j=>?_
  have j:=((j.pl 17 [1,2,3,4,5,6,7,8,9,10,11,12,13,0,15,16]).cR 13 true rfl bE).fw 13 (D 25) (nh ag hD 25) (bx 69 bl (⟨bb,a8.Y0,bc,a9.Y1⟩:aI))
  exact RL.nil ⟨rfl,(ah,ai,aj,ak,al,an,ao,aq,ar,au,av,aw,ax,bl),hv.pu 24,ha.u,zt,j⟩
 ·rintro D U w hD o ag ⟨⟨ah,ai,aj,ak,al,an,ao,aq,ar,au,av,aw,ax,ae⟩,hv,ha,_,j⟩
  obtain⟨O,rfl⟩:=(ac (hv.at 23 rfl (o.2.1 rfl)) (ac (hv.at 24 rfl (o.1 rfl)) az)).fM
  have j:=((j.cQ 12 (o.2.1 rfl)).cD 13 hD).cQ 13 (o.1 rfl)
  refine RL.bZ 13 j 12 zr iK fun w j=>?_
  have j:=(j.cR 12 (D 23) (o.2.1 rfl) bE).cR 13 true rfl (bif D 24 then (raw 69 ae 4) else bE)
  exact RL.nil ⟨rfl,(ah,ai,aj,ak,al,an,ao,aq,ar,au,av,aw,ax,ae),hv.n1,ha,zt,j⟩
 rintro D U w a6 ⟨⟨ah,ai,aj,ak,al,an,ao,aq,ar,au,av,aw,ax,ae⟩,hv,ha,_,j⟩
 have j:=((((((j.cQ 0 (kU a6 1)).cQ 1 (kU a6 2)).cQ 2 (kU a6 3)).cQ 3 (kU a6 4)).cQ 4 (kU a6 7)).cQ 5 (kU a6 8)).cQ 6 (kU a6 11)
 have j:=((((((j.cQ 7 (kU a6 12)).cQ 8 (kU a6 13)).cQ 9 (kU a6 14)).cQ 10 (kU a6 20)).cQ 11 (kU a6 21)).cQ 12 (kU a6 23)).cQ 13 (kU a6 25)
 obtain⟨O,rfl⟩:=(ac (hv.at 24 rfl (kU a6 24)) (ac (ha.at 0 rfl) (ac (ha.at 1 rfl) az))).fM
 refine aH (RC.seq (RC.sr (mv v0 (RL.bB 15 p0 j vW (mv (vi 0) (RL.nt ?_))))))
 obtain⟨af,hN,hb⟩:=bd hb
 refine RC.fold (fun(bg:Nat) (af:aI)=>SH E V [(2,vp bf 0),(3,vp ae 0),(30,v0),(31,vi p0.length),(32,vi bg)] [raw 69 bf 4,bx 69 ae af,rd v0 p0]) (fun(af:aI)=>SH E V [(2,vp bf 0),(3,vp ae 0)] [raw 69 bf 4,bx 69 ae af,rd v0 p0]) hN ?_ ?_ ?_ ?_
 ·exact j.sp 16 [14,13,15]
 ·rintro hm af _ w ⟨O,rfl,j⟩
  refine RC.sr (ic ((p0.length:Int)) ((p0.length:Int)) (RL.nq (RC.fu sA (RC.ex ?_))))
  exact⟨rfl,j.sp 3 [0,1,2]⟩
 ·rintro hm bg af s' _ w hk ⟨O,rfl,j⟩ hb
  refine RC.sr (ic ((bg:Int)) ((p0.length:Int)) (RL.nq (RC.eZ (sw hk) (RC.ss (RC.bs ?_)))))
  obtain⟨ba,cc,hb⟩:=bd hb
  refine RL.bO 2 j pZ cc fun cd j=>(RL.bJ 0 ba j xO fun cf j=>(RL.alloc j DU.z fun bh w j=>?_))
  refine RL.bZ 0 j 1 zr xO fun w j=>?_
  refine RL.nt ?_
  obtain⟨a5,cg,hb⟩:=bd hb
  obtain⟨a7,ch,hb⟩:=bd hb
  refine RC.Gq E V mixed [1,0,1,0,0,0,0,1,0,1,0,1,0,0,1,0,0,0,1,0,1,0] [3,4,10,12,15,19,21] (fun(x:Value×Value×Value×Value×Value)=>(fun ay a0 a1 a2 a3=>[(0,36,(vp ae 0)),(1,37,(vi af.X0)),(2,38,(vp bh 2)),(3,39,ay),(4,40,a0),(5,41,(vi a5)),(6,42,(vi (if a5<af.X0 then a5 else af.X0))),(7,43,(vp ae 2)),(8,44,(vi af.X1)),(9,45,(vp bh 2)),(10,46,a1),(11,47,(vp bh 2)),(12,48,a2),(13,49,(vi ba.Xs.length)),(14,50,(vi (IntKind.wrap .i64 ((ba.Xs.length:Int) - 1)))),(15,51,a3),(16,52,(vi a7)),(17,53,(vi (if af.X1<a7 then a7 else af.X1))),(18,54,(vp ae 0)),(20,55,(vp ae 2))]) x.1 x.2.1 x.2.2.1 x.2.2.2.1 x.2.2.2.2) [(2,vp bf 0),(3,vp ae 0),(5,vp bh 0),(30,v0),(31,vi p0.length),(32,vi bg)] [] (fun(D:Nat->Bool) (x:Value×Value×Value×Value×Value)=>(fun ay a0 a1 a2 a3=>[bif D 0 then (rd ay ba.Xs) else bE,bif D 1 then (pt a0 a5) else bE,bif D 2 then (rd a1 ba.Xs) else bE,bif D 3 then (rd a2 ba.Xs) else bE,bif D 4 then (pt a3 a7) else bE,bx 126 bh ba,rd cf ba,pt cd ba,raw 69 bf 4,bif D 6 then (bx 69 ae {{af with X0:=(if a5<af.X0 then a5 else af.X0)} with X1:=(if af.X1<a7 then a7 else af.X1)}) else (bif D 5 then (bx 69 ae {af with X0:=(if a5<af.X0 then a5 else af.X0)}) else (bx 69 ae af)),rd v0 p0]) x.1 x.2.1 x.2.2.1 x.2.2.2.1 x.2.2.2.2) (fun x=>by kernel_rfl) ?_ ⟨fun _=>nY gn iw,?_,fun _=>nY gn mq,?_,?_,?_,?_,fun _=>nY gn jo,?_,fun _=>nY gn mq,?_,fun _=>nY gn mq,?_,?_,fun _=>Kb gn rfl,?_,?_,?_,fun _=>nY gn iw,?_,fun _=>nY gn jo,?_,trivial⟩ ?_
  ·have j:=(((((j.drew).bE).bE).bE).bE).bE
   exact⟨(undef,undef,undef,undef,undef),fR.none,(E3 zr),zt,j⟩
  ·rintro D U w hD o ag ⟨⟨ay,a0,a1,a2,a3⟩,hv,ha,_,j⟩
   obtain⟨O,rfl⟩:=(ac (hv.at 0 rfl (o.1 rfl)) az).fM
   have j:=(j.cD 9 (nh ag hD 21)).cD 9 (nh ag hD 19)
   refine RL.aM 9 j zr dQ cL ?_
   have j:=(j.fw 9 (D 19) (nh ag hD 19) (bx 69 ae {af with X0:=(if a5<af.X0 then a5 else af.X0)})).fw 9 (D 21) (nh ag hD 21) (bx 69 ae {{af with X0:=(if a5<af.X0 then a5 else af.X0)} with X1:=(if af.X1<a7 then a7 else af.X1)})
   exact RL.nil ⟨rfl,(ay,a0,a1,a2,a3),hv.pu 1,ha.u,zt,j⟩
  ·rintro D U w hD o ag ⟨⟨ay,a0,a1,a2,a3⟩,hv,ha,_,j⟩
   obtain⟨O,rfl⟩:=(ac (hv.at 2 rfl (o.1 rfl)) az).fM
   have j:=j.cD 0 hD
   refine RL.aZ 5 j zr eC eV fun cj j=>?_
   have j:=(j.pl 12 [0,2,3,4,5,6,7,8,9,10,11]).cR 0 true rfl bE
   exact RL.nil ⟨rfl,(cj,a0,a1,a2,a3),hv.pu 3,ha.u,zt,j⟩
  ·rintro D U w hD o ag ⟨⟨ay,a0,a1,a2,a3⟩,hv,ha,_,j⟩
   obtain⟨O,rfl⟩:=(ac (hv.at 3 rfl (o.1 rfl)) az).fM
   have j:=(j.cQ 0 (o.1 rfl)).cD 1 hD
   refine RL.bO 0 j eF cg fun ck j=>?_
   have j:=((j.pl 12 [1,0,3,4,5,6,7,8,9,10,11]).cR 0 (D 3) (o.1 rfl) bE).cR 1 true rfl bE
   exact RL.nil ⟨rfl,(ay,ck,a1,a2,a3),hv.pu 4,ha.u,zt,j⟩
  ·rintro D U w hD o ag ⟨⟨ay,a0,a1,a2,a3⟩,hv,ha,_,j⟩
   obtain⟨O,rfl⟩:=(ac (hv.at 4 rfl (o.1 rfl)) az).fM
   have j:=j.cQ 1 (o.1 rfl)
   refine RL.bG a5 1 j cL ?_
   have j:=j.cR 1 (D 4) (o.1 rfl) bE
   exact RL.nil ⟨rfl,(ay,a0,a1,a2,a3),hv.pu 5,ha.u,zt,j⟩
  ·rintro D U w hD o ag ⟨⟨ay,a0,a1,a2,a3⟩,hv,ha,_,j⟩
   obtain⟨O,rfl⟩:=(ac (hv.at 1 rfl (o.1 rfl)) (ac (hv.at 5 rfl (o.2.1 rfl)) az)).fM
   refine RL.min af.X0 a5 ?_
   exact RL.nil ⟨rfl,(ay,a0,a1,a2,a3),hv.pu 6,ha.u,zt,j⟩
  ·rintro D U w hD o ag ⟨⟨ay,a0,a1,a2,a3⟩,hv,ha,_,j⟩
   obtain⟨O,rfl⟩:=(ac (hv.at 7 rfl (o.1 rfl)) az).fM
   have j:=(j.cD 9 (nh ag hD 21)).cD 9 (nh ag hD 19)
   refine RL.aM 9 j zr eJ cL ?_
   have j:=(j.fw 9 (D 19) (nh ag hD 19) (bx 69 ae {af with X0:=(if a5<af.X0 then a5 else af.X0)})).fw 9 (D 21) (nh ag hD 21) (bx 69 ae {{af with X0:=(if a5<af.X0 then a5 else af.X0)} with X1:=(if af.X1<a7 then a7 else af.X1)})
   exact RL.nil ⟨rfl,(ay,a0,a1,a2,a3),hv.pu 8,ha.u,zt,j⟩
  ·rintro D U w hD o ag ⟨⟨ay,a0,a1,a2,a3⟩,hv,ha,_,j⟩
   obtain⟨O,rfl⟩:=(ac (hv.at 9 rfl (o.1 rfl)) az).fM
   have j:=j.cD 2 hD
   refine RL.aZ 5 j zr eC eV fun cl j=>?_
   have j:=(j.pl 12 [1,2,0,4,5,6,7,8,9,10,11]).cR 2 true rfl bE
   exact RL.nil ⟨rfl,(ay,a0,cl,a2,a3),hv.pu 10,ha.u,zt,j⟩
  ·rintro D U w hD o ag ⟨⟨ay,a0,a1,a2,a3⟩,hv,ha,_,j⟩
   obtain⟨O,rfl⟩:=(ac (hv.at 11 rfl (o.1 rfl)) az).fM
   have j:=j.cD 3 hD
   refine RL.aZ 5 j zr eC eV fun cm j=>?_
   have j:=(j.pl 12 [1,2,3,0,5,6,7,8,9,10,11]).cR 3 true rfl bE
   exact RL.nil ⟨rfl,(ay,a0,a1,cm,a3),hv.pu 12,ha.u,zt,j⟩
  ·rintro D U w hD o ag ⟨⟨ay,a0,a1,a2,a3⟩,hv,ha,_,j⟩
   obtain⟨O,rfl⟩:=(ac (hv.at 12 rfl (o.1 rfl)) az).fM
   have j:=j.cQ 3 (o.1 rfl)
   refine RL.bB 3 ba.Xs j mB ?_
   have j:=j.cR 3 (D 12) (o.1 rfl) bE
   exact RL.nil ⟨rfl,(ay,a0,a1,a2,a3),hv.pu 13,ha.u,zt,j⟩
  ·rintro D U w hD o ag ⟨⟨ay,a0,a1,a2,a3⟩,hv,ha,_,j⟩
   obtain⟨O,rfl⟩:=(ac (hv.at 10 rfl (o.1 rfl)) (ac (hv.at 14 rfl (o.2.1 rfl)) az)).fM
   have j:=(j.cQ 2 (o.1 rfl)).cD 4 hD
   refine RL.bO 2 j eF ch fun cn j=>?_
   have j:=((j.pl 12 [1,2,3,4,0,6,7,8,9,10,11]).cR 2 (D 10) (o.1 rfl) bE).cR 4 true rfl bE
   exact RL.nil ⟨rfl,(ay,a0,a1,a2,cn),hv.pu 15,ha.u,zt,j⟩
  ·rintro D U w hD o ag ⟨⟨ay,a0,a1,a2,a3⟩,hv,ha,_,j⟩
   obtain⟨O,rfl⟩:=(ac (hv.at 15 rfl (o.1 rfl)) az).fM
   have j:=j.cQ 4 (o.1 rfl)
   refine RL.bG a7 4 j cL ?_
   have j:=j.cR 4 (D 15) (o.1 rfl) bE
   exact RL.nil ⟨rfl,(ay,a0,a1,a2,a3),hv.pu 16,ha.u,zt,j⟩
  ·rintro D U w hD o ag ⟨⟨ay,a0,a1,a2,a3⟩,hv,ha,_,j⟩
   obtain⟨O,rfl⟩:=(ac (hv.at 8 rfl (o.1 rfl)) (ac (hv.at 16 rfl (o.2.1 rfl)) az)).fM
   refine RL.max af.X1 a7 ?_
   exact RL.nil ⟨rfl,(ay,a0,a1,a2,a3),hv.pu 17,ha.u,zt,j⟩
  ·rintro D U w hD o ag ⟨⟨ay,a0,a1,a2,a3⟩,hv,ha,_,j⟩
   obtain⟨O,rfl⟩:=(ac (hv.at 6 rfl (o.2.1 rfl)) (ac (hv.at 18 rfl (o.1 rfl)) az)).fM
   have j:=((j.cD 9 (nh ag hD 21)).cD 9 hD).sc Int (if a5<af.X0 then a5 else af.X0)
   refine RL.xo 10 j zr zr zr 0 zr pf cL fun w j=>?_
   have j:=((j.pl 12 [1,2,3,4,5,6,7,8,9,10,11]).cR 9 true rfl (bx 69 ae af)).fw 9 (D 21) (nh ag hD 21) (bx 69 ae {{af with X0:=(if a5<af.X0 then a5 else af.X0)} with X1:=(if af.X1<a7 then a7 else af.X1)})
   exact RL.nil ⟨rfl,(ay,a0,a1,a2,a3),hv.n1,ha,zt,j⟩
  ·rintro D U w hD o ag ⟨⟨ay,a0,a1,a2,a3⟩,hv,ha,_,j⟩
   obtain⟨O,rfl⟩:=(ac (hv.at 17 rfl (o.2.1 rfl)) (ac (hv.at 19 rfl (o.1 rfl)) az)).fM
   have j:=((j.cD 9 hD).cQ 9 (o.2.2.1 rfl)).sc Int (if af.X1<a7 then a7 else af.X1)
   refine RL.xo 10 j zr zr zr 0 zr pg cL fun w j=>?_
   have j:=(j.pl 12 [1,2,3,4,5,6,7,8,9,10,11]).cR 9 true rfl (bif D 19 then (bx 69 ae {af with X0:=(if a5<af.X0 then a5 else af.X0)}) else (bx 69 ae af))
   exact RL.nil ⟨rfl,(ay,a0,a1,a2,a3),hv.n1,ha,zt,j⟩
  rintro D U w a6 ⟨⟨ay,a0,a1,a2,a3⟩,hv,ha,_,j⟩
  have j:=(((((j.cQ 0 (kU a6 3)).cQ 1 (kU a6 4)).cQ 2 (kU a6 10)).cQ 3 (kU a6 12)).cQ 4 (kU a6 15)).cQ 9 (kU a6 21)
  obtain⟨O,rfl⟩:=(ac (ha.at 0 rfl) (ac (ha.at 1 rfl) (ac (ha.at 2 rfl) (ac (ha.at 3 rfl) (ac (ha.at 4 rfl) (ac (ha.at 5 rfl) az)))))).fM
  refine bP (aH (RC.region (RL.inc hk hm (mv (vi ((bg+1:Nat):Int)) (RL.nil ?_)))))
  obtain rfl:=oi hb
  exact⟨rfl,j.sp 11 [8,9,10]⟩
 rintro _ w ⟨O,rfl,j⟩
 refine aH (RC.sr (RL.aZ (f:=(fun x=>x)) 1 j zr Fd.self iK fun cp j=>(RL.bZ 1 j 0 zr iK fun w j=>?_)))
 refine RL.nt (RC.ret ?_)
 obtain rfl:=oi hb
 exact IH 1 zr j zr zr iK fun cq j=>(j.pk 5 [0])
theorem xU {p0: (List aA)} {res:Bool} (j:Holds E w V) (h0:V[i0]? =some (rd v0 p0)) (hb:mG N p0=some res):
    Calls bN 43 [v0].toArray w (gJ (aU E V res)):=by
 unfold mG at hb
 refine enter Tryz.func43 zr zr ?_
 have j:=j.dup (i0+0) h0
 refine RC.sr (aP (vb false) (RL.nq ?_))
 obtain⟨ad,o,hb⟩:=bd hb
 refine RC.jn (fun(ad:Bool)=>SH E V [(2,vb ad)] []) ad ?_ ?_
 ·refine RC.region (mv v0 (RL.bB 0 p0 j vW (ic ((p0.length:Int)) 0 (mv (vb ((p0.length:Int)==0)) (fA o (fun aa o=>?_) fun aa o=>?_)))))
  ·refine bC aa (bC aa (bC aa (fB aa (vb true) (aP (vb true) (RL.nil ?_)))))
   obtain rfl:=oi o
   exact⟨rfl,j.sp 1 []⟩
  refine RL.move v0 (cg aa) ?_
  obtain⟨ai,af,o⟩:=bd o
  refine RL.call (cg aa) zr MF [v0] zr (aD (v7 N (i0:=0) j zr af) ?_)
  rintro ag w j
  obtain⟨ae,ah,o⟩:=bd o
  refine RL.call (cg aa) zr K1 [ag] zr (aD (um N (i0:=0) j zr ah) ?_)
  rintro _ w ⟨rfl,j⟩
  refine fB aa (vb ae) (aP (vb ae) (RL.nil ?_))
  obtain rfl:=oi o
  exact⟨rfl,j.sp 2 []⟩
 rintro _ w ⟨O,rfl,j⟩
 refine aH (RC.ret ?_)
 obtain rfl:=oi hb
 exact bY ⟨rfl,j.drop 0⟩
def zX (E:World) (V:List HP) (res:aI×Int) (v:Value) (w:World):Prop:=∃u0:Value,v = .tuple #[u0,(vi res.2)]/\Holds E w ([rd u0 res.1]++V)
theorem sL {p0:cA} {res:aI×Int} (j:Holds E w V) (h0:V[i0]? =some (rd v0 p0)) (o:kW N p0=some res):
    Calls bN 20 [v0].toArray w (gJ (zX E V res)):=by
 unfold kW at o
 refine enter Tryz.func20 zr zr ?_
 have j:=j.dup (i0+0) h0
 refine RC.sr (RL.dD 0 v0 j zr fun af w j=>?_)
 refine RL.alloc j oR.z fun ag w j=>?_
 refine aP (vi 0) (RL.nq (RC.seq ?_))
 obtain⟨ad,hj,o⟩:=bd o
 refine RC.jn (fun(ad:Bool)=>SH E V [(1,vp af 0),(2,vp ag 0),(14,vb ad)] [bx 73 af p0,raw 69 ag 4]) ad ?_ ?_
 ·refine RC.region (RL.aX zr r6 (RL.aM 1 j zr mb cL ?_))
  obtain⟨ah,aj,hj⟩:=bd hj
  refine RL.call zt zr IZ [(vi p0.dG),(vi 1),(vi 10000)] zr (aD (nr N (p0:=p0.dG) (p1:=1) (p2:=10000) j aj) ?_)
  rintro _ w ⟨rfl,j⟩
  refine RL.not ah (mv (vb (!ah)) (fA hj (fun aa hj=>?_) fun aa hj=>?_))
  ·refine bC aa (bC aa (bC aa (bC aa (fB aa (vb true) (RL.nil ?_)))))
   obtain rfl:=oi hj
   exact⟨rfl,j.sp 3 [1,0]⟩
  refine RL.aX (hg:=(cg aa)) zr yF (RL.aZ (hg:=(cg aa)) 1 j zr qE DW fun ak j=>?_)
  obtain⟨ai,al,hj⟩:=bd hj
  refine RL.call (cg aa) zr K9 [ak] zr (aD (sK N (i0:=0) j zr al) ?_)
  rintro _ w ⟨rfl,j⟩
  refine RL.not (hg:=(cg aa)) ai (fB aa (vb (!ai)) (RL.nil ?_))
  obtain rfl:=oi hj
  exact⟨rfl,j.sp 4 [2,1]⟩
 rintro _ w ⟨O,rfl,j⟩
 refine aH (dT o (fun hc o=>?_) fun hc o=>?_)
 ·refine RC.sr (RL.build (⟨0,0,0,0⟩:aI) trivial rfl j [] rfl DV rfl (fun M hs g=>by have h:=tF M;exact cT.nil h) fun a2 j=>?_)
  refine RL.bZ 2 j 0 zr iK fun w j=>?_
  refine aP (vi 1) (RL.nt (RC.rt ?_))
  obtain rfl:=oi o
  exact xu 2 j iK fun an j=>⟨an,zr,j.pk 4 [0]⟩
 refine RC.sx (RL.aZ (f:=(fun x=>x)) 0 j zr Fd.self mj fun ao j=>?_)
 obtain⟨aq,ar,o⟩:=bd o
 refine RL.call zt zr Gu [ao] zr (aD (jr N (i0:=0) j zr ar) ?_)
 rintro a3 w j
 refine RL.alloc j oR.z fun a4 w j=>?_
 refine RL.bZ 0 j 1 zr iK fun w j=>?_
 refine RL.nq (RC.sr (RL.aZ (f:=(fun x=>x)) 0 j zr Fd.self iK fun au j=>(RL.dN ([aq]: (List aI)) j [au] jm oR (fun M hs g=>⟨(g.sat 0 _ zr).1,zt⟩) fun av w j=>?_)))
 have j:=j.freeze 0
 obtain⟨a5,aw,o⟩:=bd o
 refine RL.call zt zr HC [av] zr (aD (mO N (i0:=0) j zr aw) ?_)
 rintro ax w j
 have j:=j.freeze 0
 obtain⟨ay,az,o⟩:=bd o
 refine RL.call zt zr MG [ax] zr (aD (xU N (i0:=0) j zr az) ?_)
 rintro _ w ⟨rfl,j⟩
 refine RL.not ay (RL.nt (dT o (fun hc o=>?_) fun hc o=>?_))
 ·refine RC.sr (RL.build (⟨0,0,0,0⟩:aI) trivial rfl j [] rfl DV rfl (fun M hs g=>by have h:=tF M;exact cT.nil h) fun a6 j=>?_)
  refine RL.bZ 8 j 0 zr iK fun w j=>?_
  refine aP (vi 1) (RL.nt (RC.rt ?_))
  obtain rfl:=oi o
  exact xu 8 j iK fun a0 j=>⟨a0,zr,j.pk 10 [0]⟩
 refine RC.sx (RL.aZ (f:=(fun x=>x)) 3 j zr Fd.self iK fun a7 j=>(RL.bZ 8 j 0 zr iK fun w j=>?_))
 refine aP (vi 0) (RL.nt (RC.ret ?_))
 obtain rfl:=oi o
 exact xu 8 j iK fun a1 j=>⟨a1,zr,j.pk 10 [0]⟩
def v8 (E:World) (V:List HP) (r:Int) (U:Nat->Value) (w:World):Prop:=lG bN 47 Tryz.f22 (aY E V r) .ret U w
theorem u5 {p0:kY} (j:Holds E w V) (h0:V[i0]? =some (rd v0 p0)) (o:kK N p0=some res):
    Calls bN 22 [v0].toArray w (gJ (aY E V res)):=by
 unfold kK at o
 refine enter Tryz.func22 zr zr ?_
 have j:=j.dup (i0+0) h0
 refine RC.sr (RL.dD 0 v0 j zr fun a0 w j=>?_)
 refine aP (vi 0) (RL.nq (RC.sr (RL.aX zr iz (RL.aZ 0 j zr gM n7 fun a1 j=>(RL.bB 0 p0.aN j wO (ic ((p0.aN.length:Int)) 500 (RL.nt (dT o (fun hc o=>?_) fun hc o=>?_))))))))
 ·refine RC.sr (aP (vi 2) (RL.nt (RC.rt ?_)))
  obtain rfl:=oi o
  exact bY ⟨rfl,j.drop 3⟩
 refine RC.sx (RL.aX zr mL (RL.aZ 1 j zr jf pY fun a2 j=>(RL.bB 0 p0.aJ j qP (aP (vi p0.aJ.length) (RL.nq (RC.sr (RL.aX zr iz (RL.aZ 2 j zr gM n7 fun ag j=>?_))))))))
 refine RL.bB 0 p0.aN j wO (mv (vi 0) (RL.nt ?_))
 obtain⟨a3,hN,o⟩:=bd o
 refine RC.range (fun(ah:Nat) (ai:Unit)=>SH E V [(3,vi p0.aJ.length),(16,ag),(17,vi p0.aN.length),(18,vi ah)] [rd ag p0.aN]) (fun(ai:Unit)=>SH E V [] [rd ag p0.aN]) (v8 E V) hN ?_ ?_ ?_ ?_ ?_
 ·exact j.sp 5 [0]
 ·rintro hm ai _ w ⟨O,rfl,j⟩
  refine RC.sr (ic ((p0.aN.length:Int)) ((p0.aN.length:Int)) (RL.nq (RC.fu sA (RC.ex ?_))))
  exact⟨rfl,j.sp 1 [0]⟩
 ·rintro hm ah ai fl _ w hk ⟨O,rfl,j⟩ o
  refine RC.sr (ic ((ah:Int)) ((p0.aN.length:Int)) (RL.nq (RC.eZ (sw hk) (RC.ss (RC.bs ?_)))))
  obtain⟨ad,au,o⟩:=bd o
  refine RL.bO 0 j qQ au fun a5 j=>(RL.bJ 0 ad j mj fun a6 j=>(RL.alloc j E5.z fun a7 w j=>?_))
  refine RL.bZ 0 j 1 zr mj fun w j=>?_
  refine RL.nq (RC.sr (RL.aZ (f:=(fun x=>x)) 0 j zr Fd.self mj fun av j=>?_))
  obtain⟨ae,aw,o⟩:=bd o
  refine RL.call zt zr Lb [av] zr (aD (sL N (i0:=0) j zr aw) ?_)
  rintro _ w ⟨an,rfl,j⟩
  refine mv (.tuple #[an,(vi ae.2)]) (RL.extract an (RL.extract (vi ae.2) (RL.alloc j oR.z fun a8 w j=>?_)))
  refine RL.bZ 0 j 1 zr iK fun w j=>?_
  refine aP (vi ae.2) (RL.ns (mv (vi ae.2) (ic ae.2 0 (RL.nt (dT o (fun hc o=>?_) fun hc o=>?_)))))
  ·refine RC.sr (mv (vi ae.2) (aP (vi ae.2) (RL.nt (RC.rt (oL (bR ?_))))))
   obtain rfl:=oi o
   exact⟨rfl,bY ⟨rfl,j.drop 7⟩⟩
  refine RC.ss ?_
  obtain⟨aj,hj,o⟩:=bd o
  refine RC.jn (fun(aj:Bool)=>SH E V [(3,vi p0.aJ.length),(16,ag),(17,vi p0.aN.length),(18,vi ah),(45,vb aj)] [rd ag p0.aN]) aj ?_ ?_
  ·refine RC.region (RL.aX zr p4 (RL.aM 3 j zr kF cL (mv (vi p0.aJ.length) (RL.gk (p0.aJ.length:Int) 1 ?_))))
   obtain⟨ao,ax,hj⟩:=bd hj
   refine RL.call zt zr IZ [(vi ad.cO),(vi 0),(vi (IntKind.wrap .i64 ((p0.aJ.length:Int) - 1)))] zr (aD (nr N (p0:=ad.cO) (p1:=0) (p2:=(IntKind.wrap .i64 ((p0.aJ.length:Int) - 1))) j ax) ?_)
   rintro _ w ⟨rfl,j⟩
   refine RL.not ao (mv (vb (!ao)) (fA hj (fun aa hj=>?_) fun aa hj=>?_))
   ·refine bC aa (bC aa (bC aa (bC aa (bC aa (bC aa (bC aa (bC aa (fB aa (vb true) ?_))))))))
    refine RL.nil ?_
    obtain rfl:=oi hj
    exact⟨rfl,j.sp 7 [6]⟩
   refine RL.aX (hg:=(cg aa)) zr r7 (RL.aM (hg:=(cg aa)) 3 j zr mc cL (RL.aX (hg:=(cg aa)) zr p4 (RL.aM (hg:=(cg aa)) 3 j zr kF cL (RL.move (vi p0.aJ.length) (cg aa) (RL.gk (hg:=(cg aa)) (p0.aJ.length:Int) 1 ?_)))))
   obtain⟨aq,ay,hj⟩:=bd hj
   refine RL.call (cg aa) zr IZ [(vi ad.To),(vi ad.cO),(vi (IntKind.wrap .i64 ((p0.aJ.length:Int) - 1)))] zr (aD (nr N (p0:=ad.To) (p1:=ad.cO) (p2:=(IntKind.wrap .i64 ((p0.aJ.length:Int) - 1))) j ay) ?_)
   rintro _ w ⟨rfl,j⟩
   refine RL.not (hg:=(cg aa)) aq (fB aa (vb (!aq)) (RL.nil ?_))
   obtain rfl:=oi hj
   exact⟨rfl,j.sp 7 [6]⟩
  rintro _ w ⟨O,rfl,j⟩
  refine aH (dT o (fun hc o=>?_) fun hc o=>?_)
  rotate_left
  ·refine RC.skip (bP (aH (RC.region (RL.inc hk hm (mv (vi ((ah+1:Nat):Int)) (RL.nil ?_))))))
   obtain rfl:=oi o
   exact⟨rfl,j.sp 1 [0]⟩
  refine RC.sr (aP (vi 1) (RL.nt (RC.rb (bR ?_))))
  obtain rfl:=oi o
  exact⟨rfl,bY ⟨rfl,j.drop 1⟩⟩
 ·intro r U w e hK
  subst e
  refine bR ?_
  obtain rfl:=oi o
  exact hK
 rintro ai _ w rfl ⟨O,rfl,j⟩
 rw [Fo.cZ] at o
 refine aH (RC.sr (aP (vi 0) (RL.nt (RC.ret ?_))))
 obtain rfl:=oi o
 exact bY ⟨rfl,j.drop 1⟩
theorem nL {p0:eI} (o:Holds E w V) (j:je N p0 p1=some res):
    Calls bN 118 [(str p0),(.int .u8 p1)].toArray w (gJ (aY E V res)):=by
 unfold je at j
 refine enter Tryz.func118 zr zr (RC.sr (aP (vi 0) (RL.ns (mv (str p0) (mv (.int .u8 p1) (RL.Aj (vi (Lib.indexByte p0.cY (Int.toNat p1).toUInt8)) zr [(str p0),(.int .u8 p1)] zr (uR p0 p1 w) (aP (vi (Lib.indexByte p0.cY (Int.toNat p1).toUInt8)) (RL.nt ?_))))))))
 refine RC.ret ?_
 obtain rfl:=oi j
 exact bY ⟨rfl,o.drop 0⟩
theorem u6 {p0 p1:eI} (o:Holds E w V) (j:kL N p0 p1=some res):
    Calls bN 164 [(str p0),(str p1)].toArray w (gJ (aY E V res)):=by
 unfold kL at j
 refine enter Tryz.func164 zr zr (RC.sr (aP (vi 0) (RL.ns (mv (str p1) (RL.lens p1 Aw (aP (vi p1.cY.length) (RL.nq (RC.bs ?_))))))))
 refine mv (vi p1.cY.length) (ic ((p1.cY.length:Int)) 0 (mv (vb ((p1.cY.length:Int)==0)) (RL.gs true ((p1.cY.length:Int)==0) (str p1) rfl rfl rfl cH (RL.gs true ((p1.cY.length:Int)==0) (str p0) rfl rfl rfl cH (RL.gs true ((p1.cY.length:Int)==0) (vb (p1.tq p0)) rfl rfl rfl (Ct .eql p1 p0 rfl (fun h=>by exact(cM h:cv (true&&(((p1.cY.length:Int)==0)==false)) (str p1)= (str p1))) (fun h=>by exact(cM h:cv (true&&(((p1.cY.length:Int)==0)==false)) (str p0)= (str p0))) rfl) (RL.pick ((p1.cY.length:Int)==0) (vb (((p1.cY.length:Int)==0)||(p1.tq p0))) (oh true) (aP (vb (((p1.cY.length:Int)==0)||(p1.tq p0))) (RL.nt ?_))))))))
 refine dT j (fun hc j=>?_) fun hc j=>?_
 ·refine RC.sr (aP (vi 0) (RL.nt (RC.rb (bR ?_))))
  obtain rfl:=oi j
  exact bY ⟨rfl,o.drop 0⟩
 refine RC.sr (mv (vi p1.cY.length) (ic ((p1.cY.length:Int)) 1 (aP (vb ((p1.cY.length:Int)==1)) (RL.nt (dT j (fun hc j=>?_) fun hc j=>?_)))))
 ·refine RC.sr (mv (str p0) (mv (str p1) ?_))
  obtain⟨ab,ad,j⟩:=bd j
  refine RL.idxs p1 0 ab zr zr zr Aw ad ?_
  obtain⟨ae,af,j⟩:=bd j
  refine RL.call zt zr Jz [(str p0),(.int .u8 (ab.toNat:Int))] zr (aD (nL N (p0:=p0) (p1:=(ab.toNat:Int)) o af) ?_)
  rintro _ w ⟨rfl,o⟩
  refine aP (vi ae) (RL.nt (RC.rb (bR ?_)))
  obtain rfl:=oi j
  exact bY ⟨rfl,o.drop 0⟩
 refine RC.sr (mv (vi p1.cY.length) (mv (str p0) (RL.lens p0 Aw (ic ((p1.cY.length:Int)) ((p0.cY.length:Int)) (aP (vb (decide ((p1.cY.length:Int)>=(p0.cY.length:Int)))) (RL.nt (dT j (fun hc j=>?_) fun hc j=>?_)))))))
 rotate_left
 ·cases j
 refine RC.sr (aP (vi (-1)) (RL.nt (RC.rb (bR ?_))))
 obtain rfl:=oi j
 exact bY ⟨rfl,o.drop 0⟩
theorem sM {p0 p1:eI} (o:Holds E w V) (j:l7 N p0 p1=some res):
    Calls bN 149 [(str p0),(str p1)].toArray w (gJ (aY E V res)):=by
 unfold l7 at j
 refine enter Tryz.func149 zr zr (RC.sr (aP (vi 0) (RL.ns (mv (str p0) (mv (str p1) ?_)))))
 obtain⟨aa,ab,j⟩:=bd j
 refine RL.call zt zr Lc [(str p0),(str p1)] zr (aD (u6 N (p0:=p0) (p1:=p1) o ab) ?_)
 rintro _ w ⟨rfl,o⟩
 refine aP (vi aa) (RL.nt (RC.ret ?_))
 obtain rfl:=oi j
 exact bY ⟨rfl,o.drop 0⟩
def zY (E:World) (V:List HP) (r:Int) (U:Nat->Value) (w:World):Prop:=lG bN 34 Tryz.f148 (aY E V r) .ret U w
theorem yO {p0 p1:eI} (hw:Holds E w V) (j:nJ N p0 p1=some res):
    Calls bN 148 [(str p0),(str p1)].toArray w (gJ (aY E V res)):=by
 unfold nJ at j
 refine enter Tryz.func148 zr zr (RC.sr (aP (vi 0) (RL.nq (RC.sr (mv (str p1) (RL.lens p1 Aw (ic ((p1.cY.length:Int)) 0 (RL.nt ?_))))))))
 refine dT j (fun hc j=>?_) fun hc j=>?_
 ·cases j
 refine RC.ss (RC.sr (mv (str p1) (RL.lens p1 Aw (ic ((p1.cY.length:Int)) 1 (RL.nt (dT j (fun hc j=>?_) fun hc j=>?_))))))
 ·refine RC.sr (mv (str p0) (mv (str p1) ?_))
  obtain⟨ad,af,j⟩:=bd j
  refine RL.idxs p1 0 ad zr zr zr Aw af (RL.Aj (vi ((Lib.countByte p0.cY (Int.toNat (ad.toNat:Int)).toUInt8:Nat):Int)) zr [(str p0),(.int .u8 (ad.toNat:Int))] zr (xz p0 (ad.toNat:Int) w) (aP (vi ((Lib.countByte p0.cY (Int.toNat (ad.toNat:Int)).toUInt8:Nat):Int)) (RL.nt (RC.rt ?_))))
  obtain rfl:=oi j
  exact bY ⟨rfl,hw.drop 0⟩
 refine RC.sx (aP (vi 0) (RL.nt ?_))
 obtain⟨al,hN,j⟩:=bd j
 refine RC.iter (fun(o:eI×Int)=>SH E V [(0,(str o.1)),(1,(str p1)),(4,vi 0),(5,vi o.2)] []) (fun(o:eI×Int)=>SH E V [(4,vi 0)] []) (zY E V) hN ?_ ?_ ?_ ?_
 ·exact hw.sp 0 []
 ·rintro o fl _ w ⟨O,rfl,hw⟩ j
  refine RC.bs (mv (str o.1) (mv (str p1) ?_))
  obtain⟨ae,ah,j⟩:=bd j
  refine RL.call zt zr JA [(str o.1),(str p1)] zr (aD (sM N (p0:=o.1) (p1:=p1) hw ah) ?_)
  rintro _ w ⟨rfl,hw⟩
  refine aP (vi ae) (RL.nq (RC.sr (mv (vi ae) (ic ae ((-1)) (RL.nt (dT j (fun hc j=>?_) fun hc j=>?_))))))
  ·refine RC.sr (mv (vi o.2) (aP (vi o.2) (RL.nt (RC.rt (oL ?_)))))
   obtain rfl:=oi j
   exact⟨rfl,bY ⟨rfl,hw.drop 0⟩⟩
  refine RC.sx (mv (vi o.2) (RL.gk o.2 1 (aP (vi (IntKind.wrap .i64 (o.2+1))) (RL.nt (RC.region (mv (str o.1) (mv (vi ae) (mv (str p1) ?_))))))))
  refine RL.lens p1 Aw (RL.gk ae (p1.cY.length:Int) ?_)
  obtain⟨ai,aj,j⟩:=bd j
  refine RL.wJ o.1 zr zr Aw (.inl zr) (.inr ⟨rfl,zr⟩) aj (aP (str ai) (RL.nil (bP ?_)))
  obtain rfl:=oi j
  exact⟨rfl,hw.sp 0 []⟩
 ·intro r U w e hK
  subst e
  obtain rfl:=oi j
  exact hK
 rintro o _ w rfl ⟨O,rfl,hw⟩
 rw [Fo.cZ] at j
 obtain rfl:=oi j
 refine Df ?_
 exact bY ⟨rfl,hw.drop 0⟩
theorem v9 {p0 p1:eI} {res: (List eI)} (o:Holds E w V) (j:nj N p0 p1 p2 p3=some res):
    Calls bN 117 [(str p0),(str p1),(vi p2),(vi p3)].toArray w (gJ (qS E V res)):=by
 unfold nj at j
 refine enter Tryz.func117 zr zr (RC.sr (aP (.slice none 0 0) (RL.nq (RC.sr (mv (vi p3) (ic p3 0 (RL.nt (dT j (fun hc j=>?_) fun hc j=>?_))))))))
 ·refine RC.sr (aP (.slice none 0 0) (RL.nt (RC.rt ?_)))
  obtain rfl:=oi j
  have o:=o.cP eI 9
  exact bY (o.pk 1 [0])
 refine RC.ss (RC.sr (mv (str p1) (RL.EM p1 ⟨[]⟩ zt zr zr zr zr (RL.nt (dT j (fun hc j=>?_) fun hc j=>?_)))))
 ·cases j
 refine RC.ss (RC.sr (mv (vi p3) (ic p3 0 (RL.nt ?_))))
 obtain⟨ab,hj,j⟩:=bd j
 refine RC.jn (fun(ab:Int)=>SH E V [(0,(str p0)),(1,(str p1)),(2,vi p2),(3,vi ab)] []) ab ?_ ?_
 ·refine dT hj (fun hc hj=>?_) fun hc hj=>?_
  rotate_left
  ·refine RC.skip ?_
   obtain rfl:=oi hj
   exact⟨rfl,o.sp 0 []⟩
  refine RC.region (mv (str p0) (mv (str p1) ?_))
  obtain⟨aj,ak,hj⟩:=bd hj
  refine RL.call zt zr Ld [(str p0),(str p1)] zr (aD (yO N (p0:=p0) (p1:=p1) o ak) ?_)
  rintro _ w ⟨rfl,o⟩
  refine RL.gk aj 1 (aP (vi (IntKind.wrap .i64 (aj+1))) (RL.nil ?_))
  obtain rfl:=oi hj
  exact⟨rfl,o.sp 0 []⟩
 rintro _ w ⟨O,rfl,o⟩
 refine aH (RC.sr (mv (vi ab) (mv (str p0) (RL.lens p0 Aw (RL.gk (p0.cY.length:Int) 1 (RL.min ab (IntKind.wrap .i64 ((p0.cY.length:Int)+1)) (aP (vi (if (IntKind.wrap .i64 ((p0.cY.length:Int)+1))<ab then (IntKind.wrap .i64 ((p0.cY.length:Int)+1)) else ab)) (RL.ns ?_))))))))
 refine mv (vi (if (IntKind.wrap .i64 ((p0.cY.length:Int)+1))<ab then (IntKind.wrap .i64 ((p0.cY.length:Int)+1)) else ab)) ?_
 obtain⟨ay,al,j⟩:=bd j
 refine RL.mk (if (IntKind.wrap .i64 ((p0.cY.length:Int)+1))<ab then (IntKind.wrap .i64 ((p0.cY.length:Int)+1)) else ab) o Le NR al fun ae w o=>?_
 refine aP ae (RL.ns (mv (vi (if (IntKind.wrap .i64 ((p0.cY.length:Int)+1))<ab then (IntKind.wrap .i64 ((p0.cY.length:Int)+1)) else ab)) (RL.gk (if (IntKind.wrap .i64 ((p0.cY.length:Int)+1))<ab then (IntKind.wrap .i64 ((p0.cY.length:Int)+1)) else ab) 1 (aP (vi (IntKind.wrap .i64 ((if (IntKind.wrap .i64 ((p0.cY.length:Int)+1))<ab then (IntKind.wrap .i64 ((p0.cY.length:Int)+1)) else ab) - 1))) (RL.ns (aP (vi 0) (RL.nq ?_)))))))
 obtain⟨az,hN,j⟩:=bd j
 refine RC.iter (fun(aa:eI×(List eI)×Int)=>SH E V [(0,(str aa.1)),(1,(str p1)),(2,vi p2),(3,(vi (IntKind.wrap .i64 ((if (IntKind.wrap .i64 ((p0.cY.length:Int)+1))<ab then (IntKind.wrap .i64 ((p0.cY.length:Int)+1)) else ab) - 1)))),(9,ae),(10,vi aa.2.2)] [own 9 ae aa.2.1]) (fun(aa:eI×(List eI)×Int)=>SH E V [(0,(str aa.1)),(9,ae),(10,vi aa.2.2)] [own 9 ae aa.2.1]) (fun(r:Empty) _ _=>r.elim) hN ?_ ?_ ?_ ?_
 ·exact o.sp 1 [0]
 ·rintro aa fl _ w ⟨O,rfl,o⟩ j
  refine RC.seq (RC.sr (mv (vi aa.2.2) (mv (vi (IntKind.wrap .i64 ((if (IntKind.wrap .i64 ((p0.cY.length:Int)+1))<ab then (IntKind.wrap .i64 ((p0.cY.length:Int)+1)) else ab) - 1))) (ic aa.2.2 ((IntKind.wrap .i64 ((if (IntKind.wrap .i64 ((p0.cY.length:Int)+1))<ab then (IntKind.wrap .i64 ((p0.cY.length:Int)+1)) else ab) - 1))) (RL.nt (dT j (fun hc j=>?_) fun hc j=>?_))))))
  rotate_left
  ·refine RC.ex ?_
   obtain rfl:=oi j
   exact⟨rfl,o.sp 1 [0]⟩
  refine RC.sn (RC.bs (mv (str aa.1) (mv (str p1) ?_)))
  obtain⟨ag,ao,j⟩:=bd j
  refine RL.call zt zr JA [(str aa.1),(str p1)] zr (aD (sM N (p0:=aa.1) (p1:=p1) o ao) ?_)
  rintro _ w ⟨rfl,o⟩
  refine aP (vi ag) (RL.nq (RC.sr (mv (vi ag) (ic ag 0 (RL.nt (dT j (fun hc j=>?_) fun hc j=>?_))))))
  ·refine RC.ex (J0 (by decide) ?_)
   obtain rfl:=oi j
   exact⟨rfl,o.sp 1 [0]⟩
  refine RC.sx (mv ae (mv (vi aa.2.2) (mv (str aa.1) (mv (vi ag) (mv (vi p2) (RL.gk ag p2 ?_))))))
  obtain⟨aq,ar,j⟩:=bd j
  refine RL.wJ aa.1 zr zr Aw (.inr ⟨rfl,zr⟩) (.inl zr) ar ?_
  obtain⟨a1,ah,j⟩:=bd j
  refine RL.bT 0 o zr zr DY ah ?_
  have o:=o.sc eI aq
  refine RL.gK (f:=(fun _ y=>y)) 1 0 o (jz 1 o ah 0) (bH ah).2.1 zr Fs.self yx fun w o=>?_
  refine RL.ns (mv (str aa.1) (mv (vi ag) (mv (str p1) (RL.lens p1 Aw (RL.gk ag (p1.cY.length:Int) ?_)))))
  obtain⟨au,av,j⟩:=bd j
  refine RL.wJ aa.1 zr zr Aw (.inl zr) (.inr ⟨rfl,zr⟩) av (aP (str au) (RL.nt (RC.region (mv (vi aa.2.2) (RL.gk aa.2.2 1 (aP (vi (IntKind.wrap .i64 (aa.2.2+1))) (RL.nil (bP ?_))))))))
  obtain rfl:=oi j
  exact⟨rfl,o.sp 2 [1]⟩
 ·intro r _ _ _ _
  exact r.elim
 rintro aa _ w rfl ⟨O,rfl,o⟩
 rw [Fo.cZ] at j
 refine aH (RC.sr (mv ae (mv (vi aa.2.2) (mv (str aa.1) ?_))))
 obtain⟨a2,ai,j⟩:=bd j
 refine RL.bT 0 o zr zr DY ai ?_
 have o:=o.sc eI aa.1
 refine RL.gK (f:=(fun _ y=>y)) 1 0 o (jz 1 o ai 0) (bH ai).2.1 zr Fs.self yx fun w o=>?_
 refine RL.ns (mv ae (mv (vi aa.2.2) (RL.gk aa.2.2 1 ?_)))
 obtain⟨a3,aw,j⟩:=bd j
 refine RL.Cy 1 zr o zr zr DY (.inr ⟨rfl,zr⟩) aw fun ax o=>(aP ax (RL.nt (RC.ret ?_)))
 obtain rfl:=oi j
 exact bY (o.pk 2 [1])
theorem sN {p0 p1:eI} {res: (List eI)} (o:Holds E w V) (j:l8 N p0 p1=some res):
    Calls bN 87 [(str p0),(str p1)].toArray w (gJ (qS E V res)):=by
 unfold l8 at j
 refine enter Tryz.func87 zr zr (RC.sr (aP (.slice none 0 0) (RL.ns (mv (str p0) (mv (str p1) ?_)))))
 obtain⟨ad,aa,j⟩:=bd j
 refine RL.call zt zr Lg [(str p0),(str p1),(vi 0),(vi (-1))] zr (aD (v9 N (p0:=p0) (p1:=p1) (p2:=0) (p3:=(-1)) o aa) ?_)
 rintro ab w o
 refine aP ab (RL.nt (RC.ret ?_))
 obtain rfl:=oi j
 exact bY (o.pk 1 [0])
def rE (E:World) (V:List HP) (r:Int) (U:Nat->Value) (w:World):Prop:=lG bN 19 Tryz.f116 (aY E V r) .ret U w
theorem qV {p0: (List eI)} {p1:eI->Option Bool} (j:Holds E w V) (h0:V[i0]? =some (rd v0 p0)) (h1:Iy bN E V v1 p1 (fun(r:Bool)=>Value.bool r)) (o:lk N p0 p1=some res):
    Calls bN 116 [v0,v1].toArray w (gJ (aY E V res)):=by
 unfold lk at o
 refine enter Tryz.func116 zr zr ?_
 have j:=j.dup (i0+0) h0
 refine RC.sr (aP (vi 0) (RL.nq (RC.sr (mv v0 (RL.bB 0 p0 j JB (mv (vi 0) (RL.nt ?_)))))))
 obtain⟨al,hN,o⟩:=bd o
 refine RC.range (fun(aa:Nat) (ab:Unit)=>SH E V [(0,v0),(1,v1),(7,vi p0.length),(8,vi aa)] [rd v0 p0]) (fun(ab:Unit)=>SH E V [] [rd v0 p0]) (rE E V) hN ?_ ?_ ?_ ?_ ?_
 ·exact j.sp 1 [0]
 ·rintro hm ab _ w ⟨O,rfl,j⟩
  refine RC.sr (ic ((p0.length:Int)) ((p0.length:Int)) (RL.nq (RC.fu sA (RC.ex ?_))))
  exact⟨rfl,j.sp 1 [0]⟩
 ·rintro hm aa ab fl _ w hk ⟨O,rfl,j⟩ o
  refine RC.sr (ic ((aa:Int)) ((p0.length:Int)) (RL.nq (RC.eZ (sw hk) (RC.ss (RC.bs (mv (vi aa) (aP (vi aa) (RL.ns ?_))))))))
  refine mv v1 (mv v0 (mv (vi aa) ?_))
  obtain⟨af,ah,o⟩:=bd o
  refine RL.bO 0 j DY ah fun ao j=>(RL.bG af 0 j yx ?_)
  have j:=j.sc eI af
  obtain⟨aq,ai,o⟩:=bd o
  refine RL.Cw 0 zr j zr h1 3 zr zr zr ai fun w j=>(RL.nt (dT o (fun hc o=>?_) fun hc o=>?_))
  rotate_left
  ·refine RC.skip (bP (aH (RC.region (RL.inc hk hm (mv (vi ((aa+1:Nat):Int)) (RL.nil ?_))))))
   obtain rfl:=oi o
   exact⟨rfl,j.sp 3 [2]⟩
  refine RC.sr (mv (vi aa) (aP (vi aa) (RL.nt (RC.rb (bR ?_)))))
  obtain rfl:=oi o
  exact⟨rfl,bY ⟨rfl,j.drop 3⟩⟩
 ·intro r U w e hK
  subst e
  refine bR ?_
  obtain rfl:=oi o
  exact hK
 rintro ab _ w rfl ⟨O,rfl,j⟩
 rw [Fo.cZ] at o
 refine aH (RC.sr (aP (vi (-1)) (RL.nt (RC.ret ?_))))
 obtain rfl:=oi o
 exact bY ⟨rfl,j.drop 1⟩
theorem pL {p0: (List eI)} {p1:eI->Option Bool} {res:Bool} (j:Holds E w V) (h0:V[i0]? =some (rd v0 p0)) (h1:Iy bN E V v1 p1 (fun(r:Bool)=>Value.bool r)) (o:iV N p0 p1=some res):
    Calls bN 86 [v0,v1].toArray w (gJ (aU E V res)):=by
 unfold iV at o
 refine enter Tryz.func86 zr zr ?_
 have j:=j.dup (i0+0) h0
 refine RC.sr (aP (vb false) (RL.ns (mv v0 (mv v1 ?_))))
 obtain⟨aa,ab,o⟩:=bd o
 refine RL.call zt zr Li [v0,v1] zr (aD (qV N (i0:=0) j zr (h1.lift 1 zr) ab) ?_)
 rintro _ w ⟨rfl,j⟩
 refine ic aa 0 (aP (vb (decide (aa>=0))) (RL.nt (RC.ret ?_)))
 obtain rfl:=oi o
 exact bY ⟨rfl,j.drop 1⟩
theorem pM {p0:eI} (o:Holds E w V) (j:gR N p0 p1=some res):
    Calls bN 89 [(str p0),(.int .u8 p1)].toArray w (gJ (aY E V res)):=by
 unfold gR at j
 refine enter Tryz.func89 zr zr (RC.sr (aP (vi 0) (RL.ns (mv (str p0) (mv (.int .u8 p1) ?_)))))
 obtain⟨aa,ab,j⟩:=bd j
 refine RL.call zt zr Jz [(str p0),(.int .u8 p1)] zr (aD (nL N (p0:=p0) (p1:=p1) o ab) ?_)
 rintro _ w ⟨rfl,o⟩
 refine aP (vi aa) (RL.nt (RC.ret ?_))
 obtain rfl:=oi j
 exact bY ⟨rfl,o.drop 0⟩
def yP (E:World) (V:List HP) (r:Bool) (U:Nat->Value) (w:World):Prop:=lG bN 49 Tryz.f48 (aU E V r) .ret U w
theorem rT {p0:eI} {res:Bool} (hw:Holds E w V) (o:jE N p0=some res):
    Calls bN 48 [(str p0)].toArray w (gJ (aU E V res)):=by
 unfold jE at o
 refine enter Tryz.func48 zr zr (RC.sr (aP (vb false) (RL.nq (RC.sr (mv (str p0) (RL.lens p0 Aw (mv (vi 0) (RL.nt ?_))))))))
 obtain⟨ar,hN,o⟩:=bd o
 refine RC.range (fun(ab:Nat) (af:Unit)=>SH E V [(0,(str p0)),(6,vi p0.cY.length),(7,vi ab)] []) (fun(af:Unit)=>SH E V [(0,(str p0))] []) (yP E V) hN ?_ ?_ ?_ ?_ ?_
 ·exact hw.sp 0 []
 ·rintro hm af _ w ⟨O,rfl,hw⟩
  refine RC.sr (ic ((p0.cY.length:Int)) ((p0.cY.length:Int)) (RL.nq (RC.fu sA (RC.ex ?_))))
  exact⟨rfl,hw.sp 0 []⟩
 ·rintro hm ab af fl _ w hk ⟨O,rfl,hw⟩ o
  refine RC.sr (ic ((ab:Int)) ((p0.cY.length:Int)) (RL.nq (RC.eZ (sw hk) (RC.ss (RC.bs (mv (vi ab) (aP (vi ab) (RL.ns ?_))))))))
  refine mv (str p0) (mv (vi ab) ?_)
  obtain⟨j,al,o⟩:=bd o
  refine RL.idxs p0 (ab:Int) j zr zr zr Aw al (aP (.int .u8 (j.toNat:Int)) (RL.nq ?_))
  obtain⟨ag,hj,o⟩:=bd o
  refine RC.jn (fun(ag:Bool)=>SH E V [(0,(str p0)),(6,vi p0.cY.length),(7,vi ab),(39,vb ag)] []) ag ?_ ?_
  ·refine RC.region (mv (.int .u8 (j.toNat:Int)) (ic ((j.toNat:Int)) 65 (mv (vb (decide ((j.toNat:Int)<65))) (RL.gs true (decide ((j.toNat:Int)<65)) (.int .u8 (j.toNat:Int)) rfl rfl rfl cH (RL.gs true (decide ((j.toNat:Int)<65)) (vb (decide ((j.toNat:Int)>90))) rfl rfl rfl (dK .gtr .u8 (j.toNat:Int) 90 rfl (fun h=>by exact(cM h:cv (true&&((decide ((j.toNat:Int)<65))==false)) (.int .u8 (j.toNat:Int))= (.int .u8 (j.toNat:Int)))) (fun _=>rfl) rfl) (RL.pick (decide ((j.toNat:Int)<65)) (vb ((decide ((j.toNat:Int)<65))||(decide ((j.toNat:Int)>90)))) (oh true) (mv (vb ((decide ((j.toNat:Int)<65))||(decide ((j.toNat:Int)>90)))) (RL.gs true ((decide ((j.toNat:Int)<65))||(decide ((j.toNat:Int)>90))) (.int .u8 (j.toNat:Int)) rfl rfl rfl cH ?_))))))))
   refine RL.gs true ((decide ((j.toNat:Int)<65))||(decide ((j.toNat:Int)>90))) (vb (decide ((j.toNat:Int)<97))) rfl rfl rfl (dK .lss .u8 (j.toNat:Int) 97 rfl (fun h=>by exact(cM h:cv (true&&(((decide ((j.toNat:Int)<65))||(decide ((j.toNat:Int)>90)))==true)) (.int .u8 (j.toNat:Int))= (.int .u8 (j.toNat:Int)))) (fun _=>rfl) rfl) (RL.gs true ((decide ((j.toNat:Int)<65))||(decide ((j.toNat:Int)>90))) (vb (decide ((j.toNat:Int)<97))) rfl rfl rfl (cH (hx:=fun h=>by exact(cM h:cv (true&&(((decide ((j.toNat:Int)<65))||(decide ((j.toNat:Int)>90)))==true)) (vb (decide ((j.toNat:Int)<97)))= (vb (decide ((j.toNat:Int)<97)))))) (RL.gs (true&&(((decide ((j.toNat:Int)<65))||(decide ((j.toNat:Int)>90)))==true)) (decide ((j.toNat:Int)<97)) (.int .u8 (j.toNat:Int)) rfl rfl rfl cH (RL.gs (true&&(((decide ((j.toNat:Int)<65))||(decide ((j.toNat:Int)>90)))==true)) (decide ((j.toNat:Int)<97)) (vb (decide ((j.toNat:Int)>122))) rfl rfl rfl (dK .gtr .u8 (j.toNat:Int) 122 rfl (fun h=>by exact(cM h:cv ((true&&(((decide ((j.toNat:Int)<65))||(decide ((j.toNat:Int)>90)))==true))&&((decide ((j.toNat:Int)<97))==false)) (.int .u8 (j.toNat:Int))= (.int .u8 (j.toNat:Int)))) (fun _=>rfl) rfl) (RL.gs true ((decide ((j.toNat:Int)<65))||(decide ((j.toNat:Int)>90))) (vb ((decide ((j.toNat:Int)<97))||(decide ((j.toNat:Int)>122)))) rfl rfl rfl (kI (decide ((j.toNat:Int)<97)) rfl (fun h=>by exact(cM h:cv (true&&(((decide ((j.toNat:Int)<65))||(decide ((j.toNat:Int)>90)))==true)) (vb (decide ((j.toNat:Int)<97)))= (vb (decide ((j.toNat:Int)<97))))) (fun h=>by exact oh (h:=h) (true&&(((decide ((j.toNat:Int)<65))||(decide ((j.toNat:Int)>90)))==true)))) (RL.pick ((decide ((j.toNat:Int)<65))||(decide ((j.toNat:Int)>90))) (vb (((decide ((j.toNat:Int)<65))||(decide ((j.toNat:Int)>90)))&&((decide ((j.toNat:Int)<97))||(decide ((j.toNat:Int)>122))))) (gr true rfl) (mv (vb (((decide ((j.toNat:Int)<65))||(decide ((j.toNat:Int)>90)))&&((decide ((j.toNat:Int)<97))||(decide ((j.toNat:Int)>122))))) (RL.gs true (((decide ((j.toNat:Int)<65))||(decide ((j.toNat:Int)>90)))&&((decide ((j.toNat:Int)<97))||(decide ((j.toNat:Int)>122)))) (.int .u8 (j.toNat:Int)) rfl rfl rfl cH (RL.gs true (((decide ((j.toNat:Int)<65))||(decide ((j.toNat:Int)>90)))&&((decide ((j.toNat:Int)<97))||(decide ((j.toNat:Int)>122)))) (vb (decide ((j.toNat:Int)<48))) rfl rfl rfl (dK .lss .u8 (j.toNat:Int) 48 rfl (fun h=>by exact(cM h:cv (true&&((((decide ((j.toNat:Int)<65))||(decide ((j.toNat:Int)>90)))&&((decide ((j.toNat:Int)<97))||(decide ((j.toNat:Int)>122))))==true)) (.int .u8 (j.toNat:Int))= (.int .u8 (j.toNat:Int)))) (fun _=>rfl) rfl) ?_))))))))
   refine RL.gs true (((decide ((j.toNat:Int)<65))||(decide ((j.toNat:Int)>90)))&&((decide ((j.toNat:Int)<97))||(decide ((j.toNat:Int)>122)))) (vb (decide ((j.toNat:Int)<48))) rfl rfl rfl (cH (hx:=fun h=>by exact(cM h:cv (true&&((((decide ((j.toNat:Int)<65))||(decide ((j.toNat:Int)>90)))&&((decide ((j.toNat:Int)<97))||(decide ((j.toNat:Int)>122))))==true)) (vb (decide ((j.toNat:Int)<48)))= (vb (decide ((j.toNat:Int)<48)))))) (RL.gs (true&&((((decide ((j.toNat:Int)<65))||(decide ((j.toNat:Int)>90)))&&((decide ((j.toNat:Int)<97))||(decide ((j.toNat:Int)>122))))==true)) (decide ((j.toNat:Int)<48)) (.int .u8 (j.toNat:Int)) rfl rfl rfl cH (RL.gs (true&&((((decide ((j.toNat:Int)<65))||(decide ((j.toNat:Int)>90)))&&((decide ((j.toNat:Int)<97))||(decide ((j.toNat:Int)>122))))==true)) (decide ((j.toNat:Int)<48)) (vb (decide ((j.toNat:Int)>57))) rfl rfl rfl (dK .gtr .u8 (j.toNat:Int) 57 rfl (fun h=>by exact(cM h:cv ((true&&((((decide ((j.toNat:Int)<65))||(decide ((j.toNat:Int)>90)))&&((decide ((j.toNat:Int)<97))||(decide ((j.toNat:Int)>122))))==true))&&((decide ((j.toNat:Int)<48))==false)) (.int .u8 (j.toNat:Int))= (.int .u8 (j.toNat:Int)))) (fun _=>rfl) rfl) (RL.gs true (((decide ((j.toNat:Int)<65))||(decide ((j.toNat:Int)>90)))&&((decide ((j.toNat:Int)<97))||(decide ((j.toNat:Int)>122)))) (vb ((decide ((j.toNat:Int)<48))||(decide ((j.toNat:Int)>57)))) rfl rfl rfl (kI (decide ((j.toNat:Int)<48)) rfl (fun h=>by exact(cM h:cv (true&&((((decide ((j.toNat:Int)<65))||(decide ((j.toNat:Int)>90)))&&((decide ((j.toNat:Int)<97))||(decide ((j.toNat:Int)>122))))==true)) (vb (decide ((j.toNat:Int)<48)))= (vb (decide ((j.toNat:Int)<48))))) (fun h=>by exact oh (h:=h) (true&&((((decide ((j.toNat:Int)<65))||(decide ((j.toNat:Int)>90)))&&((decide ((j.toNat:Int)<97))||(decide ((j.toNat:Int)>122))))==true)))) (RL.pick (((decide ((j.toNat:Int)<65))||(decide ((j.toNat:Int)>90)))&&((decide ((j.toNat:Int)<97))||(decide ((j.toNat:Int)>122)))) (vb ((((decide ((j.toNat:Int)<65))||(decide ((j.toNat:Int)>90)))&&((decide ((j.toNat:Int)<97))||(decide ((j.toNat:Int)>122))))&&((decide ((j.toNat:Int)<48))||(decide ((j.toNat:Int)>57))))) (gr true rfl) (mv (vb ((((decide ((j.toNat:Int)<65))||(decide ((j.toNat:Int)>90)))&&((decide ((j.toNat:Int)<97))||(decide ((j.toNat:Int)>122))))&&((decide ((j.toNat:Int)<48))||(decide ((j.toNat:Int)>57))))) (fA hj (fun ad hj=>?_) fun ad hj=>?_))))))
   rotate_left
   ·refine bC ad (bC ad (bC ad (fB ad (vb false) (RL.nil ?_))))
    obtain rfl:=oi hj
    exact⟨rfl,hw.sp 0 []⟩
   refine RL.move (.int .u8 (j.toNat:Int)) (cg ad) ?_
   obtain⟨aj,an,hj⟩:=bd hj
   refine RL.call (cg ad) zr Lj [(str ⟨[95,43,45,35]⟩),(.int .u8 (j.toNat:Int))] zr (aD (pM N (p0:=⟨[95,43,45,35]⟩) (p1:=(j.toNat:Int)) hw an) ?_)
   rintro _ w ⟨rfl,hw⟩
   refine RL.lh aj 0 (cg ad) (fB ad (vb (decide (aj<0))) (RL.nil ?_))
   obtain rfl:=oi hj
   exact⟨rfl,hw.sp 0 []⟩
  rintro _ w ⟨O,rfl,hw⟩
  refine aH (dT o (fun hc o=>?_) fun hc o=>?_)
  rotate_left
  ·refine RC.skip (bP (aH (RC.region (RL.inc hk hm (mv (vi ((ab+1:Nat):Int)) (RL.nil ?_))))))
   obtain rfl:=oi o
   exact⟨rfl,hw.sp 0 []⟩
  refine RC.sr (aP (vb false) (RL.nt (RC.rb (bR ?_))))
  obtain rfl:=oi o
  exact⟨rfl,bY ⟨rfl,hw.drop 0⟩⟩
 ·intro r U w e hK
  subst e
  refine bR ?_
  obtain rfl:=oi o
  exact hK
 rintro af _ w rfl ⟨O,rfl,hw⟩
 rw [Fo.cZ] at o
 refine aH (RC.sr (mv (str p0) (RL.lens p0 Aw (ic ((p0.cY.length:Int)) 1 (mv (vb (decide ((p0.cY.length:Int)>=1))) (RL.gs true (decide ((p0.cY.length:Int)>=1)) (str p0) rfl rfl rfl cH (RL.gs true (decide ((p0.cY.length:Int)>=1)) (vi p0.cY.length) rfl rfl rfl (IE (s:=p0) rfl (fun h=>by exact(cM h:cv (true&&((decide ((p0.cY.length:Int)>=1))==true)) (str p0)= (str p0))) Aw) (RL.gs true (decide ((p0.cY.length:Int)>=1)) (vb (decide ((p0.cY.length:Int)<=40))) rfl rfl rfl (dK .leq .i64 (p0.cY.length:Int) 40 rfl (fun h=>by exact(cM h:cv (true&&((decide ((p0.cY.length:Int)>=1))==true)) (vi p0.cY.length)= (vi p0.cY.length))) (fun _=>rfl) rfl) ?_))))))))
 refine RL.pick (decide ((p0.cY.length:Int)>=1)) (vb ((decide ((p0.cY.length:Int)>=1))&&(decide ((p0.cY.length:Int)<=40)))) (gr true zr) (aP (vb ((decide ((p0.cY.length:Int)>=1))&&(decide ((p0.cY.length:Int)<=40)))) (RL.nt (RC.ret ?_)))
 obtain rfl:=oi o
 exact bY ⟨rfl,hw.drop 0⟩
theorem u7 {p0:eI} {res:Bool} (o:Holds E w V) (j:iW N p0=some res):
    Calls bN 88 [(str p0)].toArray w (gJ (aU E V res)):=by
 unfold iW at j
 refine enter Tryz.func88 zr zr (RC.sr (aP (vb false) (RL.ns (mv (str p0) ?_))))
 obtain⟨aa,ab,j⟩:=bd j
 refine RL.call zt zr Ll [(str p0)] zr (aD (rT N (p0:=p0) o ab) ?_)
 rintro _ w ⟨rfl,o⟩
 refine RL.not aa (aP (vb (!aa)) (RL.nt (RC.ret ?_)))
 obtain rfl:=oi j
 exact bY ⟨rfl,o.drop 0⟩
theorem xV {p0:eI} {res:Bool} (j:Holds E w V) (hb:mH N p0=some res):
    Calls bN 47 [(str p0)].toArray w (gJ (aU E V res)):=by
 unfold mH at hb
 refine enter Tryz.func47 zr zr (RC.sr (aP (vb false) (RL.nq ?_)))
 obtain⟨ad,hj,hb⟩:=bd hb
 refine RC.jn (fun(ad:Bool)=>SH E V [(2,vb ad)] []) ad ?_ ?_
 ·refine RC.region (mv (str p0) (RL.lens p0 Aw (ic ((p0.cY.length:Int)) 200 (mv (vb (decide ((p0.cY.length:Int)<=200))) (fA hj (fun o hj=>?_) fun o hj=>?_)))))
  rotate_left
  ·refine bC o (bC o (bC o (bC o (fB o (vb false) (aP (vb false) (RL.nil ?_))))))
   obtain rfl:=oi hj
   exact⟨rfl,j.sp 0 []⟩
  refine RL.move (str p0) (cg o) ?_
  obtain⟨ai,af,hj⟩:=bd hj
  refine RL.call (cg o) zr Lh [(str p0),(str ⟨[47]⟩)] zr (aD (sN N (p0:=p0) (p1:=⟨[47]⟩) j af) ?_)
  rintro ag w j
  have j:=j.freeze 0
  obtain⟨ae,ah,hj⟩:=bd hj
  refine RL.call (cg o) rfl MJ [ag,(.func (.func 88) #[] #[])] rfl (aD (pL N (i0:=0) j rfl ⟨88,[],rfl,MI,fun w Γl v y0 r i j hi hr=>by obtain rfl:=j.Dj (γ:=eI) hi;exact aD (u7 N (p0:=y0) j hr) fun _ _ h=>h⟩ ah) ?_)
  rintro _ w ⟨rfl,j⟩
  refine RL.not (hg:=(cg o)) ae (fB o (vb (!ae)) (aP (vb (!ae)) (RL.nil ?_)))
  obtain rfl:=oi hj
  exact⟨rfl,j.sp 1 []⟩
 rintro _ w ⟨O,rfl,j⟩
 refine aH (RC.ret ?_)
 obtain rfl:=oi hb
 exact bY ⟨rfl,j.drop 0⟩
def AE (E:World) (V:List HP) (res:dB) (v:Value) (w:World):Prop:=Holds E w ([rd v res]++V)
theorem nV {p0:eQ} {res:dB} (j:Holds E w V) (h0:V[i0]? =some (rd v0 p0)) (o:lN N p0=some res):
    Calls bN 16 [v0].toArray w (gJ (AE E V res)):=by
 unfold lN at o
 refine enter Tryz.func16 zr zr ?_
 have j:=j.dup (i0+0) h0
 refine RC.sr (RL.dD 0 v0 j zr fun aa w j=>?_)
 refine RL.alloc j HE.z fun ab w j=>?_
 refine RL.ns (RL.aX zr tG (RL.aM 1 j zr nn yx (RL.aX zr wS (RL.aM 1 j zr ph yx ?_))))
 have j:=(j.sc eI p0.Part).sc eI p0.dB
 refine RL.build (⟨p0.Part,p0.dB⟩:dB) trivial rfl j [(0,(str p0.Part)),(1,(str p0.dB))] rfl Kh rfl (fun M hs g=>by have h:=HB M;exact cT.cons (f:=fun(x:dB) y=>{x with Part:=y}) h Ar (g.sat 1 _ rfl).1 fun _ h=>cT.cons (f:=fun(x:dB) y=>{x with dB:=y}) h As (g.sat 0 _ rfl).1 fun _ h=>cT.nil h) fun ad j=>?_
 refine RL.bZ 3 j 0 zr I0 fun w j=>?_
 refine RL.nt (RC.ret ?_)
 obtain rfl:=oi o
 exact IH 3 zr j zr zr I0 fun ae j=>(j.pk 7 [0])
theorem sg {p0 p1:eI} (o:Holds E w V) (j:mi N p0 p1=some res):
    Calls bN 119 [(str p0),(str p1)].toArray w (gJ (aY E V res)):=by
 unfold mi at j
 refine enter Tryz.func119 zr zr (RC.sr (aP (vi 0) (RL.ns (mv (str p0) (mv (str p1) (RL.Aj (vi (Lib.compareBytes p0.cY p1.cY)) zr [(str p0),(str p1)] zr (Hx p0 p1 w) (aP (vi (Lib.compareBytes p0.cY p1.cY)) (RL.nt ?_))))))))
 refine RC.ret ?_
 obtain rfl:=oi j
 exact bY ⟨rfl,o.drop 0⟩
theorem qW {p0 p1:eI} (o:Holds E w V) (j:nT N p0 p1=some res):
    Calls bN 90 [(str p0),(str p1)].toArray w (gJ (aY E V res)):=by
 unfold nT at j
 refine enter Tryz.func90 zr zr (RC.sr (aP (vi 0) (RL.ns (mv (str p0) (mv (str p1) ?_)))))
 obtain⟨aa,ab,j⟩:=bd j
 refine RL.call zt zr Lm [(str p0),(str p1)] zr (aD (sg N (p0:=p0) (p1:=p1) o ab) ?_)
 rintro _ w ⟨rfl,o⟩
 refine aP (vi aa) (RL.nt (RC.ret ?_))
 obtain rfl:=oi j
 exact bY ⟨rfl,o.drop 0⟩
theorem tN {p0 p1:dB} (j:Holds E w V) (h0:V[i0]? =some (rd v0 p0)) (h1:V[i1]? =some (rd v1 p1)) (o:jV N p0 p1=some res):
    Calls bN 49 [v0,v1].toArray w (gJ (aY E V res)):=by
 unfold jV at o
 refine enter Tryz.func49 zr zr ?_
 have j:=(j.dup (i0+0) h0).dup (i1+1) h1
 refine RC.sr (RL.dD 1 v0 j zr fun ag w j=>?_)
 refine RL.dD 1 v1 j zr fun ah w j=>?_
 refine aP (vi 0) (RL.nq (RC.sr (RL.aX zr HF (RL.aM 1 j zr DR yx (RL.aX zr HF (RL.aM 0 j zr DR yx ?_))))))
 obtain⟨aa,ab,o⟩:=bd o
 refine RL.call zt zr Ln [(str p0.Part),(str p1.Part)] zr (aD (qW N (p0:=p0.Part) (p1:=p1.Part) j ab) ?_)
 rintro _ w ⟨rfl,j⟩
 refine aP (vi aa) (RL.ns (mv (vi aa) (ic aa 0 (RL.nt (dT o (fun hc o=>?_) fun hc o=>?_)))))
 ·refine RC.sr (mv (vi aa) (aP (vi aa) (RL.nt (RC.rt ?_))))
  obtain rfl:=oi o
  exact bY ⟨rfl,j.drop 4⟩
 refine RC.sx (RL.aX zr HG (RL.aM 1 j zr DS yx (RL.aX zr HG (RL.aM 0 j zr DS yx ?_))))
 obtain⟨ae,af,o⟩:=bd o
 refine RL.call zt zr Ln [(str p0.dB),(str p1.dB)] zr (aD (qW N (p0:=p0.dB) (p1:=p1.dB) j af) ?_)
 rintro _ w ⟨rfl,j⟩
 refine aP (vi ae) (RL.nt (RC.ret ?_))
 obtain rfl:=oi o
 exact bY ⟨rfl,j.drop 4⟩
def wc (E:World) (V:List HP) (r:Int) (U:Nat->Value) (w:World):Prop:=lG bN 60 Tryz.f23 (aY E V r) .ret U w
theorem u9 {p0:kY} (j:Holds E w V) (h0:V[i0]? =some (rd v0 p0)) (hb:kM N p0=some res):
    Calls bN 23 [v0].toArray w (gJ (aY E V res)):=by
 unfold kM at hb
 refine enter Tryz.func23 zr zr ?_
 have j:=j.dup (i0+0) h0
 refine RC.sr (RL.dD 0 v0 j zr fun ag w j=>?_)
 have j:=j.l6 (i:=0) rfl
 refine aP (vi 0) (RL.nq (RC.sr (RL.dV 0 j zr n8 lu fun bk j=>(RL.bJ 0 p0.bM j wR fun bl j=>(RL.bB 0 p0.bM j DX (ic ((p0.bM.length:Int)) 1000 (RL.nt (dT hb (fun hc hb=>?_) fun hc hb=>?_))))))))
 ·refine RC.sr (aP (vi 2) (RL.nt (RC.rt ?_)))
  obtain rfl:=oi hb
  exact bY ⟨rfl,j.drop 4⟩
 refine RC.ss (RC.sr (RL.dV 2 j zr n8 lu fun bm j=>(RL.bJ 0 p0.bM j wR fun ah j=>(RL.bB 0 p0.bM j DX (mv (vi 0) (RL.nt ?_))))))
 obtain⟨bn,hN,hb⟩:=bd hb
 refine RC.range (fun(ad:Nat) (ak:Unit)=>SH E V [(1,vp ag 0),(10,ah),(11,vi p0.bM.length),(12,vi ad)] [pt (vp ag 0) p0,rd ah p0.bM]) (fun(ak:Unit)=>SH E V [] [pt (vp ag 0) p0,rd ah p0.bM]) (wc E V) hN ?_ ?_ ?_ ?_ ?_
 ·exact j.sp 6 [4,0]
 ·rintro hm ak _ w ⟨O,rfl,j⟩
  refine RC.sr (ic ((p0.bM.length:Int)) ((p0.bM.length:Int)) (RL.nq (RC.fu sA (RC.ex ?_))))
  exact⟨rfl,j.sp 2 [0,1]⟩
 ·rintro hm ad ak fl _ w hk ⟨O,rfl,j⟩ hb
  refine RC.sr (ic ((ad:Int)) ((p0.bM.length:Int)) (RL.nq (RC.eZ (sw hk) (RC.ss (RC.bs (mv (vi ad) ?_))))))
  obtain⟨ai,a1,hb⟩:=bd hb
  refine RL.bO 1 j BL a1 fun bp j=>(RL.bJ 0 ai j r8 fun bq j=>(RL.alloc j Gv.z fun al w j=>?_))
  refine aP (vi ad) (RL.bZ 0 j 1 zr r8 fun w j=>?_)
  refine RL.nt (RC.block (RC.seq ?_))
  obtain⟨an,o,hb⟩:=bd hb
  refine RC.jn (fun(an:Bool)=>SH E V [(1,vp ag 0),(3,vi ad),(4,vp al 0),(10,ah),(11,vi p0.bM.length),(12,vi ad),(17,vb an)] [pt (vp ag 0) p0,bx 62 al ai,rd ah p0.bM]) an ?_ ?_
  ·refine RC.region (RL.aX zr tG (RL.aM 0 j zr nn yx ?_))
   obtain⟨ay,a2,o⟩:=bd o
   refine RL.call zt zr MK [(str ai.Part)] zr (aD (xV N (p0:=ai.Part) j a2) ?_)
   rintro _ w ⟨rfl,j⟩
   refine RL.not ay (mv (vb (!ay)) (fA o (fun ae o=>?_) fun ae o=>?_))
   ·refine bC ae (bC ae (bC ae (bC ae (fB ae (vb true) (aP (vb true) (RL.nil ?_))))))
    obtain rfl:=oi o
    exact⟨rfl,j.sp 5 [3,0,4]⟩
   refine RL.aX (hg:=(cg ae)) zr wS (RL.aM (hg:=(cg ae)) 0 j zr ph yx ?_)
   obtain⟨ao,a3,o⟩:=bd o
   refine RL.call (cg ae) zr Ll [(str ai.dB)] zr (aD (rT N (p0:=ai.dB) j a3) ?_)
   rintro _ w ⟨rfl,j⟩
   refine RL.not (hg:=(cg ae)) ao (fB ae (vb (!ao)) (aP (vb (!ao)) (RL.nil ?_)))
   obtain rfl:=oi o
   exact⟨rfl,j.sp 5 [3,0,4]⟩
  rintro _ w ⟨O,rfl,j⟩
  refine aH (dT hb (fun hc hb=>?_) fun hc hb=>?_)
  ·refine RC.sr (aP (vi 5) (RL.nt (RC.rb (oL (bR ?_)))))
   obtain rfl:=oi hb
   exact⟨rfl,bY ⟨rfl,j.drop 3⟩⟩
  refine RC.seq ?_
  obtain⟨aq,o,hb⟩:=bd hb
  refine RC.jn (fun(aq:Bool)=>SH E V [(1,vp ag 0),(3,vi ad),(4,vp al 0),(10,ah),(11,vi p0.bM.length),(12,vi ad),(28,vb aq)] [pt (vp ag 0) p0,bx 62 al ai,rd ah p0.bM]) aq ?_ ?_
  ·refine RC.region (RL.aX zr yG (RL.aM 1 j zr qG cL (RL.dV 0 j zr mL jf fun br j=>(RL.bJ 0 p0.aJ j pY fun bt j=>(RL.bB 0 p0.aJ j qP (RL.gk (p0.aJ.length:Int) 1 ?_))))))
   obtain⟨az,a4,o⟩:=bd o
   refine RL.call zt zr IZ [(vi ai.cU),(vi 0),(vi (IntKind.wrap .i64 ((p0.aJ.length:Int) - 1)))] zr (aD (nr N (p0:=ai.cU) (p1:=0) (p2:=(IntKind.wrap .i64 ((p0.aJ.length:Int) - 1))) j a4) ?_)
   rintro _ w ⟨rfl,j⟩
   refine RL.not az (mv (vb (!az)) (fA o (fun af o=>?_) fun af o=>?_))
   ·refine bC af (bC af (bC af (bC af (fB af (vb true) (aP (vb true) (RL.nil ?_))))))
    obtain rfl:=oi o
    exact⟨rfl,j.sp 5 [2,3,4]⟩
   refine RL.aX (hg:=(cg af)) zr yH (RL.aZ (hg:=(cg af)) 3 j zr qH DW fun a5 j=>?_)
   obtain⟨ar,a6,o⟩:=bd o
   refine RL.call (cg af) zr K9 [a5] zr (aD (sK N (i0:=0) j zr a6) ?_)
   rintro _ w ⟨rfl,j⟩
   refine RL.not (hg:=(cg af)) ar (fB af (vb (!ar)) (aP (vb (!ar)) (RL.nil ?_)))
   obtain rfl:=oi o
   exact⟨rfl,j.sp 6 [3,4,5]⟩
  rintro _ w ⟨O,rfl,j⟩
  refine aH (dT hb (fun hc hb=>?_) fun hc hb=>?_)
  ·refine RC.sr (aP (vi 1) (RL.nt (RC.rb (oL (bR ?_)))))
   obtain rfl:=oi hb
   exact⟨rfl,bY ⟨rfl,j.drop 3⟩⟩
  refine RC.seq ?_
  obtain⟨au,o,hb⟩:=bd hb
  refine RC.jn (fun(au:Bool)=>SH E V [(1,vp ag 0),(10,ah),(11,vi p0.bM.length),(12,vi ad),(43,vb au)] [pt (vp ag 0) p0,rd ah p0.bM]) au ?_ ?_
  ·refine RC.vV mixed [0,0,0,0,2,1,1,1,1,1,1,2,2,0,0,0] [0,1,2,3,5,6,7,8,9,10,4,11,12,13,14,15] ?_
   have j:=j.drew
   refine DP.e0 zr (mv (vi ad) (aW zr (ic ((ad:Int)) 0 (aW zr (mv (vb (decide ((ad:Int)>0))) (DP.d0 (fA o (fun ab o=>?_) fun ab o=>?_)))))))
   rotate_left
   ·refine DP.e0 zr (bC ab (DP.d0 (DP.e1 undef zr (fun w=>bC ab DP.d1) (DP.e1 undef zr (fun w=>bC ab DP.d1) (DP.e1 undef zr (fun w=>bC ab DP.d1) (DP.e1 undef zr (fun w=>bC ab DP.d1) (DP.e1 undef zr (fun w=>bC ab DP.d1) (DP.e1 undef zr (fun w=>bC ab DP.d1) ?_))))))))
    refine DP.e2 zr (bC ab (EI zr (bC ab (EI zr (bC ab (rB zr (bC ab (aW zr ?_))))))))
    refine fB ab (vb false) (aW zr (aP (vb false) (DP.d0 (DP.z ?_))))
    obtain rfl:=oi o
    exact⟨rfl,j.sp 3 [0,2]⟩
   refine DP.e0 zr (RL.aZ (hg:=(cg ab)) (f:=(fun x=>x)) 1 j zr Fd.self r8 fun a7 j=>(DP.d0 (DP.CH 1 zr (cg ab) j zr n8 lu fun bu j=>(DP.zT p0.bM 0 zr (cg ab) j wR fun bw a378 bz j=>(DP.e1 (vi ad) zr (fun w=>RL.move (vi ad) (cg ab) DP.d1) (DP.e1 (vi (IntKind.wrap .i64 ((ad:Int) - 1))) zr (fun w=>RL.gk (hg:=(cg ab)) (ad:Int) 1 DP.d1) ?_))))))
   obtain⟨a8,a9,o⟩:=bd o
   refine DP.wM (hg:=(cg ab)) 1 zr j BL a9 fun b0 j=>(DP.zT a8 0 zr (cg ab) j r8 fun ba a383 b1 j=>(DP.e2 zr ?_))
   obtain⟨b2,bb,o⟩:=bd o
   refine RL.call (cg ab) zr I1 [a7] zr (aD (nV N (i0:=6) j zr bb) ?_)
   rintro bc w j
   refine DP.d2 (⟨⟨zt,j.iv 4⟩,j.iv 1⟩) (DP.e2 zr ?_)
   obtain⟨b3,bf,o⟩:=bd o
   refine RL.call (cg ab) zr I1 [ba] zr (aD (nV N (i0:=2) j zr bf) ?_)
   rintro bg w j
   refine DP.d2 (⟨⟨zt,j.iv 5⟩,j.iv 2⟩) (DP.e2 zr ?_)
   obtain⟨av,bh,o⟩:=bd o
   refine RL.call (cg ab) zr ML [bc,bg] zr (aD (tN N (i0:=1) (i1:=0) j zr zr bh) ?_)
   rintro _ w ⟨rfl,j⟩
   refine DP.d2 (⟨⟨zt,j.iv 5⟩,j.iv 2⟩) (DP.e0 zr (RL.lh av 0 (cg ab) (aW zr (fB ab (vb (decide (av<=0))) (aW zr (aP (vb (decide (av<=0))) (DP.d0 ?_)))))))
   have j:=j.pl 12 [0,1,3,4,6,7,8,9,10,11]
   refine DP.z ?_
   obtain rfl:=oi o
   exact⟨rfl,j.sp 10 [7,9]⟩
  rintro _ w ⟨O,rfl,j⟩
  refine aH (dT hb (fun hc hb=>?_) fun hc hb=>?_)
  rotate_left
  ·refine RC.skip (bP (bP (aH (RC.region (RL.inc hk hm (mv (vi ((ad+1:Nat):Int)) (RL.nil ?_)))))))
   obtain rfl:=oi hb
   exact⟨rfl,j.sp 2 [0,1]⟩
  refine RC.sr (aP (vi 8) (RL.nt (RC.rb (oL (bR ?_)))))
  obtain rfl:=oi hb
  exact⟨rfl,bY ⟨rfl,j.drop 2⟩⟩
 ·intro r U w e hK
  subst e
  refine bR ?_
  obtain rfl:=oi hb
  exact hK
 rintro ak _ w rfl ⟨O,rfl,j⟩
 rw [Fo.cZ] at hb
 refine aH (RC.sr (aP (vi 0) (RL.nt (RC.ret ?_))))
 obtain rfl:=oi hb
 exact bY ⟨rfl,j.drop 2⟩
theorem sO (o:Holds E w V) (j:l9 N p0 p1 p2 p3=some res):
    Calls bN 50 [(vi p0),(vi p1),(vi p2),(vi p3)].toArray w (gJ (aY E V res)):=by
 unfold l9 at j
 refine enter Tryz.func50 zr zr (RC.sr (aP (vi 0) (RL.ns (mv (vi p2) (mv (vi p1) (RL.gk p2 p1 (RL.gk (IntKind.wrap .i64 (p2 - p1)) 1 (mv (vi p0) ?_))))))))
 refine mv (vi p3) (RL.gk p0 p3 (RL.gk (IntKind.wrap .i64 (p0 - p3)) 1 (RL.Mr (a:=0) (b:=(IntKind.wrap .i64 ((IntKind.wrap .i64 (p2 - p1))+1))) (c:=(IntKind.wrap .i64 ((IntKind.wrap .i64 (p0 - p3))+1))) zt zr zr zr zr (aP (vi (if (if 0< (IntKind.wrap .i64 ((IntKind.wrap .i64 (p2 - p1))+1)) then (IntKind.wrap .i64 ((IntKind.wrap .i64 (p2 - p1))+1)) else 0)< (IntKind.wrap .i64 ((IntKind.wrap .i64 (p0 - p3))+1)) then (IntKind.wrap .i64 ((IntKind.wrap .i64 (p0 - p3))+1)) else (if 0< (IntKind.wrap .i64 ((IntKind.wrap .i64 (p2 - p1))+1)) then (IntKind.wrap .i64 ((IntKind.wrap .i64 (p2 - p1))+1)) else 0))) (RL.nt (RC.ret ?_))))))
 obtain rfl:=oi j
 exact bY ⟨rfl,o.drop 0⟩
theorem CP {p0 p1:aI} (j:Holds E w V) (h0:V[i0]? =some (rd v0 p0)) (h1:V[i1]? =some (rd v1 p1)) (o:sC N p0 p1=some res):
    Calls bN 24 [v0,v1].toArray w (gJ (aY E V res)):=by
 unfold sC at o
 refine enter Tryz.func24 zr zr ?_
 have j:=(j.dup (i0+0) h0).dup (i1+1) h1
 refine RC.sr (RL.dD 1 v0 j zr fun aa w j=>?_)
 refine RL.dD 1 v1 j zr fun ab w j=>?_
 refine aP (vi 0) (RL.nq ?_)
 have j:=j.drew
 refine RC.E2 (fun w=>Holds E w ([bx 69 ab p1,bx 69 aa p0]++V)) mixed zr [0,0,0,0,0,0,0,0,2,1,1,1,1,1,1,1,1,2,0,0] [0,1,2,3,4,5,6,7,9,10,11,12,13,14,15,16,8,17,18,19] (j.pk 4 [0,1]) (DP.e0 zr (RL.aX zr iw (aW zr (RL.aM 1 j zr dQ cL (aW zr (RL.aX zr jo (aW zr (RL.aM 1 j zr eJ cL ?_))))))))
 refine aW zr (RL.aX zr iw (aW zr (RL.aM 0 j zr dQ cL (aW zr (RL.aX zr jo (aW zr (RL.aM 0 j zr eJ cL (DP.d0 ?_))))))))
 refine DP.e1 (vp aa 1) zr (fun w=>RL.aX zr g8 DP.d1) (DP.IX (vi p0.Y0) zr (fun w j=>RL.aM 1 j zr dH cL DP.d1) (DP.e1 (vp aa 3) zr (fun w=>RL.aX zr kA DP.d1) (DP.IX (vi p0.Y1) zr (fun w j=>RL.aM 1 j zr fJ cL DP.d1) (DP.e1 (vp ab 1) zr (fun w=>RL.aX zr g8 DP.d1) (DP.IX (vi p1.Y0) zr (fun w j=>RL.aM 0 j zr dH cL DP.d1) (DP.e1 (vp ab 3) zr (fun w=>RL.aX zr kA DP.d1) (DP.IX (vi p1.Y1) zr (fun w j=>RL.aM 0 j zr fJ cL DP.d1) (DP.e2 zr ?_))))))))
 obtain⟨ad,af,o⟩:=bd o
 refine RL.call zt zr Lo [(vi p0.X0),(vi p0.X1),(vi p1.X0),(vi p1.X1)] zr (aD (sO N (p0:=p0.X0) (p1:=p0.X1) (p2:=p1.X0) (p3:=p1.X1) j af) ?_)
 rintro _ w ⟨rfl,j⟩
 refine DP.d2 (j.pk 4 [0,1]) (DP.e2 zr ?_)
 obtain⟨ae,ag,o⟩:=bd o
 refine RL.call zt zr Lo [(vi p0.Y0),(vi p0.Y1),(vi p1.Y0),(vi p1.Y1)] zr (aD (sO N (p0:=p0.Y0) (p1:=p0.Y1) (p2:=p1.Y0) (p3:=p1.Y1) j ag) ?_)
 rintro _ w ⟨rfl,j⟩
 refine DP.d2 (j.pk 4 [0,1]) (DP.e0 zr (RL.max ad ae (aW zr (aP (vi (if ad<ae then ae else ad)) (DP.d0 (DP.z (aH (RC.ret ?_))))))))
 obtain rfl:=oi o
 exact bY ⟨rfl,j.drop 4⟩
end Go.Gk
