/-
  Printed texts: Go functions as plain functions, and that they are. No statement of the seed is proved here.
-/
import Derived.Test.YtmmiladckdcjeacGreatDoorG1
import Derived.Test.YtmmiladckdcjeacGreatDoorA2
set_option linter.unusedVariables false
set_option linter.unusedSimpArgs false
set_option linter.unusedSectionVars false
set_option maxRecDepth 100000
set_option maxHeartbeats 4000000
namespace Go.Gk
open Go Go.Proofs
variable (N:Nat) {E w:World} {i0 i1:Nat} {p0 p1 p2 p3 res:Int} {v0 v1:Value} {V:List HP}
theorem jl {p0:bZ} {res:aI} (j:Holds E w V) (h0:V[i0]? =some (rd v0 p0)) (o:gz N p0=some res):
    Calls bN 18 [v0].toArray w (gL (oI E V res)):=by
 unfold gz at o
 refine enter Tryz.func18 zr zr ?_
 have j:=j.dup (i0+0) h0
 refine RC.sr (RL.cS 0 v0 j zr fun aa w j=>?_)
 refine RL.alloc j oG.z fun ab w j=>?_
 refine RL.nq (RC.yN mixed ?_)
 have j:=j.drew
 refine RO.go (RL.aY zr yd (RO.nx (RL.aY zr wk (RO.nx (RL.aM (f:=(fun x=>x.At.X)) 1 j zr (Fd.comp (f:=fun(x:bZ)=>x.At) (fun(x:jr)=>x.X) qm nO) cI (RO.nx (RL.aY zr rJ (RO.nx ?_))))))))
 refine RL.aM 1 j zr l3 cI (RO.nx (RL.quo p0.dE 2 (RO.nx (RL.fY p0.At.X (IntKind.wrap .i64 (Int.tdiv p0.dE 2)) (RO.nx (RL.aY zr yd (RO.nx (RL.aY zr wm ?_))))))))
 refine RO.nx (RL.aM (f:=(fun x=>x.At.Y)) 1 j zr (Fd.comp (f:=fun(x:bZ)=>x.At) (fun(x:jr)=>x.Y) qm nP) cI (RO.nx (RL.aY zr rJ (RO.nx (RL.aM 1 j zr l3 cI (RO.nx (RL.quo p0.dE 2 (RO.nx ?_))))))))
 refine RL.fY p0.At.Y (IntKind.wrap .i64 (Int.tdiv p0.dE 2)) (RO.nx (aQ (vi (IntKind.wrap .i64 (p0.At.X - (IntKind.wrap .i64 (Int.tdiv p0.dE 2))))) (RO.nx (aQ (vi (IntKind.wrap .i64 (p0.At.Y - (IntKind.wrap .i64 (Int.tdiv p0.dE 2))))) (RO.last (aH (RC.sr (mv (vi (IntKind.wrap .i64 (p0.At.X - (IntKind.wrap .i64 (Int.tdiv p0.dE 2))))) ?_))))))))
 refine mv (vi (IntKind.wrap .i64 (p0.At.Y - (IntKind.wrap .i64 (Int.tdiv p0.dE 2))))) (mv (vi (IntKind.wrap .i64 (p0.At.X - (IntKind.wrap .i64 (Int.tdiv p0.dE 2))))) (RL.aY zr rJ (RL.aM 1 j zr l3 cI (RL.fY (IntKind.wrap .i64 (p0.At.X - (IntKind.wrap .i64 (Int.tdiv p0.dE 2)))) p0.dE (mv (vi (IntKind.wrap .i64 (p0.At.Y - (IntKind.wrap .i64 (Int.tdiv p0.dE 2))))) (RL.aY zr rJ (RL.aM 1 j zr l3 cI (RL.fY (IntKind.wrap .i64 (p0.At.Y - (IntKind.wrap .i64 (Int.tdiv p0.dE 2)))) p0.dE ?_))))))))
 have j:=((j.sc Int (IntKind.wrap .i64 (p0.At.X - (IntKind.wrap .i64 (Int.tdiv p0.dE 2))))).sc Int (IntKind.wrap .i64 (p0.At.Y - (IntKind.wrap .i64 (Int.tdiv p0.dE 2))))).sc Int (IntKind.wrap .i64 ((IntKind.wrap .i64 (p0.At.X - (IntKind.wrap .i64 (Int.tdiv p0.dE 2))))+p0.dE))
 have j:=j.sc Int (IntKind.wrap .i64 ((IntKind.wrap .i64 (p0.At.Y - (IntKind.wrap .i64 (Int.tdiv p0.dE 2))))+p0.dE))
 refine RL.build (⟨(IntKind.wrap .i64 (p0.At.X - (IntKind.wrap .i64 (Int.tdiv p0.dE 2)))),(IntKind.wrap .i64 (p0.At.Y - (IntKind.wrap .i64 (Int.tdiv p0.dE 2)))),(IntKind.wrap .i64 ((IntKind.wrap .i64 (p0.At.X - (IntKind.wrap .i64 (Int.tdiv p0.dE 2))))+p0.dE)),(IntKind.wrap .i64 ((IntKind.wrap .i64 (p0.At.Y - (IntKind.wrap .i64 (Int.tdiv p0.dE 2))))+p0.dE))⟩:aI) trivial rfl j [(0,(vi (IntKind.wrap .i64 (p0.At.X - (IntKind.wrap .i64 (Int.tdiv p0.dE 2)))))),(1,(vi (IntKind.wrap .i64 (p0.At.Y - (IntKind.wrap .i64 (Int.tdiv p0.dE 2)))))),(2,(vi (IntKind.wrap .i64 ((IntKind.wrap .i64 (p0.At.X - (IntKind.wrap .i64 (Int.tdiv p0.dE 2))))+p0.dE)))),(3,(vi (IntKind.wrap .i64 ((IntKind.wrap .i64 (p0.At.Y - (IntKind.wrap .i64 (Int.tdiv p0.dE 2))))+p0.dE))))] rfl Dm rfl (fun M hs g=>by have h:=tj M;exact cU.cons (f:=fun(x:aI) y=>{x with X0:=y}) h oW (g.sat 3 _ rfl).1 fun _ h=>cU.cons (f:=fun(x:aI) y=>{x with Y0:=y}) h qj (g.sat 2 _ rfl).1 fun _ h=>cU.cons (f:=fun(x:aI) y=>{x with X1:=y}) h oX (g.sat 1 _ rfl).1 fun _ h=>cU.cons (f:=fun(x:aI) y=>{x with Y1:=y}) h ql (g.sat 0 _ rfl).1 fun _ h=>cU.nil h) fun ad j=>?_
 refine RL.cC 5 j 0 zr iE fun w j=>?_
 refine RL.nt (RC.ret ?_)
 obtain rfl:=oi o
 exact Il 5 zr j zr zr iE fun ae j=>(j.pk 9 [0])
theorem vG {p0: (List aA)} {res:aI} (j:Holds E w V) (h0:V[i0]? =some (rd v0 p0)) (hb:m0 N p0=some res):
    Calls bN 82 [v0].toArray w (gL (oI E V res)):=by
 unfold m0 at hb
 refine enter Tryz.func82 zr zr ?_
 have j:=j.dup (i0+0) h0
 refine RC.sr (RL.alloc j oG.z fun bf w j=>?_)
 refine RL.nq ?_
 obtain⟨bj,bo,hb⟩:=bd hb
 obtain⟨bb,bp,hb⟩:=bd hb
 obtain⟨a8,bq,hb⟩:=bd hb
 obtain⟨bk,br,hb⟩:=bd hb
 obtain⟨bc,bt,hb⟩:=bd hb
 obtain⟨a9,bu,hb⟩:=bd hb
 refine RC.F2 E V mixed [1,0,0,0,0,0,1,0,0,0,1,0,0,0,0,0,1,1,0,1,0,0,0,0,0,0] [1,2,3,4,7,8,11,12,13,14,20,21,23,24,25] (fun(x:Value×Value×Value×Value×Value×Value×Value×Value×Value×Value×Value×Value×Value×Nat)=>(fun ah ai aj ak al an ao aq ar au av aw ax ae=>[(0,6,v0),(1,7,ah),(2,8,ai),(3,9,aj),(4,10,ak),(5,11,(vi bb)),(6,12,v0),(7,13,al),(8,14,an),(9,15,(vi a8.Y0)),(10,16,v0),(11,17,ao),(12,18,aq),(13,19,ar),(14,20,au),(15,21,(vi bc)),(16,22,v0),(17,23,v0),(18,24,(vi p0.length)),(19,25,(vi (IntKind.wrap .i64 ((p0.length:Int) - 1)))),(20,26,av),(21,27,aw),(22,28,(vi a9.Y1)),(23,29,ax),(24,3,(vp ae 0))]) x.1 x.2.1 x.2.2.1 x.2.2.2.1 x.2.2.2.2.1 x.2.2.2.2.2.1 x.2.2.2.2.2.2.1 x.2.2.2.2.2.2.2.1 x.2.2.2.2.2.2.2.2.1 x.2.2.2.2.2.2.2.2.2.1 x.2.2.2.2.2.2.2.2.2.2.1 x.2.2.2.2.2.2.2.2.2.2.2.1 x.2.2.2.2.2.2.2.2.2.2.2.2.1 x.2.2.2.2.2.2.2.2.2.2.2.2.2) [(0,v0),(2,vp bf 0)] [] (fun(D:Nat->Bool) (x:Value×Value×Value×Value×Value×Value×Value×Value×Value×Value×Value×Value×Value×Nat)=>(fun ah ai aj ak al an ao aq ar au av aw ax ae=>[bif D 0 then (pt ah bj) else bD,bif D 1 then (pt ai bj.Xs) else bD,bif D 2 then (rd aj bj.Xs) else bD,bif D 3 then (pt ak bb) else bD,bif D 4 then (pt al a8) else bD,bif D 5 then (pt an a8.Y0) else bD,bif D 6 then (pt ao bk) else bD,bif D 7 then (pt aq bk.Xs) else bD,bif D 8 then (rd ar bk.Xs) else bD,bif D 9 then (pt au bc) else bD,bif D 10 then (pt av a9) else bD,bif D 11 then (pt aw a9.Y1) else bD,bif D 12 then (rd ax (⟨bb,a8.Y0,bc,a9.Y1⟩:aI)) else bD,bif D 14 then (bx 56 ae (⟨bb,a8.Y0,bc,a9.Y1⟩:aI)) else (bif D 13 then (raw 56 ae 4) else bD),raw 56 bf 4,rd v0 p0]) x.1 x.2.1 x.2.2.1 x.2.2.2.1 x.2.2.2.2.1 x.2.2.2.2.2.1 x.2.2.2.2.2.2.1 x.2.2.2.2.2.2.2.1 x.2.2.2.2.2.2.2.2.1 x.2.2.2.2.2.2.2.2.2.1 x.2.2.2.2.2.2.2.2.2.2.1 x.2.2.2.2.2.2.2.2.2.2.2.1 x.2.2.2.2.2.2.2.2.2.2.2.2.1 x.2.2.2.2.2.2.2.2.2.2.2.2.2) (fun x=>by kernel_rfl) ?_ ⟨fun _=>jG gn,?_,?_,?_,?_,?_,fun _=>jG gn,?_,?_,?_,fun _=>jG gn,?_,?_,?_,?_,?_,fun _=>jG gn,fun _=>jG gn,?_,fun _=>JR gn rfl,?_,?_,?_,?_,?_,?_,trivial⟩ ?_
 ·have j:=((((((((((((j.drew).bD).bD).bD).bD).bD).bD).bD).bD).bD).bD).bD).bD
  have j:=(j.bD).bD
  exact⟨(undef,undef,undef,undef,undef,undef,undef,undef,undef,undef,undef,undef,undef,0),gH.none,(EC zr),zt,j⟩
 ·rintro D U w hD o ag ⟨⟨ah,ai,aj,ak,al,an,ao,aq,ar,au,av,aw,ax,ae⟩,hv,ha,_,j⟩
  obtain⟨O,rfl⟩:=(ac (hv.at 0 rfl (o.1 rfl)) az).fI
  have j:=j.cD 0 hD
  refine RL.bP 15 j pK bo fun bw j=>?_
  have j:=(j.pl 17 [0,2,3,4,5,6,7,8,9,10,11,12,13,14,15,16]).cQ 0 true rfl bD
  exact RL.nil ⟨rfl,(bw,ai,aj,ak,al,an,ao,aq,ar,au,av,aw,ax,ae),hv.put 1 zr zr,ha.up zr,zt,j⟩
 ·rintro D U w hD o ag ⟨⟨ah,ai,aj,ak,al,an,ao,aq,ar,au,av,aw,ax,ae⟩,hv,ha,_,j⟩
  obtain⟨O,rfl⟩:=(ac (hv.at 1 rfl (o.1 rfl)) az).fI
  have j:=(j.cP 0 (o.1 rfl)).cD 1 hD
  refine RL.dP 0 j zr mg eB fun bz j=>?_
  have j:=((j.pl 17 [1,0,3,4,5,6,7,8,9,10,11,12,13,14,15,16]).cQ 0 (D 1) (o.1 rfl) bD).cQ 1 true rfl bD
  exact RL.nil ⟨rfl,(ah,bz,aj,ak,al,an,ao,aq,ar,au,av,aw,ax,ae),hv.put 2 zr zr,ha.up zr,zt,j⟩
 ·rintro D U w hD o ag ⟨⟨ah,ai,aj,ak,al,an,ao,aq,ar,au,av,aw,ax,ae⟩,hv,ha,_,j⟩
  obtain⟨O,rfl⟩:=(ac (hv.at 2 rfl (o.1 rfl)) az).fI
  have j:=(j.cP 1 (o.1 rfl)).cD 2 hD
  refine RL.bJ 1 bj.Xs j fu fun b0 j=>?_
  have j:=((j.pl 17 [1,2,0,4,5,6,7,8,9,10,11,12,13,14,15,16]).cQ 1 (D 2) (o.1 rfl) bD).cQ 2 true rfl bD
  exact RL.nil ⟨rfl,(ah,ai,b0,ak,al,an,ao,aq,ar,au,av,aw,ax,ae),hv.put 3 zr zr,ha.up zr,zt,j⟩
 ·rintro D U w hD o ag ⟨⟨ah,ai,aj,ak,al,an,ao,aq,ar,au,av,aw,ax,ae⟩,hv,ha,_,j⟩
  obtain⟨O,rfl⟩:=(ac (hv.at 3 rfl (o.1 rfl)) az).fI
  have j:=(j.cP 2 (o.1 rfl)).cD 3 hD
  refine RL.bP 2 j eC bp fun b1 j=>?_
  have j:=((j.pl 17 [1,2,3,0,5,6,7,8,9,10,11,12,13,14,15,16]).cQ 2 (D 3) (o.1 rfl) bD).cQ 3 true rfl bD
  exact RL.nil ⟨rfl,(ah,ai,aj,b1,al,an,ao,aq,ar,au,av,aw,ax,ae),hv.put 4 zr zr,ha.up zr,zt,j⟩
 ·rintro D U w hD o ag ⟨⟨ah,ai,aj,ak,al,an,ao,aq,ar,au,av,aw,ax,ae⟩,hv,ha,_,j⟩
  obtain⟨O,rfl⟩:=(ac (hv.at 4 rfl (o.1 rfl)) az).fI
  have j:=j.cP 3 (o.1 rfl)
  refine RL.bE bb 3 j cI ?_
  have j:=j.cQ 3 (D 4) (o.1 rfl) bD
  exact RL.nil ⟨rfl,(ah,ai,aj,ak,al,an,ao,aq,ar,au,av,aw,ax,ae),hv.put 5 zr zr,ha.up zr,zt,j⟩
 ·rintro D U w hD o ag ⟨⟨ah,ai,aj,ak,al,an,ao,aq,ar,au,av,aw,ax,ae⟩,hv,ha,_,j⟩
  obtain⟨O,rfl⟩:=(ac (hv.at 6 rfl (o.1 rfl)) az).fI
  have j:=j.cD 4 hD
  refine RL.bP 15 j pK bq fun b2 j=>?_
  have j:=(j.pl 17 [1,2,3,4,0,6,7,8,9,10,11,12,13,14,15,16]).cQ 4 true rfl bD
  exact RL.nil ⟨rfl,(ah,ai,aj,ak,b2,an,ao,aq,ar,au,av,aw,ax,ae),hv.put 7 zr zr,ha.up zr,zt,j⟩
 ·rintro D U w hD o ag ⟨⟨ah,ai,aj,ak,al,an,ao,aq,ar,au,av,aw,ax,ae⟩,hv,ha,_,j⟩
  obtain⟨O,rfl⟩:=(ac (hv.at 7 rfl (o.1 rfl)) az).fI
  have j:=(j.cP 4 (o.1 rfl)).cD 5 hD
  refine RL.dP 4 j zr pW g8 fun b3 j=>?_
  have j:=((j.pl 17 [1,2,3,4,5,0,7,8,9,10,11,12,13,14,15,16]).cQ 4 (D 7) (o.1 rfl) bD).cQ 5 true rfl bD
  exact RL.nil ⟨rfl,(ah,ai,aj,ak,al,b3,ao,aq,ar,au,av,aw,ax,ae),hv.put 8 zr zr,ha.up zr,zt,j⟩
 ·rintro D U w hD o ag ⟨⟨ah,ai,aj,ak,al,an,ao,aq,ar,au,av,aw,ax,ae⟩,hv,ha,_,j⟩
  obtain⟨O,rfl⟩:=(ac (hv.at 8 rfl (o.1 rfl)) az).fI
  have j:=j.cP 5 (o.1 rfl)
  refine RL.bE a8.Y0 5 j cI ?_
  have j:=j.cQ 5 (D 8) (o.1 rfl) bD
  exact RL.nil ⟨rfl,(ah,ai,aj,ak,al,an,ao,aq,ar,au,av,aw,ax,ae),hv.put 9 zr zr,ha.up zr,zt,j⟩
 ·rintro D U w hD o ag ⟨⟨ah,ai,aj,ak,al,an,ao,aq,ar,au,av,aw,ax,ae⟩,hv,ha,_,j⟩
  obtain⟨O,rfl⟩:=(ac (hv.at 10 rfl (o.1 rfl)) az).fI
  have j:=j.cD 6 hD
  refine RL.bP 15 j pK br fun b4 j=>?_
  have j:=(j.pl 17 [1,2,3,4,5,6,0,8,9,10,11,12,13,14,15,16]).cQ 6 true rfl bD
  exact RL.nil ⟨rfl,(ah,ai,aj,ak,al,an,b4,aq,ar,au,av,aw,ax,ae),hv.put 11 zr zr,ha.up zr,zt,j⟩
 ·rintro D U w hD o ag ⟨⟨ah,ai,aj,ak,al,an,ao,aq,ar,au,av,aw,ax,ae⟩,hv,ha,_,j⟩
  obtain⟨O,rfl⟩:=(ac (hv.at 11 rfl (o.1 rfl)) az).fI
  have j:=(j.cP 6 (o.1 rfl)).cD 7 hD
  refine RL.dP 6 j zr mg eB fun b5 j=>?_
  have j:=((j.pl 17 [1,2,3,4,5,6,7,0,9,10,11,12,13,14,15,16]).cQ 6 (D 11) (o.1 rfl) bD).cQ 7 true rfl bD
  exact RL.nil ⟨rfl,(ah,ai,aj,ak,al,an,ao,b5,ar,au,av,aw,ax,ae),hv.put 12 zr zr,ha.up zr,zt,j⟩
 ·rintro D U w hD o ag ⟨⟨ah,ai,aj,ak,al,an,ao,aq,ar,au,av,aw,ax,ae⟩,hv,ha,_,j⟩
  obtain⟨O,rfl⟩:=(ac (hv.at 12 rfl (o.1 rfl)) az).fI
  have j:=(j.cP 7 (o.1 rfl)).cD 8 hD
  refine RL.bJ 7 bk.Xs j fu fun b6 j=>?_
  have j:=((j.pl 17 [1,2,3,4,5,6,7,8,0,10,11,12,13,14,15,16]).cQ 7 (D 12) (o.1 rfl) bD).cQ 8 true rfl bD
  exact RL.nil ⟨rfl,(ah,ai,aj,ak,al,an,ao,aq,b6,au,av,aw,ax,ae),hv.put 13 zr zr,ha.up zr,zt,j⟩
 ·rintro D U w hD o ag ⟨⟨ah,ai,aj,ak,al,an,ao,aq,ar,au,av,aw,ax,ae⟩,hv,ha,_,j⟩
  obtain⟨O,rfl⟩:=(ac (hv.at 13 rfl (o.1 rfl)) az).fI
  have j:=(j.cP 8 (o.1 rfl)).cD 9 hD
  refine RL.bP 8 j eC bt fun b7 j=>?_
  have j:=((j.pl 17 [1,2,3,4,5,6,7,8,9,0,11,12,13,14,15,16]).cQ 8 (D 13) (o.1 rfl) bD).cQ 9 true rfl bD
  exact RL.nil ⟨rfl,(ah,ai,aj,ak,al,an,ao,aq,ar,b7,av,aw,ax,ae),hv.put 14 zr zr,ha.up zr,zt,j⟩
 ·rintro D U w hD o ag ⟨⟨ah,ai,aj,ak,al,an,ao,aq,ar,au,av,aw,ax,ae⟩,hv,ha,_,j⟩
  obtain⟨O,rfl⟩:=(ac (hv.at 14 rfl (o.1 rfl)) az).fI
  have j:=j.cP 9 (o.1 rfl)
  refine RL.bE bc 9 j cI ?_
  have j:=j.cQ 9 (D 14) (o.1 rfl) bD
  exact RL.nil ⟨rfl,(ah,ai,aj,ak,al,an,ao,aq,ar,au,av,aw,ax,ae),hv.put 15 zr zr,ha.up zr,zt,j⟩
 ·rintro D U w hD o ag ⟨⟨ah,ai,aj,ak,al,an,ao,aq,ar,au,av,aw,ax,ae⟩,hv,ha,_,j⟩
  obtain⟨O,rfl⟩:=(ac (hv.at 17 rfl (o.1 rfl)) az).fI
  refine RL.bF 15 p0 j vA ?_
  exact RL.nil ⟨rfl,(ah,ai,aj,ak,al,an,ao,aq,ar,au,av,aw,ax,ae),hv.put 18 zr zr,ha.up zr,zt,j⟩
 ·rintro D U w hD o ag ⟨⟨ah,ai,aj,ak,al,an,ao,aq,ar,au,av,aw,ax,ae⟩,hv,ha,_,j⟩
  obtain⟨O,rfl⟩:=(ac (hv.at 16 rfl (o.1 rfl)) (ac (hv.at 19 rfl (o.2.1 rfl)) az)).fI
  have j:=j.cD 10 hD
  refine RL.bP 15 j pK bu fun b8 j=>?_
  have j:=(j.pl 17 [1,2,3,4,5,6,7,8,9,10,0,12,13,14,15,16]).cQ 10 true rfl bD
  exact RL.nil ⟨rfl,(ah,ai,aj,ak,al,an,ao,aq,ar,au,b8,aw,ax,ae),hv.put 20 zr zr,ha.up zr,zt,j⟩
 ·rintro D U w hD o ag ⟨⟨ah,ai,aj,ak,al,an,ao,aq,ar,au,av,aw,ax,ae⟩,hv,ha,_,j⟩
  obtain⟨O,rfl⟩:=(ac (hv.at 20 rfl (o.1 rfl)) az).fI
  have j:=(j.cP 10 (o.1 rfl)).cD 11 hD
  refine RL.dP 10 j zr nJ fM fun b9 j=>?_
  have j:=((j.pl 17 [1,2,3,4,5,6,7,8,9,10,11,0,13,14,15,16]).cQ 10 (D 20) (o.1 rfl) bD).cQ 11 true rfl bD
  exact RL.nil ⟨rfl,(ah,ai,aj,ak,al,an,ao,aq,ar,au,av,b9,ax,ae),hv.put 21 zr zr,ha.up zr,zt,j⟩
 ·rintro D U w hD o ag ⟨⟨ah,ai,aj,ak,al,an,ao,aq,ar,au,av,aw,ax,ae⟩,hv,ha,_,j⟩
  obtain⟨O,rfl⟩:=(ac (hv.at 21 rfl (o.1 rfl)) az).fI
  have j:=j.cP 11 (o.1 rfl)
  refine RL.bE a9.Y1 11 j cI ?_
  have j:=j.cQ 11 (D 21) (o.1 rfl) bD
  exact RL.nil ⟨rfl,(ah,ai,aj,ak,al,an,ao,aq,ar,au,av,aw,ax,ae),hv.put 22 zr zr,ha.up zr,zt,j⟩
 ·rintro D U w hD o ag ⟨⟨ah,ai,aj,ak,al,an,ao,aq,ar,au,av,aw,ax,ae⟩,hv,ha,_,j⟩
  obtain⟨O,rfl⟩:=(ac (hv.at 5 rfl (o.1 rfl)) (ac (hv.at 9 rfl (o.2.1 rfl)) (ac (hv.at 15 rfl (o.2.2.1 rfl)) (ac (hv.at 22 rfl (o.2.2.2.1 rfl)) az)))).fI
  have j:=((((j.cD 12 hD).sc Int bb).sc Int a8.Y0).sc Int bc).sc Int a9.Y1
  refine RL.build (⟨bb,a8.Y0,bc,a9.Y1⟩:aI) trivial rfl j [(0,vi bb),(1,vi a8.Y0),(2,vi bc),(3,vi a9.Y1)] rfl Dm rfl (fun M hs g=>by have h:=tj M;exact cU.cons (f:=fun(x:aI) y=>{x with X0:=y}) h oW (g.sat 3 _ rfl).1 fun _ h=>cU.cons (f:=fun(x:aI) y=>{x with Y0:=y}) h qj (g.sat 2 _ rfl).1 fun _ h=>cU.cons (f:=fun(x:aI) y=>{x with X1:=y}) h oX (g.sat 1 _ rfl).1 fun _ h=>cU.cons (f:=fun(x:aI) y=>{x with Y1:=y}) h ql (g.sat 0 _ rfl).1 fun _ h=>cU.nil h) fun ca j=>?_
  have j:=(j.pl 21 [5,6,7,8,9,10,11,12,13,14,15,16,0,18,19,20]).cQ 12 true rfl bD
  exact RL.nil ⟨rfl,(ah,ai,aj,ak,al,an,ao,aq,ar,au,av,aw,ca,ae),hv.put 23 zr zr,ha.up zr,zt,j⟩
 ·rintro D U w hD o ag ⟨⟨ah,ai,aj,ak,al,an,ao,aq,ar,au,av,aw,ax,ae⟩,hv,ha,_,j⟩
  obtain⟨O,rfl⟩:=(az (U:=U)).fI
  have j:=(j.cD 13 (nf (fun h=>ft hD ((ag 25 _ rfl h).1 rfl)))).cD 13 hD
  refine RL.alloc j oG.z fun bl w j=>?_
  have j:=((j.pl 17 [1,2,3,4,5,6,7,8,9,10,11,12,13,0,15,16]).cQ 13 true rfl bD).eX 13 (D 25) (nf (fun h=>ft hD ((ag 25 _ rfl h).1 rfl))) (bx 56 bl (⟨bb,a8.Y0,bc,a9.Y1⟩:aI))
  exact RL.nil ⟨rfl,(ah,ai,aj,ak,al,an,ao,aq,ar,au,av,aw,ax,bl),hv.put 24 zr zr,ha.up zr,zt,j⟩
 ·rintro D U w hD o ag ⟨⟨ah,ai,aj,ak,al,an,ao,aq,ar,au,av,aw,ax,ae⟩,hv,ha,_,j⟩
  obtain⟨O,rfl⟩:=(ac (hv.at 23 rfl (o.2.1 rfl)) (ac (hv.at 24 rfl (o.1 rfl)) az)).fI
  have j:=((j.cP 12 (o.2.1 rfl)).cD 13 hD).cP 13 (o.1 rfl)
  refine RL.cC 13 j 12 zr iE fun w j=>?_
  have j:=(j.cQ 12 (D 23) (o.2.1 rfl) bD).cQ 13 true rfl (bif D 24 then (raw 56 ae 4) else bD)
  exact RL.nil ⟨rfl,(ah,ai,aj,ak,al,an,ao,aq,ar,au,av,aw,ax,ae),hv.no zr,ha,zt,j⟩
 rintro D U w a6 ⟨⟨ah,ai,aj,ak,al,an,ao,aq,ar,au,av,aw,ax,ae⟩,hv,ha,_,j⟩
 have j:=j.cP 0 (a6 1 (by decide))
 have j:=j.cP 1 (a6 2 (by decide))
 have j:=j.cP 2 (a6 3 (by decide))
 have j:=j.cP 3 (a6 4 (by decide))
 have j:=j.cP 4 (a6 7 (by decide))
 have j:=j.cP 5 (a6 8 (by decide))
 have j:=j.cP 6 (a6 11 (by decide))
 have j:=j.cP 7 (a6 12 (by decide))
 have j:=j.cP 8 (a6 13 (by decide))
 have j:=j.cP 9 (a6 14 (by decide))
 have j:=j.cP 10 (a6 20 (by decide))
 have j:=j.cP 11 (a6 21 (by decide))
 have j:=j.cP 12 (a6 23 (by decide))
 have j:=j.cP 13 (a6 25 (by decide))
 obtain⟨O,rfl⟩:=(ac (hv.at 24 rfl (a6 24 (by decide))) (ac (ha.at 0 rfl) (ac (ha.at 1 rfl) az))).fI
 refine aH (RC.seq (RC.sr (mv v0 (RL.bF 15 p0 j vA (mv (vi 0) (RL.nt ?_))))))
 obtain⟨af,hN,hb⟩:=bd hb
 refine RC.fold (fun(bg:Nat) (af:aI)=>SH E V [(2,vp bf 0),(3,vp ae 0),(30,v0),(31,vi p0.length),(32,vi bg)] [raw 56 bf 4,bx 56 ae af,rd v0 p0]) (fun(af:aI)=>SH E V [(2,vp bf 0),(3,vp ae 0)] [raw 56 bf 4,bx 56 ae af,rd v0 p0]) hN ?_ ?_ ?_ ?_
 ·exact j.sp 16 [14,13,15]
 ·rintro hm af _ w ⟨O,rfl,j⟩
  refine RC.sr (ic ((p0.length:Int)) ((p0.length:Int)) (RL.nq (RC.gk ue (RC.ex ?_))))
  exact⟨rfl,j.sp 3 [0,1,2]⟩
 ·rintro hm bg af s' _ w hk ⟨O,rfl,j⟩ hb
  refine RC.sr (ic ((bg:Int)) ((p0.length:Int)) (RL.nq (RC.gj (ud hk) (RC.ss (RC.bs ?_)))))
  obtain⟨ba,cc,hb⟩:=bd hb
  refine RL.bP 2 j pK cc fun cd j=>(RL.bJ 0 ba j xl fun cf j=>(RL.alloc j Dl.z fun bh w j=>?_))
  refine RL.cC 0 j 1 zr xl fun w j=>?_
  refine RL.nt ?_
  obtain⟨a5,cg,hb⟩:=bd hb
  obtain⟨a7,ch,hb⟩:=bd hb
  refine RC.F2 E V mixed [1,0,1,0,0,0,0,1,0,1,0,1,0,0,1,0,0,0,1,0,1,0] [3,4,10,12,15,19,21] (fun(x:Value×Value×Value×Value×Value)=>(fun ay a0 a1 a2 a3=>[(0,36,(vp ae 0)),(1,37,(vi af.X0)),(2,38,(vp bh 2)),(3,39,ay),(4,40,a0),(5,41,(vi a5)),(6,42,(vi (if a5<af.X0 then a5 else af.X0))),(7,43,(vp ae 2)),(8,44,(vi af.X1)),(9,45,(vp bh 2)),(10,46,a1),(11,47,(vp bh 2)),(12,48,a2),(13,49,(vi ba.Xs.length)),(14,50,(vi (IntKind.wrap .i64 ((ba.Xs.length:Int) - 1)))),(15,51,a3),(16,52,(vi a7)),(17,53,(vi (if af.X1<a7 then a7 else af.X1))),(18,54,(vp ae 0)),(20,55,(vp ae 2))]) x.1 x.2.1 x.2.2.1 x.2.2.2.1 x.2.2.2.2) [(2,vp bf 0),(3,vp ae 0),(5,vp bh 0),(30,v0),(31,vi p0.length),(32,vi bg)] [] (fun(D:Nat->Bool) (x:Value×Value×Value×Value×Value)=>(fun ay a0 a1 a2 a3=>[bif D 0 then (rd ay ba.Xs) else bD,bif D 1 then (pt a0 a5) else bD,bif D 2 then (rd a1 ba.Xs) else bD,bif D 3 then (rd a2 ba.Xs) else bD,bif D 4 then (pt a3 a7) else bD,bx 124 bh ba,rd cf ba,pt cd ba,raw 56 bf 4,bif D 6 then (bx 56 ae {{af with X0:=(if a5<af.X0 then a5 else af.X0)} with X1:=(if af.X1<a7 then a7 else af.X1)}) else (bif D 5 then (bx 56 ae {af with X0:=(if a5<af.X0 then a5 else af.X0)}) else (bx 56 ae af)),rd v0 p0]) x.1 x.2.1 x.2.2.1 x.2.2.2.1 x.2.2.2.2) (fun x=>by kernel_rfl) ?_ ⟨fun _=>nN gn ij,?_,fun _=>nN gn mg,?_,?_,?_,?_,fun _=>nN gn ji,?_,fun _=>nN gn mg,?_,fun _=>nN gn mg,?_,?_,fun _=>JR gn rfl,?_,?_,?_,fun _=>nN gn ij,?_,fun _=>nN gn ji,?_,trivial⟩ ?_
  ·have j:=(((((j.drew).bD).bD).bD).bD).bD
   exact⟨(undef,undef,undef,undef,undef),gH.none,(EC zr),zt,j⟩
  ·rintro D U w hD o ag ⟨⟨ay,a0,a1,a2,a3⟩,hv,ha,_,j⟩
   obtain⟨O,rfl⟩:=(ac (hv.at 0 rfl (o.1 rfl)) az).fI
   have j:=(j.cD 9 (nf (fun h=>ft hD ((ag 21 _ rfl h).2.2.2.2.1 rfl)))).cD 9 (nf (fun h=>ft hD ((ag 19 _ rfl h).2.2.2.1 rfl)))
   refine RL.aM 9 j zr dM cI ?_
   have j:=(j.eX 9 (D 19) (nf (fun h=>ft hD ((ag 19 _ rfl h).2.2.2.1 rfl))) (bx 56 ae {af with X0:=(if a5<af.X0 then a5 else af.X0)})).eX 9 (D 21) (nf (fun h=>ft hD ((ag 21 _ rfl h).2.2.2.2.1 rfl))) (bx 56 ae {{af with X0:=(if a5<af.X0 then a5 else af.X0)} with X1:=(if af.X1<a7 then a7 else af.X1)})
   exact RL.nil ⟨rfl,(ay,a0,a1,a2,a3),hv.put 1 zr zr,ha.up zr,zt,j⟩
  ·rintro D U w hD o ag ⟨⟨ay,a0,a1,a2,a3⟩,hv,ha,_,j⟩
   obtain⟨O,rfl⟩:=(ac (hv.at 2 rfl (o.1 rfl)) az).fI
   have j:=j.cD 0 hD
   refine RL.bB 5 j zr eB fu fun cj j=>?_
   have j:=(j.pl 12 [0,2,3,4,5,6,7,8,9,10,11]).cQ 0 true rfl bD
   exact RL.nil ⟨rfl,(cj,a0,a1,a2,a3),hv.put 3 zr zr,ha.up zr,zt,j⟩
  ·rintro D U w hD o ag ⟨⟨ay,a0,a1,a2,a3⟩,hv,ha,_,j⟩
   obtain⟨O,rfl⟩:=(ac (hv.at 3 rfl (o.1 rfl)) az).fI
   have j:=(j.cP 0 (o.1 rfl)).cD 1 hD
   refine RL.bP 0 j eC cg fun ck j=>?_
   have j:=((j.pl 12 [1,0,3,4,5,6,7,8,9,10,11]).cQ 0 (D 3) (o.1 rfl) bD).cQ 1 true rfl bD
   exact RL.nil ⟨rfl,(ay,ck,a1,a2,a3),hv.put 4 zr zr,ha.up zr,zt,j⟩
  ·rintro D U w hD o ag ⟨⟨ay,a0,a1,a2,a3⟩,hv,ha,_,j⟩
   obtain⟨O,rfl⟩:=(ac (hv.at 4 rfl (o.1 rfl)) az).fI
   have j:=j.cP 1 (o.1 rfl)
   refine RL.bE a5 1 j cI ?_
   have j:=j.cQ 1 (D 4) (o.1 rfl) bD
   exact RL.nil ⟨rfl,(ay,a0,a1,a2,a3),hv.put 5 zr zr,ha.up zr,zt,j⟩
  ·rintro D U w hD o ag ⟨⟨ay,a0,a1,a2,a3⟩,hv,ha,_,j⟩
   obtain⟨O,rfl⟩:=(ac (hv.at 1 rfl (o.1 rfl)) (ac (hv.at 5 rfl (o.2.1 rfl)) az)).fI
   refine RL.min af.X0 a5 ?_
   exact RL.nil ⟨rfl,(ay,a0,a1,a2,a3),hv.put 6 zr zr,ha.up zr,zt,j⟩
  ·rintro D U w hD o ag ⟨⟨ay,a0,a1,a2,a3⟩,hv,ha,_,j⟩
   obtain⟨O,rfl⟩:=(ac (hv.at 7 rfl (o.1 rfl)) az).fI
   have j:=(j.cD 9 (nf (fun h=>ft hD ((ag 21 _ rfl h).2.2.2.2.2.2.2.2.2.2.2.1 rfl)))).cD 9 (nf (fun h=>ft hD ((ag 19 _ rfl h).2.2.2.2.2.2.2.2.2.2.1 rfl)))
   refine RL.aM 9 j zr eF cI ?_
   have j:=(j.eX 9 (D 19) (nf (fun h=>ft hD ((ag 19 _ rfl h).2.2.2.2.2.2.2.2.2.2.1 rfl))) (bx 56 ae {af with X0:=(if a5<af.X0 then a5 else af.X0)})).eX 9 (D 21) (nf (fun h=>ft hD ((ag 21 _ rfl h).2.2.2.2.2.2.2.2.2.2.2.1 rfl))) (bx 56 ae {{af with X0:=(if a5<af.X0 then a5 else af.X0)} with X1:=(if af.X1<a7 then a7 else af.X1)})
   exact RL.nil ⟨rfl,(ay,a0,a1,a2,a3),hv.put 8 zr zr,ha.up zr,zt,j⟩
  ·rintro D U w hD o ag ⟨⟨ay,a0,a1,a2,a3⟩,hv,ha,_,j⟩
   obtain⟨O,rfl⟩:=(ac (hv.at 9 rfl (o.1 rfl)) az).fI
   have j:=j.cD 2 hD
   refine RL.bB 5 j zr eB fu fun cl j=>?_
   have j:=(j.pl 12 [1,2,0,4,5,6,7,8,9,10,11]).cQ 2 true rfl bD
   exact RL.nil ⟨rfl,(ay,a0,cl,a2,a3),hv.put 10 zr zr,ha.up zr,zt,j⟩
  ·rintro D U w hD o ag ⟨⟨ay,a0,a1,a2,a3⟩,hv,ha,_,j⟩
   obtain⟨O,rfl⟩:=(ac (hv.at 11 rfl (o.1 rfl)) az).fI
   have j:=j.cD 3 hD
   refine RL.bB 5 j zr eB fu fun cm j=>?_
   have j:=(j.pl 12 [1,2,3,0,5,6,7,8,9,10,11]).cQ 3 true rfl bD
   exact RL.nil ⟨rfl,(ay,a0,a1,cm,a3),hv.put 12 zr zr,ha.up zr,zt,j⟩
  ·rintro D U w hD o ag ⟨⟨ay,a0,a1,a2,a3⟩,hv,ha,_,j⟩
   obtain⟨O,rfl⟩:=(ac (hv.at 12 rfl (o.1 rfl)) az).fI
   have j:=j.cP 3 (o.1 rfl)
   refine RL.bF 3 ba.Xs j mn ?_
   have j:=j.cQ 3 (D 12) (o.1 rfl) bD
   exact RL.nil ⟨rfl,(ay,a0,a1,a2,a3),hv.put 13 zr zr,ha.up zr,zt,j⟩
  ·rintro D U w hD o ag ⟨⟨ay,a0,a1,a2,a3⟩,hv,ha,_,j⟩
   obtain⟨O,rfl⟩:=(ac (hv.at 10 rfl (o.1 rfl)) (ac (hv.at 14 rfl (o.2.1 rfl)) az)).fI
   have j:=(j.cP 2 (o.1 rfl)).cD 4 hD
   refine RL.bP 2 j eC ch fun cn j=>?_
   have j:=((j.pl 12 [1,2,3,4,0,6,7,8,9,10,11]).cQ 2 (D 10) (o.1 rfl) bD).cQ 4 true rfl bD
   exact RL.nil ⟨rfl,(ay,a0,a1,a2,cn),hv.put 15 zr zr,ha.up zr,zt,j⟩
  ·rintro D U w hD o ag ⟨⟨ay,a0,a1,a2,a3⟩,hv,ha,_,j⟩
   obtain⟨O,rfl⟩:=(ac (hv.at 15 rfl (o.1 rfl)) az).fI
   have j:=j.cP 4 (o.1 rfl)
   refine RL.bE a7 4 j cI ?_
   have j:=j.cQ 4 (D 15) (o.1 rfl) bD
   exact RL.nil ⟨rfl,(ay,a0,a1,a2,a3),hv.put 16 zr zr,ha.up zr,zt,j⟩
  ·rintro D U w hD o ag ⟨⟨ay,a0,a1,a2,a3⟩,hv,ha,_,j⟩
   obtain⟨O,rfl⟩:=(ac (hv.at 8 rfl (o.1 rfl)) (ac (hv.at 16 rfl (o.2.1 rfl)) az)).fI
   refine RL.max af.X1 a7 ?_
   exact RL.nil ⟨rfl,(ay,a0,a1,a2,a3),hv.put 17 zr zr,ha.up zr,zt,j⟩
  ·rintro D U w hD o ag ⟨⟨ay,a0,a1,a2,a3⟩,hv,ha,_,j⟩
   obtain⟨O,rfl⟩:=(ac (hv.at 6 rfl (o.2.1 rfl)) (ac (hv.at 18 rfl (o.1 rfl)) az)).fI
   have j:=((j.cD 9 (nf (fun h=>ft hD ((ag 21 _ rfl h).2.2.1 rfl)))).cD 9 hD).sc Int (if a5<af.X0 then a5 else af.X0)
   refine RL.wR 10 j zr zr zr 0 zr oW cI fun w j=>?_
   have j:=((j.pl 12 [1,2,3,4,5,6,7,8,9,10,11]).cQ 9 true rfl (bx 56 ae af)).eX 9 (D 21) (nf (fun h=>ft hD ((ag 21 _ rfl h).2.2.1 rfl))) (bx 56 ae {{af with X0:=(if a5<af.X0 then a5 else af.X0)} with X1:=(if af.X1<a7 then a7 else af.X1)})
   exact RL.nil ⟨rfl,(ay,a0,a1,a2,a3),hv.no zr,ha,zt,j⟩
  ·rintro D U w hD o ag ⟨⟨ay,a0,a1,a2,a3⟩,hv,ha,_,j⟩
   obtain⟨O,rfl⟩:=(ac (hv.at 17 rfl (o.2.1 rfl)) (ac (hv.at 19 rfl (o.1 rfl)) az)).fI
   have j:=((j.cD 9 hD).cP 9 (o.2.2.1 rfl)).sc Int (if af.X1<a7 then a7 else af.X1)
   refine RL.wR 10 j zr zr zr 0 zr oX cI fun w j=>?_
   have j:=(j.pl 12 [1,2,3,4,5,6,7,8,9,10,11]).cQ 9 true rfl (bif D 19 then (bx 56 ae {af with X0:=(if a5<af.X0 then a5 else af.X0)}) else (bx 56 ae af))
   exact RL.nil ⟨rfl,(ay,a0,a1,a2,a3),hv.no zr,ha,zt,j⟩
  rintro D U w a6 ⟨⟨ay,a0,a1,a2,a3⟩,hv,ha,_,j⟩
  have j:=j.cP 0 (a6 3 (by decide))
  have j:=j.cP 1 (a6 4 (by decide))
  have j:=j.cP 2 (a6 10 (by decide))
  have j:=j.cP 3 (a6 12 (by decide))
  have j:=j.cP 4 (a6 15 (by decide))
  have j:=j.cP 9 (a6 21 (by decide))
  obtain⟨O,rfl⟩:=(ac (ha.at 0 rfl) (ac (ha.at 1 rfl) (ac (ha.at 2 rfl) (ac (ha.at 3 rfl) (ac (ha.at 4 rfl) (ac (ha.at 5 rfl) az)))))).fI
  refine bQ (aH (RC.region (RL.inc hk hm (mv (vi ((bg+1:Nat):Int)) (RL.nil ?_)))))
  obtain rfl:=oi hb
  exact⟨rfl,j.sp 11 [8,9,10]⟩
 rintro _ w ⟨O,rfl,j⟩
 refine aH (RC.sr (RL.bB (f:=(fun x=>x)) 1 j zr Fd.self iE fun cp j=>(RL.cC 1 j 0 zr iE fun w j=>?_)))
 refine RL.nt (RC.ret ?_)
 obtain rfl:=oi hb
 exact Il 1 zr j zr zr iE fun cq j=>(j.pk 5 [0])
theorem xt {p0: (List aA)} {res:Bool} (j:Holds E w V) (h0:V[i0]? =some (rd v0 p0)) (hb:mx N p0=some res):
    Calls bN 40 [v0].toArray w (gL (aX E V res)):=by
 unfold mx at hb
 refine enter Tryz.func40 zr zr ?_
 have j:=j.dup (i0+0) h0
 refine RC.sr (aQ (vb false) (RL.nq ?_))
 obtain⟨ad,o,hb⟩:=bd hb
 refine RC.jn (fun(ad:Bool)=>SH E V [(2,vb ad)] []) ad ?_ ?_
 ·refine RC.region (mv v0 (RL.bF 0 p0 j vA (ic ((p0.length:Int)) 0 (mv (vb ((p0.length:Int)==0)) (eZ o (fun aa o=>?_) fun aa o=>?_)))))
  ·refine bC aa (bC aa (bC aa (fq aa (vb true) (aQ (vb true) (RL.nil ?_)))))
   obtain rfl:=oi o
   exact⟨rfl,j.sp 1 []⟩
  refine RL.move v0 (cg aa) ?_
  obtain⟨ai,af,o⟩:=bd o
  refine RL.call (cg aa) zr Mh [v0] zr (aD (vG N (i0:=0) j zr af) ?_)
  rintro ag w j
  obtain⟨ae,ah,o⟩:=bd o
  refine RL.call (cg aa) zr KG [ag] zr (aD (tQ N (i0:=0) j zr ah) ?_)
  rintro _ w ⟨rfl,j⟩
  refine fq aa (vb ae) (aQ (vb ae) (RL.nil ?_))
  obtain rfl:=oi o
  exact⟨rfl,j.sp 2 []⟩
 rintro _ w ⟨O,rfl,j⟩
 refine aH (RC.ret ?_)
 obtain rfl:=oi hb
 exact bX ⟨rfl,j.drop 0⟩
def zm (E:World) (V:List HP) (res:aI×Int) (v:Value) (w:World):Prop:=∃u0:Value,v = .tuple #[u0,(vi res.2)]/\Holds E w ([rd u0 res.1]++V)
theorem sm {p0:bZ} {res:aI×Int} (j:Holds E w V) (h0:V[i0]? =some (rd v0 p0)) (o:kV N p0=some res):
    Calls bN 13 [v0].toArray w (gL (zm E V res)):=by
 unfold kV at o
 refine enter Tryz.func13 zr zr ?_
 have j:=j.dup (i0+0) h0
 refine RC.sr (RL.cS 0 v0 j zr fun af w j=>?_)
 refine RL.alloc j oG.z fun ag w j=>?_
 refine aQ (vi 0) (RL.nq (RC.seq ?_))
 obtain⟨ad,hj,o⟩:=bd o
 refine RC.jn (fun(ad:Bool)=>SH E V [(1,vp af 0),(2,vp ag 0),(14,vb ad)] [bx 60 af p0,raw 56 ag 4]) ad ?_ ?_
 ·refine RC.region (RL.aY zr rJ (RL.aM 1 j zr l3 cI ?_))
  obtain⟨ah,aj,hj⟩:=bd hj
  refine RL.call zt zr IB [(vi p0.dE),(vi 1),(vi 10000)] zr (aD (nb N (p0:=p0.dE) (p1:=1) (p2:=10000) j aj) ?_)
  rintro _ w ⟨rfl,j⟩
  refine RL.not ah (mv (vb (!ah)) (eZ hj (fun aa hj=>?_) fun aa hj=>?_))
  ·refine bC aa (bC aa (bC aa (bC aa (fq aa (vb true) (RL.nil ?_)))))
   obtain rfl:=oi hj
   exact⟨rfl,j.sp 3 [1,0]⟩
  refine RL.aY (hg:=(cg aa)) zr yd (RL.bB (hg:=(cg aa)) 1 j zr qm Dn fun ak j=>?_)
  obtain⟨ai,al,hj⟩:=bd hj
  refine RL.call (cg aa) zr KP [ak] zr (aD (sj N (i0:=0) j zr al) ?_)
  rintro _ w ⟨rfl,j⟩
  refine RL.not (hg:=(cg aa)) ai (fq aa (vb (!ai)) (RL.nil ?_))
  obtain rfl:=oi hj
  exact⟨rfl,j.sp 4 [2,1]⟩
 rintro _ w ⟨O,rfl,j⟩
 refine aH (dQ o (fun hc o=>?_) fun hc o=>?_)
 ·refine RC.sr (RL.build (⟨0,0,0,0⟩:aI) trivial rfl j [] rfl Dm rfl (fun M hs g=>by have h:=tj M;exact cU.nil h) fun a2 j=>?_)
  refine RL.cC 2 j 0 zr iE fun w j=>?_
  refine aQ (vi 1) (RL.nt (RC.rt ?_))
  obtain rfl:=oi o
  exact wV 2 j iE fun an j=>⟨an,zr,j.pk 4 [0]⟩
 refine RC.sx (RL.bB (f:=(fun x=>x)) 0 j zr Fd.self ma fun ao j=>?_)
 obtain⟨aq,ar,o⟩:=bd o
 refine RL.call zt zr F6 [ao] zr (aD (jl N (i0:=0) j zr ar) ?_)
 rintro a3 w j
 refine RL.alloc j oG.z fun a4 w j=>?_
 refine RL.cC 0 j 1 zr iE fun w j=>?_
 refine RL.nq (RC.sr (RL.bB (f:=(fun x=>x)) 0 j zr Fd.self iE fun au j=>(RL.dY ([aq]: (List aI)) j [au] jh oG (fun M hs g=>⟨(g.sat 0 _ zr).1,zt⟩) fun av w j=>?_)))
 have j:=j.freeze 0
 obtain⟨a5,aw,o⟩:=bd o
 refine RL.call zt zr Hf [av] zr (aD (mF N (i0:=0) j zr aw) ?_)
 rintro ax w j
 have j:=j.freeze 0
 obtain⟨ay,az,o⟩:=bd o
 refine RL.call zt zr Mi [ax] zr (aD (xt N (i0:=0) j zr az) ?_)
 rintro _ w ⟨rfl,j⟩
 refine RL.not ay (RL.nt (dQ o (fun hc o=>?_) fun hc o=>?_))
 ·refine RC.sr (RL.build (⟨0,0,0,0⟩:aI) trivial rfl j [] rfl Dm rfl (fun M hs g=>by have h:=tj M;exact cU.nil h) fun a6 j=>?_)
  refine RL.cC 8 j 0 zr iE fun w j=>?_
  refine aQ (vi 1) (RL.nt (RC.rt ?_))
  obtain rfl:=oi o
  exact wV 8 j iE fun a0 j=>⟨a0,zr,j.pk 10 [0]⟩
 refine RC.sx (RL.bB (f:=(fun x=>x)) 3 j zr Fd.self iE fun a7 j=>(RL.cC 8 j 0 zr iE fun w j=>?_))
 refine aQ (vi 0) (RL.nt (RC.ret ?_))
 obtain rfl:=oi o
 exact wV 8 j iE fun a1 j=>⟨a1,zr,j.pk 10 [0]⟩
def vH (E:World) (V:List HP) (r:Int) (U:Nat->Value) (w:World):Prop:=lF bN 47 Tryz.f15 (aU E V r) .ret U w
theorem uF {p0:kT} (j:Holds E w V) (h0:V[i0]? =some (rd v0 p0)) (o:kH N p0=some res):
    Calls bN 15 [v0].toArray w (gL (aU E V res)):=by
 unfold kH at o
 refine enter Tryz.func15 zr zr ?_
 have j:=j.dup (i0+0) h0
 refine RC.sr (RL.cS 0 v0 j zr fun a0 w j=>?_)
 refine aQ (vi 0) (RL.nq (RC.sr (RL.aY zr ik (RL.bB 0 j zr gK nQ fun a1 j=>(RL.bF 0 p0.aO j wj (ic ((p0.aO.length:Int)) 500 (RL.nt (dQ o (fun hc o=>?_) fun hc o=>?_))))))))
 ·refine RC.sr (aQ (vi 2) (RL.nt (RC.rt ?_)))
  obtain rfl:=oi o
  exact bX ⟨rfl,j.drop 3⟩
 refine RC.sx (RL.aY zr mC (RL.bB 1 j zr i9 pJ fun a2 j=>(RL.bF 0 p0.aJ j qC (aQ (vi p0.aJ.length) (RL.nq (RC.sr (RL.aY zr ik (RL.bB 2 j zr gK nQ fun ag j=>?_))))))))
 refine RL.bF 0 p0.aO j wj (mv (vi 0) (RL.nt ?_))
 obtain⟨a3,hN,o⟩:=bd o
 refine RC.range (fun(ah:Nat) (ai:Unit)=>SH E V [(3,vi p0.aJ.length),(16,ag),(17,vi p0.aO.length),(18,vi ah)] [rd ag p0.aO]) (fun(ai:Unit)=>SH E V [] [rd ag p0.aO]) (vH E V) hN ?_ ?_ ?_ ?_ ?_
 ·exact j.sp 5 [0]
 ·rintro hm ai _ w ⟨O,rfl,j⟩
  refine RC.sr (ic ((p0.aO.length:Int)) ((p0.aO.length:Int)) (RL.nq (RC.gk ue (RC.ex ?_))))
  exact⟨rfl,j.sp 1 [0]⟩
 ·rintro hm ah ai fl _ w hk ⟨O,rfl,j⟩ o
  refine RC.sr (ic ((ah:Int)) ((p0.aO.length:Int)) (RL.nq (RC.gj (ud hk) (RC.ss (RC.bs ?_)))))
  obtain⟨ad,au,o⟩:=bd o
  refine RL.bP 0 j qD au fun a5 j=>(RL.bJ 0 ad j ma fun a6 j=>(RL.alloc j EE.z fun a7 w j=>?_))
  refine RL.cC 0 j 1 zr ma fun w j=>?_
  refine RL.nq (RC.sr (RL.bB (f:=(fun x=>x)) 0 j zr Fd.self ma fun av j=>?_))
  obtain⟨ae,aw,o⟩:=bd o
  refine RL.call zt zr KQ [av] zr (aD (sm N (i0:=0) j zr aw) ?_)
  rintro _ w ⟨an,rfl,j⟩
  refine mv (.tuple #[an,(vi ae.2)]) (RL.extract an (RL.extract (vi ae.2) (RL.alloc j oG.z fun a8 w j=>?_)))
  refine RL.cC 0 j 1 zr iE fun w j=>?_
  refine aQ (vi ae.2) (RL.ns (mv (vi ae.2) (ic ae.2 0 (RL.nt (dQ o (fun hc o=>?_) fun hc o=>?_)))))
  ·refine RC.sr (mv (vi ae.2) (aQ (vi ae.2) (RL.nt (RC.rt (oA (bS ?_))))))
   obtain rfl:=oi o
   exact⟨rfl,bX ⟨rfl,j.drop 7⟩⟩
  refine RC.ss ?_
  obtain⟨aj,hj,o⟩:=bd o
  refine RC.jn (fun(aj:Bool)=>SH E V [(3,vi p0.aJ.length),(16,ag),(17,vi p0.aO.length),(18,vi ah),(45,vb aj)] [rd ag p0.aO]) aj ?_ ?_
  ·refine RC.region (RL.aY zr pL (RL.aM 3 j zr kA cI (mv (vi p0.aJ.length) (RL.fY (p0.aJ.length:Int) 1 ?_))))
   obtain⟨ao,ax,hj⟩:=bd hj
   refine RL.call zt zr IB [(vi ad.cO),(vi 0),(vi (IntKind.wrap .i64 ((p0.aJ.length:Int) - 1)))] zr (aD (nb N (p0:=ad.cO) (p1:=0) (p2:=(IntKind.wrap .i64 ((p0.aJ.length:Int) - 1))) j ax) ?_)
   rintro _ w ⟨rfl,j⟩
   refine RL.not ao (mv (vb (!ao)) (eZ hj (fun aa hj=>?_) fun aa hj=>?_))
   ·refine bC aa (bC aa (bC aa (bC aa (bC aa (bC aa (bC aa (bC aa (fq aa (vb true) ?_))))))))
    refine RL.nil ?_
    obtain rfl:=oi hj
    exact⟨rfl,j.sp 7 [6]⟩
   refine RL.aY (hg:=(cg aa)) zr rK (RL.aM (hg:=(cg aa)) 3 j zr l4 cI (RL.aY (hg:=(cg aa)) zr pL (RL.aM (hg:=(cg aa)) 3 j zr kA cI (RL.move (vi p0.aJ.length) (cg aa) (RL.fY (hg:=(cg aa)) (p0.aJ.length:Int) 1 ?_)))))
   obtain⟨aq,ay,hj⟩:=bd hj
   refine RL.call (cg aa) zr IB [(vi ad.To),(vi ad.cO),(vi (IntKind.wrap .i64 ((p0.aJ.length:Int) - 1)))] zr (aD (nb N (p0:=ad.To) (p1:=ad.cO) (p2:=(IntKind.wrap .i64 ((p0.aJ.length:Int) - 1))) j ay) ?_)
   rintro _ w ⟨rfl,j⟩
   refine RL.not (hg:=(cg aa)) aq (fq aa (vb (!aq)) (RL.nil ?_))
   obtain rfl:=oi hj
   exact⟨rfl,j.sp 7 [6]⟩
  rintro _ w ⟨O,rfl,j⟩
  refine aH (dQ o (fun hc o=>?_) fun hc o=>?_)
  rotate_left
  ·refine RC.skip (bQ (aH (RC.region (RL.inc hk hm (mv (vi ((ah+1:Nat):Int)) (RL.nil ?_))))))
   obtain rfl:=oi o
   exact⟨rfl,j.sp 1 [0]⟩
  refine RC.sr (aQ (vi 1) (RL.nt (RC.rb (bS ?_))))
  obtain rfl:=oi o
  exact⟨rfl,bX ⟨rfl,j.drop 1⟩⟩
 ·intro r U w e hK
  subst e
  refine bS ?_
  obtain rfl:=oi o
  exact hK
 rintro ai _ w rfl ⟨O,rfl,j⟩
 rw [Fo.dB] at o
 refine aH (RC.sr (aQ (vi 0) (RL.nt (RC.ret ?_))))
 obtain rfl:=oi o
 exact bX ⟨rfl,j.drop 1⟩
theorem nz {p0:eJ} (o:Holds E w V) (j:i6 N p0 p1=some res):
    Calls bN 116 [(str p0),(.int .u8 p1)].toArray w (gL (aU E V res)):=by
 unfold i6 at j
 refine enter Tryz.func116 zr zr (RC.sr (aQ (vi 0) (RL.ns (mv (str p0) (mv (.int .u8 p1) (RL.zK (vi (Lib.indexByte p0.cX (Int.toNat p1).toUInt8)) zr [(str p0),(.int .u8 p1)] zr (Ml p0 p1 w) (aQ (vi (Lib.indexByte p0.cX (Int.toNat p1).toUInt8)) (RL.nt ?_))))))))
 refine RC.ret ?_
 obtain rfl:=oi j
 exact bX ⟨rfl,o.drop 0⟩
theorem uG {p0 p1:eJ} (o:Holds E w V) (j:kI N p0 p1=some res):
    Calls bN 161 [(str p0),(str p1)].toArray w (gL (aU E V res)):=by
 unfold kI at j
 refine enter Tryz.func161 zr zr (RC.sr (aQ (vi 0) (RL.ns (mv (str p1) (RL.lens p1 Bh (aQ (vi p1.cX.length) (RL.nq (RC.bs ?_))))))))
 refine mv (vi p1.cX.length) (ic ((p1.cX.length:Int)) 0 (mv (vb ((p1.cX.length:Int)==0)) (RL.gs true ((p1.cX.length:Int)==0) (str p1) rfl rfl rfl cK (RL.gs true ((p1.cX.length:Int)==0) (str p0) rfl rfl rfl cK (RL.gs true ((p1.cX.length:Int)==0) (vb (p1.qw p0)) rfl rfl rfl (B3 .eql p1 p0 rfl (fun h=>by exact(cM h:cv (true&&(((p1.cX.length:Int)==0)==false)) (str p1)= (str p1))) (fun h=>by exact(cM h:cv (true&&(((p1.cX.length:Int)==0)==false)) (str p0)= (str p0))) rfl) (RL.pick ((p1.cX.length:Int)==0) (vb (((p1.cX.length:Int)==0)||(p1.qw p0))) (nX true) (aQ (vb (((p1.cX.length:Int)==0)||(p1.qw p0))) (RL.nt ?_))))))))
 refine dQ j (fun hc j=>?_) fun hc j=>?_
 ·refine RC.sr (aQ (vi 0) (RL.nt (RC.rb (bS ?_))))
  obtain rfl:=oi j
  exact bX ⟨rfl,o.drop 0⟩
 refine RC.sr (mv (vi p1.cX.length) (ic ((p1.cX.length:Int)) 1 (aQ (vb ((p1.cX.length:Int)==1)) (RL.nt (dQ j (fun hc j=>?_) fun hc j=>?_)))))
 ·refine RC.sr (mv (str p0) (mv (str p1) ?_))
  obtain⟨ab,ad,j⟩:=bd j
  refine RL.idxs p1 0 ab zr zr zr Bh ad ?_
  obtain⟨ae,af,j⟩:=bd j
  refine RL.call zt zr Jd [(str p0),(.int .u8 (ab.toNat:Int))] zr (aD (nz N (p0:=p0) (p1:=(ab.toNat:Int)) o af) ?_)
  rintro _ w ⟨rfl,o⟩
  refine aQ (vi ae) (RL.nt (RC.rb (bS ?_)))
  obtain rfl:=oi j
  exact bX ⟨rfl,o.drop 0⟩
 refine RC.sr (mv (vi p1.cX.length) (mv (str p0) (RL.lens p0 Bh (ic ((p1.cX.length:Int)) ((p0.cX.length:Int)) (aQ (vb (decide ((p1.cX.length:Int)>=(p0.cX.length:Int)))) (RL.nt (dQ j (fun hc j=>?_) fun hc j=>?_)))))))
 rotate_left
 ·cases j
 refine RC.sr (aQ (vi (-1)) (RL.nt (RC.rb (bS ?_))))
 obtain rfl:=oi j
 exact bX ⟨rfl,o.drop 0⟩
theorem sq {p0 p1:eJ} (o:Holds E w V) (j:lW N p0 p1=some res):
    Calls bN 147 [(str p0),(str p1)].toArray w (gL (aU E V res)):=by
 unfold lW at j
 refine enter Tryz.func147 zr zr (RC.sr (aQ (vi 0) (RL.ns (mv (str p0) (mv (str p1) ?_)))))
 obtain⟨aa,ab,j⟩:=bd j
 refine RL.call zt zr KR [(str p0),(str p1)] zr (aD (uG N (p0:=p0) (p1:=p1) o ab) ?_)
 rintro _ w ⟨rfl,o⟩
 refine aQ (vi aa) (RL.nt (RC.ret ?_))
 obtain rfl:=oi j
 exact bX ⟨rfl,o.drop 0⟩
def zn (E:World) (V:List HP) (r:Int) (U:Nat->Value) (w:World):Prop:=lF bN 34 Tryz.f146 (aU E V r) .ret U w
theorem yl {p0 p1:eJ} (hw:Holds E w V) (j:nv N p0 p1=some res):
    Calls bN 146 [(str p0),(str p1)].toArray w (gL (aU E V res)):=by
 unfold nv at j
 refine enter Tryz.func146 zr zr (RC.sr (aQ (vi 0) (RL.nq (RC.sr (mv (str p1) (RL.lens p1 Bh (ic ((p1.cX.length:Int)) 0 (RL.nt ?_))))))))
 refine dQ j (fun hc j=>?_) fun hc j=>?_
 ·cases j
 refine RC.ss (RC.sr (mv (str p1) (RL.lens p1 Bh (ic ((p1.cX.length:Int)) 1 (RL.nt (dQ j (fun hc j=>?_) fun hc j=>?_))))))
 ·refine RC.sr (mv (str p0) (mv (str p1) ?_))
  obtain⟨ad,af,j⟩:=bd j
  refine RL.idxs p1 0 ad zr zr zr Bh af (RL.zK (vi ((Lib.countByte p0.cX (Int.toNat (ad.toNat:Int)).toUInt8:Nat):Int)) zr [(str p0),(.int .u8 (ad.toNat:Int))] zr (Mk p0 (ad.toNat:Int) w) (aQ (vi ((Lib.countByte p0.cX (Int.toNat (ad.toNat:Int)).toUInt8:Nat):Int)) (RL.nt (RC.rt ?_))))
  obtain rfl:=oi j
  exact bX ⟨rfl,hw.drop 0⟩
 refine RC.sx (aQ (vi 0) (RL.nt ?_))
 obtain⟨al,hN,j⟩:=bd j
 refine RC.iter (fun(o:eJ×Int)=>SH E V [(0,(str o.1)),(1,(str p1)),(4,vi 0),(5,vi o.2)] []) (fun(o:eJ×Int)=>SH E V [(4,vi 0)] []) (zn E V) hN ?_ ?_ ?_ ?_
 ·exact hw.sp 0 []
 ·rintro o fl _ w ⟨O,rfl,hw⟩ j
  refine RC.bs (mv (str o.1) (mv (str p1) ?_))
  obtain⟨ae,ah,j⟩:=bd j
  refine RL.call zt zr Je [(str o.1),(str p1)] zr (aD (sq N (p0:=o.1) (p1:=p1) hw ah) ?_)
  rintro _ w ⟨rfl,hw⟩
  refine aQ (vi ae) (RL.nq (RC.sr (mv (vi ae) (ic ae ((-1)) (RL.nt (dQ j (fun hc j=>?_) fun hc j=>?_))))))
  ·refine RC.sr (mv (vi o.2) (aQ (vi o.2) (RL.nt (RC.rt (oA ?_)))))
   obtain rfl:=oi j
   exact⟨rfl,bX ⟨rfl,hw.drop 0⟩⟩
  refine RC.sx (mv (vi o.2) (RL.fY o.2 1 (aQ (vi (IntKind.wrap .i64 (o.2+1))) (RL.nt (RC.region (mv (str o.1) (mv (vi ae) (mv (str p1) ?_))))))))
  refine RL.lens p1 Bh (RL.fY ae (p1.cX.length:Int) ?_)
  obtain⟨ai,aj,j⟩:=bd j
  refine RL.we o.1 zr zr Bh (.inl zr) (.inr ⟨rfl,zr⟩) aj (aQ (str ai) (RL.nil (bQ ?_)))
  obtain rfl:=oi j
  exact⟨rfl,hw.sp 0 []⟩
 ·intro r U w e hK
  subst e
  obtain rfl:=oi j
  exact hK
 rintro o _ w rfl ⟨O,rfl,hw⟩
 rw [Fo.dB] at j
 obtain rfl:=oi j
 refine CK ?_
 exact bX ⟨rfl,hw.drop 0⟩
theorem vI {p0 p1:eJ} {res: (List eJ)} (o:Holds E w V) (j:m6 N p0 p1 p2 p3=some res):
    Calls bN 115 [(str p0),(str p1),(vi p2),(vi p3)].toArray w (gL (qE E V res)):=by
 unfold m6 at j
 refine enter Tryz.func115 zr zr (RC.sr (aQ (.slice none 0 0) (RL.nq (RC.sr (mv (vi p3) (ic p3 0 (RL.nt (dQ j (fun hc j=>?_) fun hc j=>?_))))))))
 ·refine RC.sr (aQ (.slice none 0 0) (RL.nt (RC.rt ?_)))
  obtain rfl:=oi j
  have o:=o.cW eJ 9
  exact bX (o.pk 1 [0])
 refine RC.ss (RC.sr (mv (str p1) (RL.B2 p1 ⟨[]⟩ zt zr zr zr zr (RL.nt (dQ j (fun hc j=>?_) fun hc j=>?_)))))
 ·cases j
 refine RC.ss (RC.sr (mv (vi p3) (ic p3 0 (RL.nt ?_))))
 obtain⟨ab,hj,j⟩:=bd j
 refine RC.jn (fun(ab:Int)=>SH E V [(0,(str p0)),(1,(str p1)),(2,vi p2),(3,vi ab)] []) ab ?_ ?_
 ·refine dQ hj (fun hc hj=>?_) fun hc hj=>?_
  rotate_left
  ·refine RC.skip ?_
   obtain rfl:=oi hj
   exact⟨rfl,o.sp 0 []⟩
  refine RC.region (mv (str p0) (mv (str p1) ?_))
  obtain⟨aj,ak,hj⟩:=bd hj
  refine RL.call zt zr KS [(str p0),(str p1)] zr (aD (yl N (p0:=p0) (p1:=p1) o ak) ?_)
  rintro _ w ⟨rfl,o⟩
  refine RL.fY aj 1 (aQ (vi (IntKind.wrap .i64 (aj+1))) (RL.nil ?_))
  obtain rfl:=oi hj
  exact⟨rfl,o.sp 0 []⟩
 rintro _ w ⟨O,rfl,o⟩
 refine aH (RC.sr (mv (vi ab) (mv (str p0) (RL.lens p0 Bh (RL.fY (p0.cX.length:Int) 1 (RL.min ab (IntKind.wrap .i64 ((p0.cX.length:Int)+1)) (aQ (vi (if (IntKind.wrap .i64 ((p0.cX.length:Int)+1))<ab then (IntKind.wrap .i64 ((p0.cX.length:Int)+1)) else ab)) (RL.ns ?_))))))))
 refine mv (vi (if (IntKind.wrap .i64 ((p0.cX.length:Int)+1))<ab then (IntKind.wrap .i64 ((p0.cX.length:Int)+1)) else ab)) ?_
 obtain⟨ay,al,j⟩:=bd j
 refine RL.mk (if (IntKind.wrap .i64 ((p0.cX.length:Int)+1))<ab then (IntKind.wrap .i64 ((p0.cX.length:Int)+1)) else ab) o KT Nz al fun ae w o=>?_
 refine aQ ae (RL.ns (mv (vi (if (IntKind.wrap .i64 ((p0.cX.length:Int)+1))<ab then (IntKind.wrap .i64 ((p0.cX.length:Int)+1)) else ab)) (RL.fY (if (IntKind.wrap .i64 ((p0.cX.length:Int)+1))<ab then (IntKind.wrap .i64 ((p0.cX.length:Int)+1)) else ab) 1 (aQ (vi (IntKind.wrap .i64 ((if (IntKind.wrap .i64 ((p0.cX.length:Int)+1))<ab then (IntKind.wrap .i64 ((p0.cX.length:Int)+1)) else ab) - 1))) (RL.ns (aQ (vi 0) (RL.nq ?_)))))))
 obtain⟨az,hN,j⟩:=bd j
 refine RC.iter (fun(aa:eJ×(List eJ)×Int)=>SH E V [(0,(str aa.1)),(1,(str p1)),(2,vi p2),(3,(vi (IntKind.wrap .i64 ((if (IntKind.wrap .i64 ((p0.cX.length:Int)+1))<ab then (IntKind.wrap .i64 ((p0.cX.length:Int)+1)) else ab) - 1)))),(9,ae),(10,vi aa.2.2)] [own 9 ae aa.2.1]) (fun(aa:eJ×(List eJ)×Int)=>SH E V [(0,(str aa.1)),(9,ae),(10,vi aa.2.2)] [own 9 ae aa.2.1]) (fun(r:Empty) _ _=>r.elim) hN ?_ ?_ ?_ ?_
 ·exact o.sp 1 [0]
 ·rintro aa fl _ w ⟨O,rfl,o⟩ j
  refine RC.seq (RC.sr (mv (vi aa.2.2) (mv (vi (IntKind.wrap .i64 ((if (IntKind.wrap .i64 ((p0.cX.length:Int)+1))<ab then (IntKind.wrap .i64 ((p0.cX.length:Int)+1)) else ab) - 1))) (ic aa.2.2 ((IntKind.wrap .i64 ((if (IntKind.wrap .i64 ((p0.cX.length:Int)+1))<ab then (IntKind.wrap .i64 ((p0.cX.length:Int)+1)) else ab) - 1))) (RL.nt (dQ j (fun hc j=>?_) fun hc j=>?_))))))
  rotate_left
  ·refine RC.ex ?_
   obtain rfl:=oi j
   exact⟨rfl,o.sp 1 [0]⟩
  refine RC.sn (RC.bs (mv (str aa.1) (mv (str p1) ?_)))
  obtain⟨ag,ao,j⟩:=bd j
  refine RL.call zt zr Je [(str aa.1),(str p1)] zr (aD (sq N (p0:=aa.1) (p1:=p1) o ao) ?_)
  rintro _ w ⟨rfl,o⟩
  refine aQ (vi ag) (RL.nq (RC.sr (mv (vi ag) (ic ag 0 (RL.nt (dQ j (fun hc j=>?_) fun hc j=>?_))))))
  ·refine RC.ex (JI (by decide) ?_)
   obtain rfl:=oi j
   exact⟨rfl,o.sp 1 [0]⟩
  refine RC.sx (mv ae (mv (vi aa.2.2) (mv (str aa.1) (mv (vi ag) (mv (vi p2) (RL.fY ag p2 ?_))))))
  obtain⟨aq,ar,j⟩:=bd j
  refine RL.we aa.1 zr zr Bh (.inr ⟨rfl,zr⟩) (.inl zr) ar ?_
  obtain⟨a1,ah,j⟩:=bd j
  refine RL.bV 0 o zr zr Dq ah ?_
  have o:=o.sc eJ aq
  refine RL.gI (f:=(fun _ y=>y)) 1 0 o (jF 1 o ah 0) (bH ah).2.1 zr Fs.self yP fun w o=>?_
  refine RL.ns (mv (str aa.1) (mv (vi ag) (mv (str p1) (RL.lens p1 Bh (RL.fY ag (p1.cX.length:Int) ?_)))))
  obtain⟨au,av,j⟩:=bd j
  refine RL.we aa.1 zr zr Bh (.inl zr) (.inr ⟨rfl,zr⟩) av (aQ (str au) (RL.nt (RC.region (mv (vi aa.2.2) (RL.fY aa.2.2 1 (aQ (vi (IntKind.wrap .i64 (aa.2.2+1))) (RL.nil (bQ ?_))))))))
  obtain rfl:=oi j
  exact⟨rfl,o.sp 2 [1]⟩
 ·intro r _ _ _ _
  exact r.elim
 rintro aa _ w rfl ⟨O,rfl,o⟩
 rw [Fo.dB] at j
 refine aH (RC.sr (mv ae (mv (vi aa.2.2) (mv (str aa.1) ?_))))
 obtain⟨a2,ai,j⟩:=bd j
 refine RL.bV 0 o zr zr Dq ai ?_
 have o:=o.sc eJ aa.1
 refine RL.gI (f:=(fun _ y=>y)) 1 0 o (jF 1 o ai 0) (bH ai).2.1 zr Fs.self yP fun w o=>?_
 refine RL.ns (mv ae (mv (vi aa.2.2) (RL.fY aa.2.2 1 ?_)))
 obtain⟨a3,aw,j⟩:=bd j
 refine RL.B8 1 zr o zr zr Dq (.inr ⟨rfl,zr⟩) aw fun ax o=>(aQ ax (RL.nt (RC.ret ?_)))
 obtain rfl:=oi j
 exact bX (o.pk 2 [1])
theorem su {p0 p1:eJ} {res: (List eJ)} (o:Holds E w V) (j:lX N p0 p1=some res):
    Calls bN 84 [(str p0),(str p1)].toArray w (gL (qE E V res)):=by
 unfold lX at j
 refine enter Tryz.func84 zr zr (RC.sr (aQ (.slice none 0 0) (RL.ns (mv (str p0) (mv (str p1) ?_)))))
 obtain⟨ad,aa,j⟩:=bd j
 refine RL.call zt zr KU [(str p0),(str p1),(vi 0),(vi (-1))] zr (aD (vI N (p0:=p0) (p1:=p1) (p2:=0) (p3:=(-1)) o aa) ?_)
 rintro ab w o
 refine aQ ab (RL.nt (RC.ret ?_))
 obtain rfl:=oi j
 exact bX (o.pk 1 [0])
def q9 (E:World) (V:List HP) (r:Int) (U:Nat->Value) (w:World):Prop:=lF bN 19 Tryz.f114 (aU E V r) .ret U w
theorem qH {p0: (List eJ)} {p1:eJ->Option Bool} (j:Holds E w V) (h0:V[i0]? =some (rd v0 p0)) (h1:Ib bN E V v1 p1 (fun(r:Bool)=>Value.bool r)) (o:k9 N p0 p1=some res):
    Calls bN 114 [v0,v1].toArray w (gL (aU E V res)):=by
 unfold k9 at o
 refine enter Tryz.func114 zr zr ?_
 have j:=j.dup (i0+0) h0
 refine RC.sr (aQ (vi 0) (RL.nq (RC.sr (mv v0 (RL.bF 0 p0 j Jf (mv (vi 0) (RL.nt ?_)))))))
 obtain⟨al,hN,o⟩:=bd o
 refine RC.range (fun(aa:Nat) (ab:Unit)=>SH E V [(0,v0),(1,v1),(7,vi p0.length),(8,vi aa)] [rd v0 p0]) (fun(ab:Unit)=>SH E V [] [rd v0 p0]) (q9 E V) hN ?_ ?_ ?_ ?_ ?_
 ·exact j.sp 1 [0]
 ·rintro hm ab _ w ⟨O,rfl,j⟩
  refine RC.sr (ic ((p0.length:Int)) ((p0.length:Int)) (RL.nq (RC.gk ue (RC.ex ?_))))
  exact⟨rfl,j.sp 1 [0]⟩
 ·rintro hm aa ab fl _ w hk ⟨O,rfl,j⟩ o
  refine RC.sr (ic ((aa:Int)) ((p0.length:Int)) (RL.nq (RC.gj (ud hk) (RC.ss (RC.bs (mv (vi aa) (aQ (vi aa) (RL.ns ?_))))))))
  refine mv v1 (mv v0 (mv (vi aa) ?_))
  obtain⟨af,ah,o⟩:=bd o
  refine RL.bP 0 j Dq ah fun ao j=>(RL.bE af 0 j yP ?_)
  have j:=j.sc eJ af
  obtain⟨aq,ai,o⟩:=bd o
  refine RL.B6 0 zr j zr h1 3 zr zr zr ai fun w j=>(RL.nt (dQ o (fun hc o=>?_) fun hc o=>?_))
  rotate_left
  ·refine RC.skip (bQ (aH (RC.region (RL.inc hk hm (mv (vi ((aa+1:Nat):Int)) (RL.nil ?_))))))
   obtain rfl:=oi o
   exact⟨rfl,j.sp 3 [2]⟩
  refine RC.sr (mv (vi aa) (aQ (vi aa) (RL.nt (RC.rb (bS ?_)))))
  obtain rfl:=oi o
  exact⟨rfl,bX ⟨rfl,j.drop 3⟩⟩
 ·intro r U w e hK
  subst e
  refine bS ?_
  obtain rfl:=oi o
  exact hK
 rintro ab _ w rfl ⟨O,rfl,j⟩
 rw [Fo.dB] at o
 refine aH (RC.sr (aQ (vi (-1)) (RL.nt (RC.ret ?_))))
 obtain rfl:=oi o
 exact bX ⟨rfl,j.drop 1⟩
theorem pw {p0: (List eJ)} {p1:eJ->Option Bool} {res:Bool} (j:Holds E w V) (h0:V[i0]? =some (rd v0 p0)) (h1:Ib bN E V v1 p1 (fun(r:Bool)=>Value.bool r)) (o:iQ N p0 p1=some res):
    Calls bN 83 [v0,v1].toArray w (gL (aX E V res)):=by
 unfold iQ at o
 refine enter Tryz.func83 zr zr ?_
 have j:=j.dup (i0+0) h0
 refine RC.sr (aQ (vb false) (RL.ns (mv v0 (mv v1 ?_))))
 obtain⟨aa,ab,o⟩:=bd o
 refine RL.call zt zr KX [v0,v1] zr (aD (qH N (i0:=0) j zr (h1.lift 1 zr) ab) ?_)
 rintro _ w ⟨rfl,j⟩
 refine ic aa 0 (aQ (vb (decide (aa>=0))) (RL.nt (RC.ret ?_)))
 obtain rfl:=oi o
 exact bX ⟨rfl,j.drop 1⟩
theorem px {p0:eJ} (o:Holds E w V) (j:gO N p0 p1=some res):
    Calls bN 86 [(str p0),(.int .u8 p1)].toArray w (gL (aU E V res)):=by
 unfold gO at j
 refine enter Tryz.func86 zr zr (RC.sr (aQ (vi 0) (RL.ns (mv (str p0) (mv (.int .u8 p1) ?_)))))
 obtain⟨aa,ab,j⟩:=bd j
 refine RL.call zt zr Jd [(str p0),(.int .u8 p1)] zr (aD (nz N (p0:=p0) (p1:=p1) o ab) ?_)
 rintro _ w ⟨rfl,o⟩
 refine aQ (vi aa) (RL.nt (RC.ret ?_))
 obtain rfl:=oi j
 exact bX ⟨rfl,o.drop 0⟩
def ym (E:World) (V:List HP) (r:Bool) (U:Nat->Value) (w:World):Prop:=lF bN 49 Tryz.f45 (aX E V r) .ret U w
theorem rB {p0:eJ} {res:Bool} (hw:Holds E w V) (o:jA N p0=some res):
    Calls bN 45 [(str p0)].toArray w (gL (aX E V res)):=by
 unfold jA at o
 refine enter Tryz.func45 zr zr (RC.sr (aQ (vb false) (RL.nq (RC.sr (mv (str p0) (RL.lens p0 Bh (mv (vi 0) (RL.nt ?_))))))))
 obtain⟨ar,hN,o⟩:=bd o
 refine RC.range (fun(ab:Nat) (af:Unit)=>SH E V [(0,(str p0)),(6,vi p0.cX.length),(7,vi ab)] []) (fun(af:Unit)=>SH E V [(0,(str p0))] []) (ym E V) hN ?_ ?_ ?_ ?_ ?_
 ·exact hw.sp 0 []
 ·rintro hm af _ w ⟨O,rfl,hw⟩
  refine RC.sr (ic ((p0.cX.length:Int)) ((p0.cX.length:Int)) (RL.nq (RC.gk ue (RC.ex ?_))))
  exact⟨rfl,hw.sp 0 []⟩
 ·rintro hm ab af fl _ w hk ⟨O,rfl,hw⟩ o
  refine RC.sr (ic ((ab:Int)) ((p0.cX.length:Int)) (RL.nq (RC.gj (ud hk) (RC.ss (RC.bs (mv (vi ab) (aQ (vi ab) (RL.ns ?_))))))))
  refine mv (str p0) (mv (vi ab) ?_)
  obtain⟨j,al,o⟩:=bd o
  refine RL.idxs p0 (ab:Int) j zr zr zr Bh al (aQ (.int .u8 (j.toNat:Int)) (RL.nq ?_))
  obtain⟨ag,hj,o⟩:=bd o
  refine RC.jn (fun(ag:Bool)=>SH E V [(0,(str p0)),(6,vi p0.cX.length),(7,vi ab),(39,vb ag)] []) ag ?_ ?_
  ·refine RC.region (mv (.int .u8 (j.toNat:Int)) (ic ((j.toNat:Int)) 65 (mv (vb (decide ((j.toNat:Int)<65))) (RL.gs true (decide ((j.toNat:Int)<65)) (.int .u8 (j.toNat:Int)) rfl rfl rfl cK (RL.gs true (decide ((j.toNat:Int)<65)) (vb (decide ((j.toNat:Int)>90))) rfl rfl rfl (dK .gtr .u8 (j.toNat:Int) 90 rfl (fun h=>by exact(cM h:cv (true&&((decide ((j.toNat:Int)<65))==false)) (.int .u8 (j.toNat:Int))= (.int .u8 (j.toNat:Int)))) (fun _=>rfl) rfl) (RL.pick (decide ((j.toNat:Int)<65)) (vb ((decide ((j.toNat:Int)<65))||(decide ((j.toNat:Int)>90)))) (nX true) (mv (vb ((decide ((j.toNat:Int)<65))||(decide ((j.toNat:Int)>90)))) (RL.gs true ((decide ((j.toNat:Int)<65))||(decide ((j.toNat:Int)>90))) (.int .u8 (j.toNat:Int)) rfl rfl rfl cK ?_))))))))
   refine RL.gs true ((decide ((j.toNat:Int)<65))||(decide ((j.toNat:Int)>90))) (vb (decide ((j.toNat:Int)<97))) rfl rfl rfl (dK .lss .u8 (j.toNat:Int) 97 rfl (fun h=>by exact(cM h:cv (true&&(((decide ((j.toNat:Int)<65))||(decide ((j.toNat:Int)>90)))==true)) (.int .u8 (j.toNat:Int))= (.int .u8 (j.toNat:Int)))) (fun _=>rfl) rfl) (RL.gs true ((decide ((j.toNat:Int)<65))||(decide ((j.toNat:Int)>90))) (vb (decide ((j.toNat:Int)<97))) rfl rfl rfl (cK (hx:=fun h=>by exact(cM h:cv (true&&(((decide ((j.toNat:Int)<65))||(decide ((j.toNat:Int)>90)))==true)) (vb (decide ((j.toNat:Int)<97)))= (vb (decide ((j.toNat:Int)<97)))))) (RL.gs (true&&(((decide ((j.toNat:Int)<65))||(decide ((j.toNat:Int)>90)))==true)) (decide ((j.toNat:Int)<97)) (.int .u8 (j.toNat:Int)) rfl rfl rfl cK (RL.gs (true&&(((decide ((j.toNat:Int)<65))||(decide ((j.toNat:Int)>90)))==true)) (decide ((j.toNat:Int)<97)) (vb (decide ((j.toNat:Int)>122))) rfl rfl rfl (dK .gtr .u8 (j.toNat:Int) 122 rfl (fun h=>by exact(cM h:cv ((true&&(((decide ((j.toNat:Int)<65))||(decide ((j.toNat:Int)>90)))==true))&&((decide ((j.toNat:Int)<97))==false)) (.int .u8 (j.toNat:Int))= (.int .u8 (j.toNat:Int)))) (fun _=>rfl) rfl) (RL.gs true ((decide ((j.toNat:Int)<65))||(decide ((j.toNat:Int)>90))) (vb ((decide ((j.toNat:Int)<97))||(decide ((j.toNat:Int)>122)))) rfl rfl rfl (kE (decide ((j.toNat:Int)<97)) rfl (fun h=>by exact(cM h:cv (true&&(((decide ((j.toNat:Int)<65))||(decide ((j.toNat:Int)>90)))==true)) (vb (decide ((j.toNat:Int)<97)))= (vb (decide ((j.toNat:Int)<97))))) (fun h=>by exact nX (h:=h) (true&&(((decide ((j.toNat:Int)<65))||(decide ((j.toNat:Int)>90)))==true)))) (RL.pick ((decide ((j.toNat:Int)<65))||(decide ((j.toNat:Int)>90))) (vb (((decide ((j.toNat:Int)<65))||(decide ((j.toNat:Int)>90)))&&((decide ((j.toNat:Int)<97))||(decide ((j.toNat:Int)>122))))) (gD true rfl) (mv (vb (((decide ((j.toNat:Int)<65))||(decide ((j.toNat:Int)>90)))&&((decide ((j.toNat:Int)<97))||(decide ((j.toNat:Int)>122))))) (RL.gs true (((decide ((j.toNat:Int)<65))||(decide ((j.toNat:Int)>90)))&&((decide ((j.toNat:Int)<97))||(decide ((j.toNat:Int)>122)))) (.int .u8 (j.toNat:Int)) rfl rfl rfl cK (RL.gs true (((decide ((j.toNat:Int)<65))||(decide ((j.toNat:Int)>90)))&&((decide ((j.toNat:Int)<97))||(decide ((j.toNat:Int)>122)))) (vb (decide ((j.toNat:Int)<48))) rfl rfl rfl (dK .lss .u8 (j.toNat:Int) 48 rfl (fun h=>by exact(cM h:cv (true&&((((decide ((j.toNat:Int)<65))||(decide ((j.toNat:Int)>90)))&&((decide ((j.toNat:Int)<97))||(decide ((j.toNat:Int)>122))))==true)) (.int .u8 (j.toNat:Int))= (.int .u8 (j.toNat:Int)))) (fun _=>rfl) rfl) ?_))))))))
   refine RL.gs true (((decide ((j.toNat:Int)<65))||(decide ((j.toNat:Int)>90)))&&((decide ((j.toNat:Int)<97))||(decide ((j.toNat:Int)>122)))) (vb (decide ((j.toNat:Int)<48))) rfl rfl rfl (cK (hx:=fun h=>by exact(cM h:cv (true&&((((decide ((j.toNat:Int)<65))||(decide ((j.toNat:Int)>90)))&&((decide ((j.toNat:Int)<97))||(decide ((j.toNat:Int)>122))))==true)) (vb (decide ((j.toNat:Int)<48)))= (vb (decide ((j.toNat:Int)<48)))))) (RL.gs (true&&((((decide ((j.toNat:Int)<65))||(decide ((j.toNat:Int)>90)))&&((decide ((j.toNat:Int)<97))||(decide ((j.toNat:Int)>122))))==true)) (decide ((j.toNat:Int)<48)) (.int .u8 (j.toNat:Int)) rfl rfl rfl cK (RL.gs (true&&((((decide ((j.toNat:Int)<65))||(decide ((j.toNat:Int)>90)))&&((decide ((j.toNat:Int)<97))||(decide ((j.toNat:Int)>122))))==true)) (decide ((j.toNat:Int)<48)) (vb (decide ((j.toNat:Int)>57))) rfl rfl rfl (dK .gtr .u8 (j.toNat:Int) 57 rfl (fun h=>by exact(cM h:cv ((true&&((((decide ((j.toNat:Int)<65))||(decide ((j.toNat:Int)>90)))&&((decide ((j.toNat:Int)<97))||(decide ((j.toNat:Int)>122))))==true))&&((decide ((j.toNat:Int)<48))==false)) (.int .u8 (j.toNat:Int))= (.int .u8 (j.toNat:Int)))) (fun _=>rfl) rfl) (RL.gs true (((decide ((j.toNat:Int)<65))||(decide ((j.toNat:Int)>90)))&&((decide ((j.toNat:Int)<97))||(decide ((j.toNat:Int)>122)))) (vb ((decide ((j.toNat:Int)<48))||(decide ((j.toNat:Int)>57)))) rfl rfl rfl (kE (decide ((j.toNat:Int)<48)) rfl (fun h=>by exact(cM h:cv (true&&((((decide ((j.toNat:Int)<65))||(decide ((j.toNat:Int)>90)))&&((decide ((j.toNat:Int)<97))||(decide ((j.toNat:Int)>122))))==true)) (vb (decide ((j.toNat:Int)<48)))= (vb (decide ((j.toNat:Int)<48))))) (fun h=>by exact nX (h:=h) (true&&((((decide ((j.toNat:Int)<65))||(decide ((j.toNat:Int)>90)))&&((decide ((j.toNat:Int)<97))||(decide ((j.toNat:Int)>122))))==true)))) (RL.pick (((decide ((j.toNat:Int)<65))||(decide ((j.toNat:Int)>90)))&&((decide ((j.toNat:Int)<97))||(decide ((j.toNat:Int)>122)))) (vb ((((decide ((j.toNat:Int)<65))||(decide ((j.toNat:Int)>90)))&&((decide ((j.toNat:Int)<97))||(decide ((j.toNat:Int)>122))))&&((decide ((j.toNat:Int)<48))||(decide ((j.toNat:Int)>57))))) (gD true rfl) (mv (vb ((((decide ((j.toNat:Int)<65))||(decide ((j.toNat:Int)>90)))&&((decide ((j.toNat:Int)<97))||(decide ((j.toNat:Int)>122))))&&((decide ((j.toNat:Int)<48))||(decide ((j.toNat:Int)>57))))) (eZ hj (fun ad hj=>?_) fun ad hj=>?_))))))
   rotate_left
   ·refine bC ad (bC ad (bC ad (fq ad (vb false) (RL.nil ?_))))
    obtain rfl:=oi hj
    exact⟨rfl,hw.sp 0 []⟩
   refine RL.move (.int .u8 (j.toNat:Int)) (cg ad) ?_
   obtain⟨aj,an,hj⟩:=bd hj
   refine RL.call (cg ad) zr KY [(str ⟨[95,43,45,35]⟩),(.int .u8 (j.toNat:Int))] zr (aD (px N (p0:=⟨[95,43,45,35]⟩) (p1:=(j.toNat:Int)) hw an) ?_)
   rintro _ w ⟨rfl,hw⟩
   refine RL.kX aj 0 (cg ad) (fq ad (vb (decide (aj<0))) (RL.nil ?_))
   obtain rfl:=oi hj
   exact⟨rfl,hw.sp 0 []⟩
  rintro _ w ⟨O,rfl,hw⟩
  refine aH (dQ o (fun hc o=>?_) fun hc o=>?_)
  rotate_left
  ·refine RC.skip (bQ (aH (RC.region (RL.inc hk hm (mv (vi ((ab+1:Nat):Int)) (RL.nil ?_))))))
   obtain rfl:=oi o
   exact⟨rfl,hw.sp 0 []⟩
  refine RC.sr (aQ (vb false) (RL.nt (RC.rb (bS ?_))))
  obtain rfl:=oi o
  exact⟨rfl,bX ⟨rfl,hw.drop 0⟩⟩
 ·intro r U w e hK
  subst e
  refine bS ?_
  obtain rfl:=oi o
  exact hK
 rintro af _ w rfl ⟨O,rfl,hw⟩
 rw [Fo.dB] at o
 refine aH (RC.sr (mv (str p0) (RL.lens p0 Bh (ic ((p0.cX.length:Int)) 1 (mv (vb (decide ((p0.cX.length:Int)>=1))) (RL.gs true (decide ((p0.cX.length:Int)>=1)) (str p0) rfl rfl rfl cK (RL.gs true (decide ((p0.cX.length:Int)>=1)) (vi p0.cX.length) rfl rfl rfl (Ii (s:=p0) rfl (fun h=>by exact(cM h:cv (true&&((decide ((p0.cX.length:Int)>=1))==true)) (str p0)= (str p0))) Bh) (RL.gs true (decide ((p0.cX.length:Int)>=1)) (vb (decide ((p0.cX.length:Int)<=40))) rfl rfl rfl (dK .leq .i64 (p0.cX.length:Int) 40 rfl (fun h=>by exact(cM h:cv (true&&((decide ((p0.cX.length:Int)>=1))==true)) (vi p0.cX.length)= (vi p0.cX.length))) (fun _=>rfl) rfl) ?_))))))))
 refine RL.pick (decide ((p0.cX.length:Int)>=1)) (vb ((decide ((p0.cX.length:Int)>=1))&&(decide ((p0.cX.length:Int)<=40)))) (gD true zr) (aQ (vb ((decide ((p0.cX.length:Int)>=1))&&(decide ((p0.cX.length:Int)<=40)))) (RL.nt (RC.ret ?_)))
 obtain rfl:=oi o
 exact bX ⟨rfl,hw.drop 0⟩
theorem uH {p0:eJ} {res:Bool} (o:Holds E w V) (j:iR N p0=some res):
    Calls bN 85 [(str p0)].toArray w (gL (aX E V res)):=by
 unfold iR at j
 refine enter Tryz.func85 zr zr (RC.sr (aQ (vb false) (RL.ns (mv (str p0) ?_))))
 obtain⟨aa,ab,j⟩:=bd j
 refine RL.call zt zr KZ [(str p0)] zr (aD (rB N (p0:=p0) o ab) ?_)
 rintro _ w ⟨rfl,o⟩
 refine RL.not aa (aQ (vb (!aa)) (RL.nt (RC.ret ?_)))
 obtain rfl:=oi j
 exact bX ⟨rfl,o.drop 0⟩
theorem xu {p0:eJ} {res:Bool} (j:Holds E w V) (hb:my N p0=some res):
    Calls bN 44 [(str p0)].toArray w (gL (aX E V res)):=by
 unfold my at hb
 refine enter Tryz.func44 zr zr (RC.sr (aQ (vb false) (RL.nq ?_)))
 obtain⟨ad,hj,hb⟩:=bd hb
 refine RC.jn (fun(ad:Bool)=>SH E V [(2,vb ad)] []) ad ?_ ?_
 ·refine RC.region (mv (str p0) (RL.lens p0 Bh (ic ((p0.cX.length:Int)) 200 (mv (vb (decide ((p0.cX.length:Int)<=200))) (eZ hj (fun o hj=>?_) fun o hj=>?_)))))
  rotate_left
  ·refine bC o (bC o (bC o (bC o (fq o (vb false) (aQ (vb false) (RL.nil ?_))))))
   obtain rfl:=oi hj
   exact⟨rfl,j.sp 0 []⟩
  refine RL.move (str p0) (cg o) ?_
  obtain⟨ai,af,hj⟩:=bd hj
  refine RL.call (cg o) zr KW [(str p0),(str ⟨[47]⟩)] zr (aD (su N (p0:=p0) (p1:=⟨[47]⟩) j af) ?_)
  rintro ag w j
  have j:=j.freeze 0
  obtain⟨ae,ah,hj⟩:=bd hj
  refine RL.call (cg o) rfl Mn [ag,(.func (.func 85) #[] #[])] rfl (aD (pw N (i0:=0) j rfl ⟨85,[],rfl,Mm,fun w Γl v y0 r i j hi hr=>by obtain rfl:=j.CO (γ:=eJ) hi;exact aD (uH N (p0:=y0) j hr) fun _ _ h=>h⟩ ah) ?_)
  rintro _ w ⟨rfl,j⟩
  refine RL.not (hg:=(cg o)) ae (fq o (vb (!ae)) (aQ (vb (!ae)) (RL.nil ?_)))
  obtain rfl:=oi hj
  exact⟨rfl,j.sp 1 []⟩
 rintro _ w ⟨O,rfl,j⟩
 refine aH (RC.ret ?_)
 obtain rfl:=oi hb
 exact bX ⟨rfl,j.drop 0⟩
def Aa (E:World) (V:List HP) (res:dV) (v:Value) (w:World):Prop:=Holds E w ([rd v res]++V)
theorem nK {p0:eM} {res:dV} (j:Holds E w V) (h0:V[i0]? =some (rd v0 p0)) (o:lH N p0=some res):
    Calls bN 25 [v0].toArray w (gL (Aa E V res)):=by
 unfold lH at o
 refine enter Tryz.func25 zr zr ?_
 have j:=j.dup (i0+0) h0
 refine RC.sr (RL.cS 0 v0 j zr fun aa w j=>?_)
 refine RL.alloc j JV.z fun ab w j=>?_
 refine RL.ns (RL.aY zr tk (RL.aM 1 j zr m8 yP (RL.aY zr wq (RL.aM 1 j zr oY yP ?_))))
 have j:=(j.sc eJ p0.Part).sc eJ p0.dV
 refine RL.build (⟨p0.Part,p0.dV⟩:dV) trivial rfl j [(0,(str p0.Part)),(1,(str p0.dV))] rfl K0 rfl (fun M hs g=>by have h:=Jb M;exact cU.cons (f:=fun(x:dV) y=>{x with Part:=y}) h Di (g.sat 1 _ rfl).1 fun _ h=>cU.cons (f:=fun(x:dV) y=>{x with dV:=y}) h Dj (g.sat 0 _ rfl).1 fun _ h=>cU.nil h) fun ad j=>?_
 refine RL.cC 3 j 0 zr zW fun w j=>?_
 refine RL.nt (RC.ret ?_)
 obtain rfl:=oi o
 exact Il 3 zr j zr zr zW fun ae j=>(j.pk 7 [0])
theorem rO {p0 p1:eJ} (o:Holds E w V) (j:l9 N p0 p1=some res):
    Calls bN 93 [(str p0),(str p1)].toArray w (gL (aU E V res)):=by
 unfold l9 at j
 refine enter Tryz.func93 zr zr (RC.sr (aQ (vi 0) (RL.ns (mv (str p0) (mv (str p1) (RL.zK (vi (Lib.compareBytes p0.cX p1.cX)) zr [(str p0),(str p1)] zr (mA p0 p1 w) (aQ (vi (Lib.compareBytes p0.cX p1.cX)) (RL.nt ?_))))))))
 refine RC.ret ?_
 obtain rfl:=oi j
 exact bX ⟨rfl,o.drop 0⟩
theorem qI {p0 p1:eJ} (o:Holds E w V) (j:nI N p0 p1=some res):
    Calls bN 59 [(str p0),(str p1)].toArray w (gL (aU E V res)):=by
 unfold nI at j
 refine enter Tryz.func59 zr zr (RC.sr (aQ (vi 0) (RL.ns (mv (str p0) (mv (str p1) ?_)))))
 obtain⟨aa,ab,j⟩:=bd j
 refine RL.call zt zr Mp [(str p0),(str p1)] zr (aD (rO N (p0:=p0) (p1:=p1) o ab) ?_)
 rintro _ w ⟨rfl,o⟩
 refine aQ (vi aa) (RL.nt (RC.ret ?_))
 obtain rfl:=oi j
 exact bX ⟨rfl,o.drop 0⟩
theorem oK {p0 p1:dV} (j:Holds E w V) (h0:V[i0]? =some (rd v0 p0)) (h1:V[i1]? =some (rd v1 p1)) (o:iU N p0 p1=some res):
    Calls bN 24 [v0,v1].toArray w (gL (aU E V res)):=by
 unfold iU at o
 refine enter Tryz.func24 zr zr ?_
 have j:=(j.dup (i0+0) h0).dup (i1+1) h1
 refine RC.sr (RL.cS 1 v0 j zr fun ag w j=>?_)
 refine RL.cS 1 v1 j zr fun ah w j=>?_
 refine aQ (vi 0) (RL.nq (RC.sr (RL.aY zr EF (RL.aM 1 j zr zS yP (RL.aY zr EF (RL.aM 0 j zr zS yP ?_))))))
 obtain⟨aa,ab,o⟩:=bd o
 refine RL.call zt zr K1 [(str p0.Part),(str p1.Part)] zr (aD (qI N (p0:=p0.Part) (p1:=p1.Part) j ab) ?_)
 rintro _ w ⟨rfl,j⟩
 refine aQ (vi aa) (RL.ns (mv (vi aa) (ic aa 0 (RL.nt (dQ o (fun hc o=>?_) fun hc o=>?_)))))
 ·refine RC.sr (mv (vi aa) (aQ (vi aa) (RL.nt (RC.rt ?_))))
  obtain rfl:=oi o
  exact bX ⟨rfl,j.drop 4⟩
 refine RC.sx (RL.aY zr EG (RL.aM 1 j zr zT yP (RL.aY zr EG (RL.aM 0 j zr zT yP ?_))))
 obtain⟨ae,af,o⟩:=bd o
 refine RL.call zt zr K1 [(str p0.dV),(str p1.dV)] zr (aD (qI N (p0:=p0.dV) (p1:=p1.dV) j af) ?_)
 rintro _ w ⟨rfl,j⟩
 refine aQ (vi ae) (RL.nt (RC.ret ?_))
 obtain rfl:=oi o
 exact bX ⟨rfl,j.drop 4⟩
def vJ (E:World) (V:List HP) (r:Int) (U:Nat->Value) (w:World):Prop:=lF bN 60 Tryz.f16 (aU E V r) .ret U w
theorem uI {p0:kT} (j:Holds E w V) (h0:V[i0]? =some (rd v0 p0)) (hb:kJ N p0=some res):
    Calls bN 16 [v0].toArray w (gL (aU E V res)):=by
 unfold kJ at hb
 refine enter Tryz.func16 zr zr ?_
 have j:=j.dup (i0+0) h0
 refine RC.sr (RL.cS 0 v0 j zr fun ag w j=>?_)
 have j:=j.jI (i:=0) rfl
 refine aQ (vi 0) (RL.nq (RC.sr (RL.dP 0 j zr nR kK fun bk j=>(RL.bJ 0 p0.bM j wo fun bl j=>(RL.bF 0 p0.bM j Dp (ic ((p0.bM.length:Int)) 1000 (RL.nt (dQ hb (fun hc hb=>?_) fun hc hb=>?_))))))))
 ·refine RC.sr (aQ (vi 2) (RL.nt (RC.rt ?_)))
  obtain rfl:=oi hb
  exact bX ⟨rfl,j.drop 4⟩
 refine RC.ss (RC.sr (RL.dP 2 j zr nR kK fun bm j=>(RL.bJ 0 p0.bM j wo fun ah j=>(RL.bF 0 p0.bM j Dp (mv (vi 0) (RL.nt ?_))))))
 obtain⟨bn,hN,hb⟩:=bd hb
 refine RC.range (fun(ad:Nat) (ak:Unit)=>SH E V [(1,vp ag 0),(10,ah),(11,vi p0.bM.length),(12,vi ad)] [pt (vp ag 0) p0,rd ah p0.bM]) (fun(ak:Unit)=>SH E V [] [pt (vp ag 0) p0,rd ah p0.bM]) (vJ E V) hN ?_ ?_ ?_ ?_ ?_
 ·exact j.sp 6 [4,0]
 ·rintro hm ak _ w ⟨O,rfl,j⟩
  refine RC.sr (ic ((p0.bM.length:Int)) ((p0.bM.length:Int)) (RL.nq (RC.gk ue (RC.ex ?_))))
  exact⟨rfl,j.sp 2 [0,1]⟩
 ·rintro hm ad ak fl _ w hk ⟨O,rfl,j⟩ hb
  refine RC.sr (ic ((ad:Int)) ((p0.bM.length:Int)) (RL.nq (RC.gj (ud hk) (RC.ss (RC.bs (mv (vi ad) ?_))))))
  obtain⟨ai,a1,hb⟩:=bd hb
  refine RL.bP 1 j zY a1 fun bp j=>(RL.bJ 0 ai j rL fun bq j=>(RL.alloc j Hh.z fun al w j=>?_))
  refine aQ (vi ad) (RL.cC 0 j 1 zr rL fun w j=>?_)
  refine RL.nt (RC.block (RC.seq ?_))
  obtain⟨an,o,hb⟩:=bd hb
  refine RC.jn (fun(an:Bool)=>SH E V [(1,vp ag 0),(3,vi ad),(4,vp al 0),(10,ah),(11,vi p0.bM.length),(12,vi ad),(17,vb an)] [pt (vp ag 0) p0,bx 54 al ai,rd ah p0.bM]) an ?_ ?_
  ·refine RC.region (RL.aY zr tk (RL.aM 0 j zr m8 yP ?_))
   obtain⟨ay,a2,o⟩:=bd o
   refine RL.call zt zr Mo [(str ai.Part)] zr (aD (xu N (p0:=ai.Part) j a2) ?_)
   rintro _ w ⟨rfl,j⟩
   refine RL.not ay (mv (vb (!ay)) (eZ o (fun ae o=>?_) fun ae o=>?_))
   ·refine bC ae (bC ae (bC ae (bC ae (fq ae (vb true) (aQ (vb true) (RL.nil ?_))))))
    obtain rfl:=oi o
    exact⟨rfl,j.sp 5 [3,0,4]⟩
   refine RL.aY (hg:=(cg ae)) zr wq (RL.aM (hg:=(cg ae)) 0 j zr oY yP ?_)
   obtain⟨ao,a3,o⟩:=bd o
   refine RL.call (cg ae) zr KZ [(str ai.dV)] zr (aD (rB N (p0:=ai.dV) j a3) ?_)
   rintro _ w ⟨rfl,j⟩
   refine RL.not (hg:=(cg ae)) ao (fq ae (vb (!ao)) (aQ (vb (!ao)) (RL.nil ?_)))
   obtain rfl:=oi o
   exact⟨rfl,j.sp 5 [3,0,4]⟩
  rintro _ w ⟨O,rfl,j⟩
  refine aH (dQ hb (fun hc hb=>?_) fun hc hb=>?_)
  ·refine RC.sr (aQ (vi 5) (RL.nt (RC.rb (oA (bS ?_)))))
   obtain rfl:=oi hb
   exact⟨rfl,bX ⟨rfl,j.drop 3⟩⟩
  refine RC.seq ?_
  obtain⟨aq,o,hb⟩:=bd hb
  refine RC.jn (fun(aq:Bool)=>SH E V [(1,vp ag 0),(3,vi ad),(4,vp al 0),(10,ah),(11,vi p0.bM.length),(12,vi ad),(28,vb aq)] [pt (vp ag 0) p0,bx 54 al ai,rd ah p0.bM]) aq ?_ ?_
  ·refine RC.region (RL.aY zr ye (RL.aM 1 j zr qp cI (RL.dP 0 j zr mC i9 fun br j=>(RL.bJ 0 p0.aJ j pJ fun bt j=>(RL.bF 0 p0.aJ j qC (RL.fY (p0.aJ.length:Int) 1 ?_))))))
   obtain⟨az,a4,o⟩:=bd o
   refine RL.call zt zr IB [(vi ai.cT),(vi 0),(vi (IntKind.wrap .i64 ((p0.aJ.length:Int) - 1)))] zr (aD (nb N (p0:=ai.cT) (p1:=0) (p2:=(IntKind.wrap .i64 ((p0.aJ.length:Int) - 1))) j a4) ?_)
   rintro _ w ⟨rfl,j⟩
   refine RL.not az (mv (vb (!az)) (eZ o (fun af o=>?_) fun af o=>?_))
   ·refine bC af (bC af (bC af (bC af (fq af (vb true) (aQ (vb true) (RL.nil ?_))))))
    obtain rfl:=oi o
    exact⟨rfl,j.sp 5 [2,3,4]⟩
   refine RL.aY (hg:=(cg af)) zr yf (RL.bB (hg:=(cg af)) 3 j zr qq Dn fun a5 j=>?_)
   obtain⟨ar,a6,o⟩:=bd o
   refine RL.call (cg af) zr KP [a5] zr (aD (sj N (i0:=0) j zr a6) ?_)
   rintro _ w ⟨rfl,j⟩
   refine RL.not (hg:=(cg af)) ar (fq af (vb (!ar)) (aQ (vb (!ar)) (RL.nil ?_)))
   obtain rfl:=oi o
   exact⟨rfl,j.sp 6 [3,4,5]⟩
  rintro _ w ⟨O,rfl,j⟩
  refine aH (dQ hb (fun hc hb=>?_) fun hc hb=>?_)
  ·refine RC.sr (aQ (vi 1) (RL.nt (RC.rb (oA (bS ?_)))))
   obtain rfl:=oi hb
   exact⟨rfl,bX ⟨rfl,j.drop 3⟩⟩
  refine RC.seq ?_
  obtain⟨au,o,hb⟩:=bd hb
  refine RC.jn (fun(au:Bool)=>SH E V [(1,vp ag 0),(10,ah),(11,vi p0.bM.length),(12,vi ad),(43,vb au)] [pt (vp ag 0) p0,rd ah p0.bM]) au ?_ ?_
  ·refine RC.ug mixed [0,0,0,0,2,1,1,1,1,1,1,2,2,0,0,0] [0,1,2,3,5,6,7,8,9,10,4,11,12,13,14,15] ?_
   have j:=j.drew
   refine DP.e0 zr (mv (vi ad) (aW zr (ic ((ad:Int)) 0 (aW zr (mv (vb (decide ((ad:Int)>0))) (DP.d0 (eZ o (fun ab o=>?_) fun ab o=>?_)))))))
   rotate_left
   ·refine DP.e0 zr (bC ab (DP.d0 (DP.e1 undef zr (fun w=>bC ab DP.d1) (DP.e1 undef zr (fun w=>bC ab DP.d1) (DP.e1 undef zr (fun w=>bC ab DP.d1) (DP.e1 undef zr (fun w=>bC ab DP.d1) (DP.e1 undef zr (fun w=>bC ab DP.d1) (DP.e1 undef zr (fun w=>bC ab DP.d1) ?_))))))))
    refine DP.e2 zr (bC ab (Fq zr (bC ab (Fq zr (bC ab (qz zr (bC ab (aW zr ?_))))))))
    refine fq ab (vb false) (aW zr (aQ (vb false) (DP.d0 (DP.z ?_))))
    obtain rfl:=oi o
    exact⟨rfl,j.sp 3 [0,2]⟩
   refine DP.e0 zr (RL.bB (hg:=(cg ab)) (f:=(fun x=>x)) 1 j zr Fd.self rL fun a7 j=>(DP.d0 (DP.Bc 1 zr (cg ab) j zr nR kK fun bu j=>(DP.wi p0.bM 0 zr (cg ab) j wo fun bw a378 bz j=>(DP.e1 (vi ad) zr (fun w=>RL.move (vi ad) (cg ab) DP.d1) (DP.e1 (vi (IntKind.wrap .i64 ((ad:Int) - 1))) zr (fun w=>RL.fY (hg:=(cg ab)) (ad:Int) 1 DP.d1) ?_))))))
   obtain⟨a8,a9,o⟩:=bd o
   refine DP.vx (hg:=(cg ab)) 1 zr j zY a9 fun b0 j=>(DP.wi a8 0 zr (cg ab) j rL fun ba a383 b1 j=>(DP.e2 zr ?_))
   obtain⟨b2,bb,o⟩:=bd o
   refine RL.call (cg ab) zr IC [a7] zr (aD (nK N (i0:=6) j zr bb) ?_)
   rintro bc w j
   refine DP.d2 (⟨⟨zt,j.gF 4⟩,j.gF 1⟩) (DP.e2 zr ?_)
   obtain⟨b3,bf,o⟩:=bd o
   refine RL.call (cg ab) zr IC [ba] zr (aD (nK N (i0:=2) j zr bf) ?_)
   rintro bg w j
   refine DP.d2 (⟨⟨zt,j.gF 5⟩,j.gF 2⟩) (DP.e2 zr ?_)
   obtain⟨av,bh,o⟩:=bd o
   refine RL.call (cg ab) zr K2 [bc,bg] zr (aD (oK N (i0:=1) (i1:=0) j zr zr bh) ?_)
   rintro _ w ⟨rfl,j⟩
   refine DP.d2 (⟨⟨zt,j.gF 5⟩,j.gF 2⟩) (DP.e0 zr (RL.kX av 0 (cg ab) (aW zr (fq ab (vb (decide (av<=0))) (aW zr (aQ (vb (decide (av<=0))) (DP.d0 ?_)))))))
   have j:=j.pl 12 [0,1,3,4,6,7,8,9,10,11]
   refine DP.z ?_
   obtain rfl:=oi o
   exact⟨rfl,j.sp 10 [7,9]⟩
  rintro _ w ⟨O,rfl,j⟩
  refine aH (dQ hb (fun hc hb=>?_) fun hc hb=>?_)
  rotate_left
  ·refine RC.skip (bQ (bQ (aH (RC.region (RL.inc hk hm (mv (vi ((ad+1:Nat):Int)) (RL.nil ?_)))))))
   obtain rfl:=oi hb
   exact⟨rfl,j.sp 2 [0,1]⟩
  refine RC.sr (aQ (vi 8) (RL.nt (RC.rb (oA (bS ?_)))))
  obtain rfl:=oi hb
  exact⟨rfl,bX ⟨rfl,j.drop 2⟩⟩
 ·intro r U w e hK
  subst e
  refine bS ?_
  obtain rfl:=oi hb
  exact hK
 rintro ak _ w rfl ⟨O,rfl,j⟩
 rw [Fo.dB] at hb
 refine aH (RC.sr (aQ (vi 0) (RL.nt (RC.ret ?_))))
 obtain rfl:=oi hb
 exact bX ⟨rfl,j.drop 2⟩
theorem sw (o:Holds E w V) (j:lY N p0 p1 p2 p3=some res):
    Calls bN 46 [(vi p0),(vi p1),(vi p2),(vi p3)].toArray w (gL (aU E V res)):=by
 unfold lY at j
 refine enter Tryz.func46 zr zr (RC.sr (aQ (vi 0) (RL.ns (mv (vi p2) (mv (vi p1) (RL.fY p2 p1 (RL.fY (IntKind.wrap .i64 (p2 - p1)) 1 (mv (vi p0) ?_))))))))
 refine mv (vi p3) (RL.fY p0 p3 (RL.fY (IntKind.wrap .i64 (p0 - p3)) 1 (RL.L3 (a:=0) (b:=(IntKind.wrap .i64 ((IntKind.wrap .i64 (p2 - p1))+1))) (c:=(IntKind.wrap .i64 ((IntKind.wrap .i64 (p0 - p3))+1))) zt zr zr zr zr (aQ (vi (if (if 0< (IntKind.wrap .i64 ((IntKind.wrap .i64 (p2 - p1))+1)) then (IntKind.wrap .i64 ((IntKind.wrap .i64 (p2 - p1))+1)) else 0)< (IntKind.wrap .i64 ((IntKind.wrap .i64 (p0 - p3))+1)) then (IntKind.wrap .i64 ((IntKind.wrap .i64 (p0 - p3))+1)) else (if 0< (IntKind.wrap .i64 ((IntKind.wrap .i64 (p2 - p1))+1)) then (IntKind.wrap .i64 ((IntKind.wrap .i64 (p2 - p1))+1)) else 0))) (RL.nt (RC.ret ?_))))))
 obtain rfl:=oi j
 exact bX ⟨rfl,o.drop 0⟩
theorem Cm {p0 p1:aI} (j:Holds E w V) (h0:V[i0]? =some (rd v0 p0)) (h1:V[i1]? =some (rd v1 p1)) (o:r5 N p0 p1=some res):
    Calls bN 17 [v0,v1].toArray w (gL (aU E V res)):=by
 unfold r5 at o
 refine enter Tryz.func17 zr zr ?_
 have j:=(j.dup (i0+0) h0).dup (i1+1) h1
 refine RC.sr (RL.cS 1 v0 j zr fun aa w j=>?_)
 refine RL.cS 1 v1 j zr fun ab w j=>?_
 refine aQ (vi 0) (RL.nq ?_)
 have j:=j.drew
 refine RC.EB (fun w=>Holds E w ([bx 56 ab p1,bx 56 aa p0]++V)) mixed zr [0,0,0,0,0,0,0,0,2,1,1,1,1,1,1,1,1,2,0,0] [0,1,2,3,4,5,6,7,9,10,11,12,13,14,15,16,8,17,18,19] (j.pk 4 [0,1]) (DP.e0 zr (RL.aY zr ij (aW zr (RL.aM 1 j zr dM cI (aW zr (RL.aY zr ji (aW zr (RL.aM 1 j zr eF cI ?_))))))))
 refine aW zr (RL.aY zr ij (aW zr (RL.aM 0 j zr dM cI (aW zr (RL.aY zr ji (aW zr (RL.aM 0 j zr eF cI (DP.d0 ?_))))))))
 refine DP.e1 (vp aa 1) zr (fun w=>RL.aY zr gW DP.d1) (DP.Iy (vi p0.Y0) zr (fun w j=>RL.aM 1 j zr dF cI DP.d1) (DP.e1 (vp aa 3) zr (fun w=>RL.aY zr kr DP.d1) (DP.Iy (vi p0.Y1) zr (fun w j=>RL.aM 1 j zr fG cI DP.d1) (DP.e1 (vp ab 1) zr (fun w=>RL.aY zr gW DP.d1) (DP.Iy (vi p1.Y0) zr (fun w j=>RL.aM 0 j zr dF cI DP.d1) (DP.e1 (vp ab 3) zr (fun w=>RL.aY zr kr DP.d1) (DP.Iy (vi p1.Y1) zr (fun w j=>RL.aM 0 j zr fG cI DP.d1) (DP.e2 zr ?_))))))))
 obtain⟨ad,af,o⟩:=bd o
 refine RL.call zt zr K3 [(vi p0.X0),(vi p0.X1),(vi p1.X0),(vi p1.X1)] zr (aD (sw N (p0:=p0.X0) (p1:=p0.X1) (p2:=p1.X0) (p3:=p1.X1) j af) ?_)
 rintro _ w ⟨rfl,j⟩
 refine DP.d2 (j.pk 4 [0,1]) (DP.e2 zr ?_)
 obtain⟨ae,ag,o⟩:=bd o
 refine RL.call zt zr K3 [(vi p0.Y0),(vi p0.Y1),(vi p1.Y0),(vi p1.Y1)] zr (aD (sw N (p0:=p0.Y0) (p1:=p0.Y1) (p2:=p1.Y0) (p3:=p1.Y1) j ag) ?_)
 rintro _ w ⟨rfl,j⟩
 refine DP.d2 (j.pk 4 [0,1]) (DP.e0 zr (RL.max ad ae (aW zr (aQ (vi (if ad<ae then ae else ad)) (DP.d0 (DP.z (aH (RC.ret ?_))))))))
 obtain rfl:=oi o
 exact bX ⟨rfl,j.drop 4⟩
end Go.Gk
