/-
  Printed texts: Go functions as plain functions, and that they are. No statement of the seed is proved here.
-/
import Derived.Test.YtllecmpemokbfabGreatDoorG1
import Derived.Test.YtllecmpemokbfabGreatDoorA2
set_option linter.unusedVariables false
set_option linter.unusedSimpArgs false
set_option linter.unusedSectionVars false
set_option maxRecDepth 100000
set_option maxHeartbeats 4000000
namespace Go.Gk
open Go Go.Proofs
variable (N:Nat) {E w:World} {i0 i1:Nat} {p0 p1 p2 p3 res:Int} {v0 v1:Value} {V:List HP}
theorem fN {p0:bU} {res:aI} (j:Holds E w V) (h0:V[i0]? =some (rd v0 p0)) (o:eA N p0=some res):
    Calls bC 15 [v0].toArray w (gE (mY E V res)):=by
 unfold eA at o
 refine enter Tryz.func15 zr zr ?_
 have j:=j.dup (i0+0) h0
 refine RC.sr (RL.dC 0 v0 j zr fun aa w j=>?_)
 refine RL.alloc j ni.z fun ab w j=>?_
 refine RL.nq (RC.wg mixed ?_)
 have j:=j.drew
 refine RO.go (RL.bA zr ze (RO.nx (RL.bA zr w5 (RO.nx (RL.aM (f:=(fun x=>x.At.X)) 1 j zr (Fd.comp (f:=fun(x:bU)=>x.At) (fun(x:iO)=>x.X) tj oj) cE (RO.nx (RL.bA zr uM (RO.nx ?_))))))))
 refine RL.aM 1 j zr nE cE (RO.nx (RL.quo p0.eB 2 zr zr zr zr (RO.nx (RL.jq p0.At.X (IntKind.wrap .i64 (Int.tdiv p0.eB 2)) (RO.nx (RL.bA zr ze (RO.nx (RL.bA zr w6 ?_))))))))
 refine RO.nx (RL.aM (f:=(fun x=>x.At.Y)) 1 j zr (Fd.comp (f:=fun(x:bU)=>x.At) (fun(x:iO)=>x.Y) tj om) cE (RO.nx (RL.bA zr uM (RO.nx (RL.aM 1 j zr nE cE (RO.nx (RL.quo p0.eB 2 zr zr zr zr (RO.nx ?_))))))))
 refine RL.jq p0.At.Y (IntKind.wrap .i64 (Int.tdiv p0.eB 2)) (RO.nx (aP (vi (IntKind.wrap .i64 (p0.At.X - (IntKind.wrap .i64 (Int.tdiv p0.eB 2))))) (RO.nx (aP (vi (IntKind.wrap .i64 (p0.At.Y - (IntKind.wrap .i64 (Int.tdiv p0.eB 2))))) (RO.last (aG (RC.sr (mv (vi (IntKind.wrap .i64 (p0.At.X - (IntKind.wrap .i64 (Int.tdiv p0.eB 2))))) ?_))))))))
 refine mv (vi (IntKind.wrap .i64 (p0.At.Y - (IntKind.wrap .i64 (Int.tdiv p0.eB 2))))) (mv (vi (IntKind.wrap .i64 (p0.At.X - (IntKind.wrap .i64 (Int.tdiv p0.eB 2))))) (RL.bA zr uM (RL.aM 1 j zr nE cE (RL.jq (IntKind.wrap .i64 (p0.At.X - (IntKind.wrap .i64 (Int.tdiv p0.eB 2)))) p0.eB (mv (vi (IntKind.wrap .i64 (p0.At.Y - (IntKind.wrap .i64 (Int.tdiv p0.eB 2))))) (RL.bA zr uM (RL.aM 1 j zr nE cE (RL.jq (IntKind.wrap .i64 (p0.At.Y - (IntKind.wrap .i64 (Int.tdiv p0.eB 2)))) p0.eB ?_))))))))
 have j:=((j.sc Int (IntKind.wrap .i64 (p0.At.X - (IntKind.wrap .i64 (Int.tdiv p0.eB 2))))).sc Int (IntKind.wrap .i64 (p0.At.Y - (IntKind.wrap .i64 (Int.tdiv p0.eB 2))))).sc Int (IntKind.wrap .i64 ((IntKind.wrap .i64 (p0.At.X - (IntKind.wrap .i64 (Int.tdiv p0.eB 2))))+p0.eB))
 have j:=j.sc Int (IntKind.wrap .i64 ((IntKind.wrap .i64 (p0.At.Y - (IntKind.wrap .i64 (Int.tdiv p0.eB 2))))+p0.eB))
 refine RL.build (⟨(IntKind.wrap .i64 (p0.At.X - (IntKind.wrap .i64 (Int.tdiv p0.eB 2)))),(IntKind.wrap .i64 (p0.At.Y - (IntKind.wrap .i64 (Int.tdiv p0.eB 2)))),(IntKind.wrap .i64 ((IntKind.wrap .i64 (p0.At.X - (IntKind.wrap .i64 (Int.tdiv p0.eB 2))))+p0.eB)),(IntKind.wrap .i64 ((IntKind.wrap .i64 (p0.At.Y - (IntKind.wrap .i64 (Int.tdiv p0.eB 2))))+p0.eB))⟩:aI) trivial rfl j [(0,(vi (IntKind.wrap .i64 (p0.At.X - (IntKind.wrap .i64 (Int.tdiv p0.eB 2)))))),(1,(vi (IntKind.wrap .i64 (p0.At.Y - (IntKind.wrap .i64 (Int.tdiv p0.eB 2)))))),(2,(vi (IntKind.wrap .i64 ((IntKind.wrap .i64 (p0.At.X - (IntKind.wrap .i64 (Int.tdiv p0.eB 2))))+p0.eB)))),(3,(vi (IntKind.wrap .i64 ((IntKind.wrap .i64 (p0.At.Y - (IntKind.wrap .i64 (Int.tdiv p0.eB 2))))+p0.eB))))] rfl AO rfl (fun M hs g=>by have h:=q9 M;exact dA.cons (f:=fun(x:aI) y=>{x with X0:=y}) h qc (g.sat 3 _ rfl).1 fun _ h=>dA.cons (f:=fun(x:aI) y=>{x with Y0:=y}) h th (g.sat 2 _ rfl).1 fun _ h=>dA.cons (f:=fun(x:aI) y=>{x with X1:=y}) h nC (g.sat 1 _ rfl).1 fun _ h=>dA.cons (f:=fun(x:aI) y=>{x with Y1:=y}) h qd (g.sat 0 _ rfl).1 fun _ h=>dA.nil h) fun ad j=>?_
 refine RL.bJ 5 j 0 zr gW fun w j=>?_
 refine RL.nt (RC.ret ?_)
 obtain rfl:=oi o
 exact D3 5 zr j zr zr gW fun ae j=>(j.pk 9 [0])
theorem qG {p0: (List aA)} {res:aI} (j:Holds E w V) (h0:V[i0]? =some (rd v0 p0)) (hb:jV N p0=some res):
    Calls bC 80 [v0].toArray w (gE (mY E V res)):=by
 unfold jV at hb
 refine enter Tryz.func80 zr zr ?_
 have j:=j.dup (i0+0) h0
 refine RC.sr (RL.alloc j ni.z fun bc w j=>?_)
 refine RL.nq ?_
 obtain⟨bh,bn,hb⟩:=bd hb
 obtain⟨ba,bo,hb⟩:=bd hb
 obtain⟨a7,bp,hb⟩:=bd hb
 obtain⟨bj,bq,hb⟩:=bd hb
 obtain⟨bb,br,hb⟩:=bd hb
 obtain⟨a8,bt,hb⟩:=bd hb
 refine RC.BO E V mixed [1,0,0,0,0,0,1,0,0,0,1,0,0,0,0,0,1,1,0,1,0,0,0,0,0,0] [1,2,3,4,7,8,11,12,13,14,20,21,23,24,25] (fun(x:Value×Value×Value×Value×Value×Value×Value×Value×Value×Value×Value×Value×Value×Nat)=>(fun ah ai aj ak al an ao aq ar au av aw ax ae=>[(0,6,v0),(1,7,ah),(2,8,ai),(3,9,aj),(4,10,ak),(5,11,(vi ba)),(6,12,v0),(7,13,al),(8,14,an),(9,15,(vi a7.Y0)),(10,16,v0),(11,17,ao),(12,18,aq),(13,19,ar),(14,20,au),(15,21,(vi bb)),(16,22,v0),(17,23,v0),(18,24,(vi p0.length)),(19,25,(vi (IntKind.wrap .i64 ((p0.length:Int) - 1)))),(20,26,av),(21,27,aw),(22,28,(vi a8.Y1)),(23,29,ax),(24,3,(vp ae 0))]) x.1 x.2.1 x.2.2.1 x.2.2.2.1 x.2.2.2.2.1 x.2.2.2.2.2.1 x.2.2.2.2.2.2.1 x.2.2.2.2.2.2.2.1 x.2.2.2.2.2.2.2.2.1 x.2.2.2.2.2.2.2.2.2.1 x.2.2.2.2.2.2.2.2.2.2.1 x.2.2.2.2.2.2.2.2.2.2.2.1 x.2.2.2.2.2.2.2.2.2.2.2.2.1 x.2.2.2.2.2.2.2.2.2.2.2.2.2) [(0,v0),(2,vp bc 0)] [] (fun(D:Nat->Bool) (x:Value×Value×Value×Value×Value×Value×Value×Value×Value×Value×Value×Value×Value×Nat)=>(fun ah ai aj ak al an ao aq ar au av aw ax ae=>[bif D 0 then (pt ah bh) else aT,bif D 1 then (pt ai bh.Xs) else aT,bif D 2 then (rd aj bh.Xs) else aT,bif D 3 then (pt ak ba) else aT,bif D 4 then (pt al a7) else aT,bif D 5 then (pt an a7.Y0) else aT,bif D 6 then (pt ao bj) else aT,bif D 7 then (pt aq bj.Xs) else aT,bif D 8 then (rd ar bj.Xs) else aT,bif D 9 then (pt au bb) else aT,bif D 10 then (pt av a8) else aT,bif D 11 then (pt aw a8.Y1) else aT,bif D 12 then (rd ax (⟨ba,a7.Y0,bb,a8.Y1⟩:aI)) else aT,bif D 14 then (bx 46 ae (⟨ba,a7.Y0,bb,a8.Y1⟩:aI)) else (bif D 13 then (raw 46 ae 4) else aT),raw 46 bc 4,rd v0 p0]) x.1 x.2.1 x.2.2.1 x.2.2.2.1 x.2.2.2.2.1 x.2.2.2.2.2.1 x.2.2.2.2.2.2.1 x.2.2.2.2.2.2.2.1 x.2.2.2.2.2.2.2.2.1 x.2.2.2.2.2.2.2.2.2.1 x.2.2.2.2.2.2.2.2.2.2.1 x.2.2.2.2.2.2.2.2.2.2.2.1 x.2.2.2.2.2.2.2.2.2.2.2.2.1 x.2.2.2.2.2.2.2.2.2.2.2.2.2) (fun x=>by kernel_rfl) ?_ ⟨fun _=>i7 gn,?_,?_,?_,?_,?_,fun _=>i7 gn,?_,?_,?_,fun _=>i7 gn,?_,?_,?_,?_,?_,fun _=>i7 gn,fun _=>i7 gn,?_,fun _=>Da gn rfl,?_,?_,?_,?_,?_,?_,trivial⟩ ?_
 ·have j:=((((((((((((j.drew).aT).aT).aT).aT).aT).aT).aT).aT).aT).aT).aT).aT
  have j:=(j.aT).aT
  exact⟨(undef,undef,undef,undef,undef,undef,undef,undef,undef,undef,undef,undef,undef,0),dU.none,(AF zr),zt,j⟩
 ·rintro D U w hD o ag ⟨⟨ah,ai,aj,ak,al,an,ao,aq,ar,au,av,aw,ax,ae⟩,hv,ha,_,j⟩
  obtain⟨O,rfl⟩:=(ac (hv.at 0 rfl (o.1 rfl)) az).eO
  have j:=j.bN 0 hD
  refine RL.cF 15 j lR bn fun bu j=>?_
  have j:=(j.pl 17 [0,2,3,4,5,6,7,8,9,10,11,12,13,14,15,16]).cD 0 true aT
  exact RL.nil ⟨rfl,(bu,ai,aj,ak,al,an,ao,aq,ar,au,av,aw,ax,ae),hv.pu 1,ha.u,zt,j⟩
 ·rintro D U w hD o ag ⟨⟨ah,ai,aj,ak,al,an,ao,aq,ar,au,av,aw,ax,ae⟩,hv,ha,_,j⟩
  obtain⟨O,rfl⟩:=(ac (hv.at 1 rfl (o.1 rfl)) az).eO
  have j:=(j.cC 0 (o.1 rfl)).bN 1 hD
  refine RL.iw 0 j zr jm cN fun bw j=>?_
  have j:=((j.pl 17 [1,0,3,4,5,6,7,8,9,10,11,12,13,14,15,16]).cD (hb:=o.1 rfl) 0 (D 1) aT).cD 1 true aT
  exact RL.nil ⟨rfl,(ah,bw,aj,ak,al,an,ao,aq,ar,au,av,aw,ax,ae),hv.pu 2,ha.u,zt,j⟩
 ·rintro D U w hD o ag ⟨⟨ah,ai,aj,ak,al,an,ao,aq,ar,au,av,aw,ax,ae⟩,hv,ha,_,j⟩
  obtain⟨O,rfl⟩:=(ac (hv.at 2 rfl (o.1 rfl)) az).eO
  have j:=(j.cC 1 (o.1 rfl)).bN 2 hD
  refine RL.bY 1 bh.Xs j eJ fun bz j=>?_
  have j:=((j.pl 17 [1,2,0,4,5,6,7,8,9,10,11,12,13,14,15,16]).cD (hb:=o.1 rfl) 1 (D 2) aT).cD 2 true aT
  exact RL.nil ⟨rfl,(ah,ai,bz,ak,al,an,ao,aq,ar,au,av,aw,ax,ae),hv.pu 3,ha.u,zt,j⟩
 ·rintro D U w hD o ag ⟨⟨ah,ai,aj,ak,al,an,ao,aq,ar,au,av,aw,ax,ae⟩,hv,ha,_,j⟩
  obtain⟨O,rfl⟩:=(ac (hv.at 3 rfl (o.1 rfl)) az).eO
  have j:=(j.cC 2 (o.1 rfl)).bN 3 hD
  refine RL.cF 2 j eC bo fun b0 j=>?_
  have j:=((j.pl 17 [1,2,3,0,5,6,7,8,9,10,11,12,13,14,15,16]).cD (hb:=o.1 rfl) 2 (D 3) aT).cD 3 true aT
  exact RL.nil ⟨rfl,(ah,ai,aj,b0,al,an,ao,aq,ar,au,av,aw,ax,ae),hv.pu 4,ha.u,zt,j⟩
 ·rintro D U w hD o ag ⟨⟨ah,ai,aj,ak,al,an,ao,aq,ar,au,av,aw,ax,ae⟩,hv,ha,_,j⟩
  obtain⟨O,rfl⟩:=(ac (hv.at 4 rfl (o.1 rfl)) az).eO
  have j:=j.cC 3 (o.1 rfl)
  refine RL.bH ba 3 j cE ?_
  have j:=j.cD (hb:=o.1 rfl) 3 (D 4) aT
  exact RL.nil ⟨rfl,(ah,ai,aj,ak,al,an,ao,aq,ar,au,av,aw,ax,ae),hv.pu 5,ha.u,zt,j⟩
 ·rintro D U w hD o ag ⟨⟨ah,ai,aj,ak,al,an,ao,aq,ar,au,av,aw,ax,ae⟩,hv,ha,_,j⟩
  obtain⟨O,rfl⟩:=(ac (hv.at 6 rfl (o.1 rfl)) az).eO
  have j:=j.bN 4 hD
  refine RL.cF 15 j lR bp fun b1 j=>?_
  have j:=(j.pl 17 [1,2,3,4,0,6,7,8,9,10,11,12,13,14,15,16]).cD 4 true aT
  exact RL.nil ⟨rfl,(ah,ai,aj,ak,b1,an,ao,aq,ar,au,av,aw,ax,ae),hv.pu 7,ha.u,zt,j⟩
 ·rintro D U w hD o ag ⟨⟨ah,ai,aj,ak,al,an,ao,aq,ar,au,av,aw,ax,ae⟩,hv,ha,_,j⟩
  obtain⟨O,rfl⟩:=(ac (hv.at 7 rfl (o.1 rfl)) az).eO
  have j:=(j.cC 4 (o.1 rfl)).bN 5 hD
  refine RL.iw 4 j zr l8 eN fun b2 j=>?_
  have j:=((j.pl 17 [1,2,3,4,5,0,7,8,9,10,11,12,13,14,15,16]).cD (hb:=o.1 rfl) 4 (D 7) aT).cD 5 true aT
  exact RL.nil ⟨rfl,(ah,ai,aj,ak,al,b2,ao,aq,ar,au,av,aw,ax,ae),hv.pu 8,ha.u,zt,j⟩
 ·rintro D U w hD o ag ⟨⟨ah,ai,aj,ak,al,an,ao,aq,ar,au,av,aw,ax,ae⟩,hv,ha,_,j⟩
  obtain⟨O,rfl⟩:=(ac (hv.at 8 rfl (o.1 rfl)) az).eO
  have j:=j.cC 5 (o.1 rfl)
  refine RL.bH a7.Y0 5 j cE ?_
  have j:=j.cD (hb:=o.1 rfl) 5 (D 8) aT
  exact RL.nil ⟨rfl,(ah,ai,aj,ak,al,an,ao,aq,ar,au,av,aw,ax,ae),hv.pu 9,ha.u,zt,j⟩
 ·rintro D U w hD o ag ⟨⟨ah,ai,aj,ak,al,an,ao,aq,ar,au,av,aw,ax,ae⟩,hv,ha,_,j⟩
  obtain⟨O,rfl⟩:=(ac (hv.at 10 rfl (o.1 rfl)) az).eO
  have j:=j.bN 6 hD
  refine RL.cF 15 j lR bq fun b3 j=>?_
  have j:=(j.pl 17 [1,2,3,4,5,6,0,8,9,10,11,12,13,14,15,16]).cD 6 true aT
  exact RL.nil ⟨rfl,(ah,ai,aj,ak,al,an,b3,aq,ar,au,av,aw,ax,ae),hv.pu 11,ha.u,zt,j⟩
 ·rintro D U w hD o ag ⟨⟨ah,ai,aj,ak,al,an,ao,aq,ar,au,av,aw,ax,ae⟩,hv,ha,_,j⟩
  obtain⟨O,rfl⟩:=(ac (hv.at 11 rfl (o.1 rfl)) az).eO
  have j:=(j.cC 6 (o.1 rfl)).bN 7 hD
  refine RL.iw 6 j zr jm cN fun b4 j=>?_
  have j:=((j.pl 17 [1,2,3,4,5,6,7,0,9,10,11,12,13,14,15,16]).cD (hb:=o.1 rfl) 6 (D 11) aT).cD 7 true aT
  exact RL.nil ⟨rfl,(ah,ai,aj,ak,al,an,ao,b4,ar,au,av,aw,ax,ae),hv.pu 12,ha.u,zt,j⟩
 ·rintro D U w hD o ag ⟨⟨ah,ai,aj,ak,al,an,ao,aq,ar,au,av,aw,ax,ae⟩,hv,ha,_,j⟩
  obtain⟨O,rfl⟩:=(ac (hv.at 12 rfl (o.1 rfl)) az).eO
  have j:=(j.cC 7 (o.1 rfl)).bN 8 hD
  refine RL.bY 7 bj.Xs j eJ fun b5 j=>?_
  have j:=((j.pl 17 [1,2,3,4,5,6,7,8,0,10,11,12,13,14,15,16]).cD (hb:=o.1 rfl) 7 (D 12) aT).cD 8 true aT
  exact RL.nil ⟨rfl,(ah,ai,aj,ak,al,an,ao,aq,b5,au,av,aw,ax,ae),hv.pu 13,ha.u,zt,j⟩
 ·rintro D U w hD o ag ⟨⟨ah,ai,aj,ak,al,an,ao,aq,ar,au,av,aw,ax,ae⟩,hv,ha,_,j⟩
  obtain⟨O,rfl⟩:=(ac (hv.at 13 rfl (o.1 rfl)) az).eO
  have j:=(j.cC 8 (o.1 rfl)).bN 9 hD
  refine RL.cF 8 j eC br fun b6 j=>?_
  have j:=((j.pl 17 [1,2,3,4,5,6,7,8,9,0,11,12,13,14,15,16]).cD (hb:=o.1 rfl) 8 (D 13) aT).cD 9 true aT
  exact RL.nil ⟨rfl,(ah,ai,aj,ak,al,an,ao,aq,ar,b6,av,aw,ax,ae),hv.pu 14,ha.u,zt,j⟩
 ·rintro D U w hD o ag ⟨⟨ah,ai,aj,ak,al,an,ao,aq,ar,au,av,aw,ax,ae⟩,hv,ha,_,j⟩
  obtain⟨O,rfl⟩:=(ac (hv.at 14 rfl (o.1 rfl)) az).eO
  have j:=j.cC 9 (o.1 rfl)
  refine RL.bH bb 9 j cE ?_
  have j:=j.cD (hb:=o.1 rfl) 9 (D 14) aT
  exact RL.nil ⟨rfl,(ah,ai,aj,ak,al,an,ao,aq,ar,au,av,aw,ax,ae),hv.pu 15,ha.u,zt,j⟩
 ·rintro D U w hD o ag ⟨⟨ah,ai,aj,ak,al,an,ao,aq,ar,au,av,aw,ax,ae⟩,hv,ha,_,j⟩
  obtain⟨O,rfl⟩:=(ac (hv.at 17 rfl (o.1 rfl)) az).eO
  refine RL.bF 15 p0 j qA ?_
  exact RL.nil ⟨rfl,(ah,ai,aj,ak,al,an,ao,aq,ar,au,av,aw,ax,ae),hv.pu 18,ha.u,zt,j⟩
 ·rintro D U w hD o ag ⟨⟨ah,ai,aj,ak,al,an,ao,aq,ar,au,av,aw,ax,ae⟩,hv,ha,_,j⟩
  obtain⟨O,rfl⟩:=(ac (hv.at 16 rfl (o.1 rfl)) (ac (hv.at 19 rfl (o.2.1 rfl)) az)).eO
  have j:=j.bN 10 hD
  refine RL.cF 15 j lR bt fun b7 j=>?_
  have j:=(j.pl 17 [1,2,3,4,5,6,7,8,9,10,0,12,13,14,15,16]).cD 10 true aT
  exact RL.nil ⟨rfl,(ah,ai,aj,ak,al,an,ao,aq,ar,au,b7,aw,ax,ae),hv.pu 20,ha.u,zt,j⟩
 ·rintro D U w hD o ag ⟨⟨ah,ai,aj,ak,al,an,ao,aq,ar,au,av,aw,ax,ae⟩,hv,ha,_,j⟩
  obtain⟨O,rfl⟩:=(ac (hv.at 20 rfl (o.1 rfl)) az).eO
  have j:=(j.cC 10 (o.1 rfl)).bN 11 hD
  refine RL.iw 10 j zr kr dM fun b8 j=>?_
  have j:=((j.pl 17 [1,2,3,4,5,6,7,8,9,10,11,0,13,14,15,16]).cD (hb:=o.1 rfl) 10 (D 20) aT).cD 11 true aT
  exact RL.nil ⟨rfl,(ah,ai,aj,ak,al,an,ao,aq,ar,au,av,b8,ax,ae),hv.pu 21,ha.u,zt,j⟩
 ·rintro D U w hD o ag ⟨⟨ah,ai,aj,ak,al,an,ao,aq,ar,au,av,aw,ax,ae⟩,hv,ha,_,j⟩
  obtain⟨O,rfl⟩:=(ac (hv.at 21 rfl (o.1 rfl)) az).eO
  have j:=j.cC 11 (o.1 rfl)
  refine RL.bH a8.Y1 11 j cE ?_
  have j:=j.cD (hb:=o.1 rfl) 11 (D 21) aT
  exact RL.nil ⟨rfl,(ah,ai,aj,ak,al,an,ao,aq,ar,au,av,aw,ax,ae),hv.pu 22,ha.u,zt,j⟩
 ·rintro D U w hD o ag ⟨⟨ah,ai,aj,ak,al,an,ao,aq,ar,au,av,aw,ax,ae⟩,hv,ha,_,j⟩
  obtain⟨O,rfl⟩:=(ac (hv.at 5 rfl (o.1 rfl)) (ac (hv.at 9 rfl (o.2.1 rfl)) (ac (hv.at 15 rfl (o.2.2.1 rfl)) (ac (hv.at 22 rfl (o.2.2.2.1 rfl)) az)))).eO
  have j:=((((j.bN 12 hD).sc Int ba).sc Int a7.Y0).sc Int bb).sc Int a8.Y1
  refine RL.build (⟨ba,a7.Y0,bb,a8.Y1⟩:aI) trivial rfl j [(0,vi ba),(1,vi a7.Y0),(2,vi bb),(3,vi a8.Y1)] rfl AO rfl (fun M hs g=>by have h:=q9 M;exact dA.cons (f:=fun(x:aI) y=>{x with X0:=y}) h qc (g.sat 3 _ rfl).1 fun _ h=>dA.cons (f:=fun(x:aI) y=>{x with Y0:=y}) h th (g.sat 2 _ rfl).1 fun _ h=>dA.cons (f:=fun(x:aI) y=>{x with X1:=y}) h nC (g.sat 1 _ rfl).1 fun _ h=>dA.cons (f:=fun(x:aI) y=>{x with Y1:=y}) h qd (g.sat 0 _ rfl).1 fun _ h=>dA.nil h) fun b9 j=>?_
  have j:=(j.pl 21 [5,6,7,8,9,10,11,12,13,14,15,16,0,18,19,20]).cD 12 true aT
  exact RL.nil ⟨rfl,(ah,ai,aj,ak,al,an,ao,aq,ar,au,av,aw,b9,ae),hv.pu 23,ha.u,zt,j⟩
 ·rintro D U w hD o ag ⟨⟨ah,ai,aj,ak,al,an,ao,aq,ar,au,av,aw,ax,ae⟩,hv,ha,_,j⟩
  obtain⟨O,rfl⟩:=(az (U:=U)).eO
  have j:=(j.bN 13 (nh ag hD 25)).bN 13 hD
  refine RL.alloc j ni.z fun bk w j=>?_
  have j:=((j.pl 17 [1,2,3,4,5,6,7,8,9,10,11,12,13,0,15,16]).cD 13 true aT).eF 13 (D 25) (nh ag hD 25) (bx 46 bk (⟨ba,a7.Y0,bb,a8.Y1⟩:aI))
  exact RL.nil ⟨rfl,(ah,ai,aj,ak,al,an,ao,aq,ar,au,av,aw,ax,bk),hv.pu 24,ha.u,zt,j⟩
 ·rintro D U w hD o ag ⟨⟨ah,ai,aj,ak,al,an,ao,aq,ar,au,av,aw,ax,ae⟩,hv,ha,_,j⟩
  obtain⟨O,rfl⟩:=(ac (hv.at 23 rfl (o.2.1 rfl)) (ac (hv.at 24 rfl (o.1 rfl)) az)).eO
  have j:=((j.cC 12 (o.2.1 rfl)).bN 13 hD).cC 13 (o.1 rfl)
  refine RL.bJ 13 j 12 zr gW fun w j=>?_
  have j:=(j.cD (hb:=o.2.1 rfl) 12 (D 23) aT).cD 13 true (bif D 24 then (raw 46 ae 4) else aT)
  exact RL.nil ⟨rfl,(ah,ai,aj,ak,al,an,ao,aq,ar,au,av,aw,ax,ae),hv.n1,ha,zt,j⟩
 rintro D U w a5 ⟨⟨ah,ai,aj,ak,al,an,ao,aq,ar,au,av,aw,ax,ae⟩,hv,ha,_,j⟩
 have j:=((((((j.cC 0 (jO a5 1)).cC 1 (jO a5 2)).cC 2 (jO a5 3)).cC 3 (jO a5 4)).cC 4 (jO a5 7)).cC 5 (jO a5 8)).cC 6 (jO a5 11)
 have j:=((((((j.cC 7 (jO a5 12)).cC 8 (jO a5 13)).cC 9 (jO a5 14)).cC 10 (jO a5 20)).cC 11 (jO a5 21)).cC 12 (jO a5 23)).cC 13 (jO a5 25)
 obtain⟨O,rfl⟩:=(ac (hv.at 24 rfl (jO a5 24)) (ac (ha.at 0 rfl) (ac (ha.at 1 rfl) az))).eO
 refine aG (RC.seq (RC.sr (mv v0 (RL.bF 15 p0 j qA (mv (vi 0) (RL.nt ?_))))))
 obtain⟨af,hN,hb⟩:=bd hb
 refine RC.fold (fun(bf:Nat) (af:aI)=>SH E V [(2,vp bc 0),(3,vp ae 0),(30,v0),(31,vi p0.length),(32,vi bf)] [raw 46 bc 4,bx 46 ae af,rd v0 p0]) (fun(af:aI)=>SH E V [(2,vp bc 0),(3,vp ae 0)] [raw 46 bc 4,bx 46 ae af,rd v0 p0]) hN ?_ ?_ ?_ ?_
 ·exact j.sp 16 [14,13,15]
 ·rintro hm af _ w ⟨O,rfl,j⟩
  refine RC.sr (ic ((p0.length:Int)) ((p0.length:Int)) (RL.nq (RC.cY nb (RC.ex ?_))))
  exact⟨rfl,j.sp 3 [0,1,2]⟩
 ·rintro hm bf af s' _ w hk ⟨O,rfl,j⟩ hb
  refine RC.sr (ic ((bf:Int)) ((p0.length:Int)) (RL.nq (RC.cX (na hk) (RC.ss (RC.bs ?_)))))
  obtain⟨a9,cb,hb⟩:=bd hb
  refine RL.cF 2 j lR cb fun cc j=>(RL.bY 0 a9 j r8 fun cd j=>(RL.alloc j yj.z fun bg w j=>?_))
  refine RL.bJ 0 j 1 zr r8 fun w j=>?_
  refine RL.nt ?_
  obtain⟨a4,cf,hb⟩:=bd hb
  obtain⟨a6,cg,hb⟩:=bd hb
  refine RC.BO E V mixed [1,0,1,0,0,0,0,1,0,1,0,1,0,0,1,0,0,0,1,0,1,0] [3,4,10,12,15,19,21] (fun(x:Value×Value×Value×Value×Value)=>(fun ay a0 a1 a2 a3=>[(0,36,(vp ae 0)),(1,37,(vi af.X0)),(2,38,(vp bg 2)),(3,39,ay),(4,40,a0),(5,41,(vi a4)),(6,42,(vi (if a4<af.X0 then a4 else af.X0))),(7,43,(vp ae 2)),(8,44,(vi af.X1)),(9,45,(vp bg 2)),(10,46,a1),(11,47,(vp bg 2)),(12,48,a2),(13,49,(vi a9.Xs.length)),(14,50,(vi (IntKind.wrap .i64 ((a9.Xs.length:Int) - 1)))),(15,51,a3),(16,52,(vi a6)),(17,53,(vi (if af.X1<a6 then a6 else af.X1))),(18,54,(vp ae 0)),(20,55,(vp ae 2))]) x.1 x.2.1 x.2.2.1 x.2.2.2.1 x.2.2.2.2) [(2,vp bc 0),(3,vp ae 0),(5,vp bg 0),(30,v0),(31,vi p0.length),(32,vi bf)] [] (fun(D:Nat->Bool) (x:Value×Value×Value×Value×Value)=>(fun ay a0 a1 a2 a3=>[bif D 0 then (rd ay a9.Xs) else aT,bif D 1 then (pt a0 a4) else aT,bif D 2 then (rd a1 a9.Xs) else aT,bif D 3 then (rd a2 a9.Xs) else aT,bif D 4 then (pt a3 a6) else aT,bx 121 bg a9,rd cd a9,pt cc a9,raw 46 bc 4,bif D 6 then (bx 46 ae {{af with X0:=(if a4<af.X0 then a4 else af.X0)} with X1:=(if af.X1<a6 then a6 else af.X1)}) else (bif D 5 then (bx 46 ae {af with X0:=(if a4<af.X0 then a4 else af.X0)}) else (bx 46 ae af)),rd v0 p0]) x.1 x.2.1 x.2.2.1 x.2.2.2.1 x.2.2.2.2) (fun x=>by kernel_rfl) ?_ ⟨fun _=>mq gn iV,?_,fun _=>mq gn jm,?_,?_,?_,?_,fun _=>mq gn jE,?_,fun _=>mq gn jm,?_,fun _=>mq gn jm,?_,?_,fun _=>Da gn rfl,?_,?_,?_,fun _=>mq gn iV,?_,fun _=>mq gn jE,?_,trivial⟩ ?_
  ·have j:=(((((j.drew).aT).aT).aT).aT).aT
   exact⟨(undef,undef,undef,undef,undef),dU.none,(AF zr),zt,j⟩
  ·rintro D U w hD o ag ⟨⟨ay,a0,a1,a2,a3⟩,hv,ha,_,j⟩
   obtain⟨O,rfl⟩:=(ac (hv.at 0 rfl (o.1 rfl)) az).eO
   have j:=(j.bN 9 (nh ag hD 21)).bN 9 (nh ag hD 19)
   refine RL.aM 9 j zr eH cE ?_
   have j:=(j.eF 9 (D 19) (nh ag hD 19) (bx 46 ae {af with X0:=(if a4<af.X0 then a4 else af.X0)})).eF 9 (D 21) (nh ag hD 21) (bx 46 ae {{af with X0:=(if a4<af.X0 then a4 else af.X0)} with X1:=(if af.X1<a6 then a6 else af.X1)})
   exact RL.nil ⟨rfl,(ay,a0,a1,a2,a3),hv.pu 1,ha.u,zt,j⟩
  ·rintro D U w hD o ag ⟨⟨ay,a0,a1,a2,a3⟩,hv,ha,_,j⟩
   obtain⟨O,rfl⟩:=(ac (hv.at 2 rfl (o.1 rfl)) az).eO
   have j:=j.bN 0 hD
   refine RL.aZ 5 j zr cN eJ fun ch j=>?_
   have j:=(j.pl 12 [0,2,3,4,5,6,7,8,9,10,11]).cD 0 true aT
   exact RL.nil ⟨rfl,(ch,a0,a1,a2,a3),hv.pu 3,ha.u,zt,j⟩
  ·rintro D U w hD o ag ⟨⟨ay,a0,a1,a2,a3⟩,hv,ha,_,j⟩
   obtain⟨O,rfl⟩:=(ac (hv.at 3 rfl (o.1 rfl)) az).eO
   have j:=(j.cC 0 (o.1 rfl)).bN 1 hD
   refine RL.cF 0 j eC cf fun cj j=>?_
   have j:=((j.pl 12 [1,0,3,4,5,6,7,8,9,10,11]).cD (hb:=o.1 rfl) 0 (D 3) aT).cD 1 true aT
   exact RL.nil ⟨rfl,(ay,cj,a1,a2,a3),hv.pu 4,ha.u,zt,j⟩
  ·rintro D U w hD o ag ⟨⟨ay,a0,a1,a2,a3⟩,hv,ha,_,j⟩
   obtain⟨O,rfl⟩:=(ac (hv.at 4 rfl (o.1 rfl)) az).eO
   have j:=j.cC 1 (o.1 rfl)
   refine RL.bH a4 1 j cE ?_
   have j:=j.cD (hb:=o.1 rfl) 1 (D 4) aT
   exact RL.nil ⟨rfl,(ay,a0,a1,a2,a3),hv.pu 5,ha.u,zt,j⟩
  ·rintro D U w hD o ag ⟨⟨ay,a0,a1,a2,a3⟩,hv,ha,_,j⟩
   obtain⟨O,rfl⟩:=(ac (hv.at 1 rfl (o.1 rfl)) (ac (hv.at 5 rfl (o.2.1 rfl)) az)).eO
   refine RL.min af.X0 a4 ?_
   exact RL.nil ⟨rfl,(ay,a0,a1,a2,a3),hv.pu 6,ha.u,zt,j⟩
  ·rintro D U w hD o ag ⟨⟨ay,a0,a1,a2,a3⟩,hv,ha,_,j⟩
   obtain⟨O,rfl⟩:=(ac (hv.at 7 rfl (o.1 rfl)) az).eO
   have j:=(j.bN 9 (nh ag hD 21)).bN 9 (nh ag hD 19)
   refine RL.aM 9 j zr fD cE ?_
   have j:=(j.eF 9 (D 19) (nh ag hD 19) (bx 46 ae {af with X0:=(if a4<af.X0 then a4 else af.X0)})).eF 9 (D 21) (nh ag hD 21) (bx 46 ae {{af with X0:=(if a4<af.X0 then a4 else af.X0)} with X1:=(if af.X1<a6 then a6 else af.X1)})
   exact RL.nil ⟨rfl,(ay,a0,a1,a2,a3),hv.pu 8,ha.u,zt,j⟩
  ·rintro D U w hD o ag ⟨⟨ay,a0,a1,a2,a3⟩,hv,ha,_,j⟩
   obtain⟨O,rfl⟩:=(ac (hv.at 9 rfl (o.1 rfl)) az).eO
   have j:=j.bN 2 hD
   refine RL.aZ 5 j zr cN eJ fun ck j=>?_
   have j:=(j.pl 12 [1,2,0,4,5,6,7,8,9,10,11]).cD 2 true aT
   exact RL.nil ⟨rfl,(ay,a0,ck,a2,a3),hv.pu 10,ha.u,zt,j⟩
  ·rintro D U w hD o ag ⟨⟨ay,a0,a1,a2,a3⟩,hv,ha,_,j⟩
   obtain⟨O,rfl⟩:=(ac (hv.at 11 rfl (o.1 rfl)) az).eO
   have j:=j.bN 3 hD
   refine RL.aZ 5 j zr cN eJ fun cl j=>?_
   have j:=(j.pl 12 [1,2,3,0,5,6,7,8,9,10,11]).cD 3 true aT
   exact RL.nil ⟨rfl,(ay,a0,a1,cl,a3),hv.pu 12,ha.u,zt,j⟩
  ·rintro D U w hD o ag ⟨⟨ay,a0,a1,a2,a3⟩,hv,ha,_,j⟩
   obtain⟨O,rfl⟩:=(ac (hv.at 12 rfl (o.1 rfl)) az).eO
   have j:=j.cC 3 (o.1 rfl)
   refine RL.bF 3 a9.Xs j ln ?_
   have j:=j.cD (hb:=o.1 rfl) 3 (D 12) aT
   exact RL.nil ⟨rfl,(ay,a0,a1,a2,a3),hv.pu 13,ha.u,zt,j⟩
  ·rintro D U w hD o ag ⟨⟨ay,a0,a1,a2,a3⟩,hv,ha,_,j⟩
   obtain⟨O,rfl⟩:=(ac (hv.at 10 rfl (o.1 rfl)) (ac (hv.at 14 rfl (o.2.1 rfl)) az)).eO
   have j:=(j.cC 2 (o.1 rfl)).bN 4 hD
   refine RL.cF 2 j eC cg fun cm j=>?_
   have j:=((j.pl 12 [1,2,3,4,0,6,7,8,9,10,11]).cD (hb:=o.1 rfl) 2 (D 10) aT).cD 4 true aT
   exact RL.nil ⟨rfl,(ay,a0,a1,a2,cm),hv.pu 15,ha.u,zt,j⟩
  ·rintro D U w hD o ag ⟨⟨ay,a0,a1,a2,a3⟩,hv,ha,_,j⟩
   obtain⟨O,rfl⟩:=(ac (hv.at 15 rfl (o.1 rfl)) az).eO
   have j:=j.cC 4 (o.1 rfl)
   refine RL.bH a6 4 j cE ?_
   have j:=j.cD (hb:=o.1 rfl) 4 (D 15) aT
   exact RL.nil ⟨rfl,(ay,a0,a1,a2,a3),hv.pu 16,ha.u,zt,j⟩
  ·rintro D U w hD o ag ⟨⟨ay,a0,a1,a2,a3⟩,hv,ha,_,j⟩
   obtain⟨O,rfl⟩:=(ac (hv.at 8 rfl (o.1 rfl)) (ac (hv.at 16 rfl (o.2.1 rfl)) az)).eO
   refine RL.max af.X1 a6 ?_
   exact RL.nil ⟨rfl,(ay,a0,a1,a2,a3),hv.pu 17,ha.u,zt,j⟩
  ·rintro D U w hD o ag ⟨⟨ay,a0,a1,a2,a3⟩,hv,ha,_,j⟩
   obtain⟨O,rfl⟩:=(ac (hv.at 6 rfl (o.2.1 rfl)) (ac (hv.at 18 rfl (o.1 rfl)) az)).eO
   have j:=((j.bN 9 (nh ag hD 21)).bN 9 hD).sc Int (if a4<af.X0 then a4 else af.X0)
   refine RL.xJ 10 zt j zr zr zr 0 zr qc cE fun w j=>?_
   have j:=((j.pl 12 [1,2,3,4,5,6,7,8,9,10,11]).cD 9 true (bx 46 ae af)).eF 9 (D 21) (nh ag hD 21) (bx 46 ae {{af with X0:=(if a4<af.X0 then a4 else af.X0)} with X1:=(if af.X1<a6 then a6 else af.X1)})
   exact RL.nil ⟨rfl,(ay,a0,a1,a2,a3),hv.n1,ha,zt,j⟩
  ·rintro D U w hD o ag ⟨⟨ay,a0,a1,a2,a3⟩,hv,ha,_,j⟩
   obtain⟨O,rfl⟩:=(ac (hv.at 17 rfl (o.2.1 rfl)) (ac (hv.at 19 rfl (o.1 rfl)) az)).eO
   have j:=((j.bN 9 hD).cC 9 (o.2.2.1 rfl)).sc Int (if af.X1<a6 then a6 else af.X1)
   refine RL.xJ 10 zt j zr zr zr 0 zr nC cE fun w j=>?_
   have j:=(j.pl 12 [1,2,3,4,5,6,7,8,9,10,11]).cD 9 true (bif D 19 then (bx 46 ae {af with X0:=(if a4<af.X0 then a4 else af.X0)}) else (bx 46 ae af))
   exact RL.nil ⟨rfl,(ay,a0,a1,a2,a3),hv.n1,ha,zt,j⟩
  rintro D U w a5 ⟨⟨ay,a0,a1,a2,a3⟩,hv,ha,_,j⟩
  have j:=(((((j.cC 0 (jO a5 3)).cC 1 (jO a5 4)).cC 2 (jO a5 10)).cC 3 (jO a5 12)).cC 4 (jO a5 15)).cC 9 (jO a5 21)
  obtain⟨O,rfl⟩:=(ac (ha.at 0 rfl) (ac (ha.at 1 rfl) (ac (ha.at 2 rfl) (ac (ha.at 3 rfl) (ac (ha.at 4 rfl) (ac (ha.at 5 rfl) az)))))).eO
  refine bT (aG (RC.region (RL.inc hk hm (mv (vi ((bf+1:Nat):Int)) (RL.nil ?_)))))
  obtain rfl:=oi hb
  exact⟨rfl,j.sp 11 [8,9,10]⟩
 rintro _ w ⟨O,rfl,j⟩
 refine aG (RC.sr (RL.aZ (f:=(fun x=>x)) 1 j zr Fd.self gW fun cn j=>(RL.bJ 1 j 0 zr gW fun w j=>?_)))
 refine RL.nt (RC.ret ?_)
 obtain rfl:=oi hb
 exact D3 1 zr j zr zr gW fun cp j=>(j.pk 5 [0])
theorem sm {p0: (List aA)} {res:Bool} (j:Holds E w V) (h0:V[i0]? =some (rd v0 p0)) (hb:jz N p0=some res):
    Calls bC 63 [v0].toArray w (gE (bB E V res)):=by
 unfold jz at hb
 refine enter Tryz.func63 zr zr ?_
 have j:=j.dup (i0+0) h0
 refine RC.sr (aP (vb false) (RL.nq ?_))
 obtain⟨ad,o,hb⟩:=bd hb
 refine RC.jn (fun(ad:Bool)=>SH E V [(2,vb ad)] []) ad ?_ ?_
 ·refine RC.region (mv v0 (RL.bF 0 p0 j qA (ic ((p0.length:Int)) 0 (mv (vb ((p0.length:Int)==0)) (gC o (fun aa o=>?_) fun aa o=>?_)))))
  ·refine bV aa (bV aa (bV aa (gF aa (vb true) (aP (vb true) (RL.nil ?_)))))
   obtain rfl:=oi o
   exact⟨rfl,j.sp 1 []⟩
  refine RL.move v0 (cg aa) ?_
  obtain⟨ai,af,o⟩:=bd o
  refine RL.call (cg aa) zr GK [v0] zr (aF (qG N (i0:=0) j zr af) ?_)
  rintro ag w j
  obtain⟨ae,ah,o⟩:=bd o
  refine RL.call (cg aa) zr E2 [ag] zr (aF (oJ N (i0:=0) j zr ah) ?_)
  rintro _ w ⟨rfl,j⟩
  refine gF aa (vb ae) (aP (vb ae) (RL.nil ?_))
  obtain rfl:=oi o
  exact⟨rfl,j.sp 2 []⟩
 rintro _ w ⟨O,rfl,j⟩
 refine aG (RC.ret ?_)
 obtain rfl:=oi hb
 exact cB ⟨rfl,j.drop 0⟩
def t9 (E:World) (V:List HP) (res:aI×Int) (v:Value) (w:World):Prop:=∃u0:Value,v = .tuple #[u0,(vi res.2)]/\Holds E w ([rd u0 res.1]++V)
theorem tv {p0:bU} {res:aI×Int} (j:Holds E w V) (h0:V[i0]? =some (rd v0 p0)) (o:ja N p0=some res):
    Calls bC 35 [v0].toArray w (gE (t9 E V res)):=by
 unfold ja at o
 refine enter Tryz.func35 zr zr ?_
 have j:=j.dup (i0+0) h0
 refine RC.sr (RL.dC 0 v0 j zr fun af w j=>?_)
 refine RL.alloc j ni.z fun ag w j=>?_
 refine aP (vi 0) (RL.nq (RC.seq ?_))
 obtain⟨ad,hj,o⟩:=bd o
 refine RC.jn (fun(ad:Bool)=>SH E V [(1,vp af 0),(2,vp ag 0),(14,vb ad)] [bx 61 af p0,raw 46 ag 4]) ad ?_ ?_
 ·refine RC.region (RL.bA zr uM (RL.aM 1 j zr nE cE ?_))
  obtain⟨ah,aj,hj⟩:=bd hj
  refine RL.call zt zr Dc [(vi p0.eB),(vi 1),(vi 10000)] zr (aF (j3 N (p0:=p0.eB) (p1:=1) (p2:=10000) j aj) ?_)
  rintro _ w ⟨rfl,j⟩
  refine RL.not ah (mv (vb (!ah)) (gC hj (fun aa hj=>?_) fun aa hj=>?_))
  ·refine bV aa (bV aa (bV aa (bV aa (gF aa (vb true) (RL.nil ?_)))))
   obtain rfl:=oi hj
   exact⟨rfl,j.sp 3 [1,0]⟩
  refine RL.bA (hg:=(cg aa)) zr ze (RL.aZ (hg:=(cg aa)) 1 j zr tj Dd fun ak j=>?_)
  obtain⟨ai,al,hj⟩:=bd hj
  refine RL.call (cg aa) zr E9 [ak] zr (aF (nK N (i0:=0) j zr al) ?_)
  rintro _ w ⟨rfl,j⟩
  refine RL.not (hg:=(cg aa)) ai (gF aa (vb (!ai)) (RL.nil ?_))
  obtain rfl:=oi hj
  exact⟨rfl,j.sp 4 [2,1]⟩
 rintro _ w ⟨O,rfl,j⟩
 refine aG (fE o (fun hc o=>?_) fun hc o=>?_)
 ·refine RC.sr (RL.build (⟨0,0,0,0⟩:aI) trivial rfl j [] rfl AO rfl (fun M hs g=>by have h:=q9 M;exact dA.nil h) fun a2 j=>?_)
  refine RL.bJ 2 j 0 zr gW fun w j=>?_
  refine aP (vi 1) (RL.nt (RC.rt ?_))
  obtain rfl:=oi o
  exact vY 2 j gW fun an j=>⟨an,zr,j.pk 4 [0]⟩
 refine RC.sx (RL.aZ (f:=(fun x=>x)) 0 j zr Fd.self mN fun ao j=>?_)
 obtain⟨aq,ar,o⟩:=bd o
 refine RL.call zt zr AQ [ao] zr (aF (fN N (i0:=0) j zr ar) ?_)
 rintro a3 w j
 refine RL.alloc j ni.z fun a4 w j=>?_
 refine RL.bJ 0 j 1 zr gW fun w j=>?_
 refine RL.nq (RC.sr (RL.aZ (f:=(fun x=>x)) 0 j zr Fd.self gW fun au j=>(RL.fy ([aq]: (List aI)) j [au] kN ni (fun M hs g=>⟨(g.sat 0 _ zr).1,zt⟩) fun av w j=>?_)))
 have j:=j.freeze 0
 obtain⟨a5,aw,o⟩:=bd o
 refine RL.call zt zr BX [av] zr (aF (jH N (i0:=0) j zr aw) ?_)
 rintro ax w j
 have j:=j.freeze 0
 obtain⟨ay,az,o⟩:=bd o
 refine RL.call zt zr GL [ax] zr (aF (sm N (i0:=0) j zr az) ?_)
 rintro _ w ⟨rfl,j⟩
 refine RL.not ay (RL.nt (fE o (fun hc o=>?_) fun hc o=>?_))
 ·refine RC.sr (RL.build (⟨0,0,0,0⟩:aI) trivial rfl j [] rfl AO rfl (fun M hs g=>by have h:=q9 M;exact dA.nil h) fun a6 j=>?_)
  refine RL.bJ 8 j 0 zr gW fun w j=>?_
  refine aP (vi 1) (RL.nt (RC.rt ?_))
  obtain rfl:=oi o
  exact vY 8 j gW fun a0 j=>⟨a0,zr,j.pk 10 [0]⟩
 refine RC.sx (RL.aZ (f:=(fun x=>x)) 3 j zr Fd.self gW fun a7 j=>(RL.bJ 8 j 0 zr gW fun w j=>?_))
 refine aP (vi 0) (RL.nt (RC.ret ?_))
 obtain rfl:=oi o
 exact vY 8 j gW fun a1 j=>⟨a1,zr,j.pk 10 [0]⟩
def qH (E:World) (V:List HP) (r:Int) (U:Nat->Value) (w:World):Prop:=lM bC 47 Tryz.f12 (aO E V r) .ret U w
theorem pr {p0:jS} (j:Holds E w V) (h0:V[i0]? =some (rd v0 p0)) (o:hU N p0=some res):
    Calls bC 12 [v0].toArray w (gE (aO E V res)):=by
 unfold hU at o
 refine enter Tryz.func12 zr zr ?_
 have j:=j.dup (i0+0) h0
 refine RC.sr (RL.dC 0 v0 j zr fun a0 w j=>?_)
 refine aP (vi 0) (RL.nq (RC.sr (RL.bA zr lq (RL.aZ 0 j zr o9 tn fun a1 j=>(RL.bF 0 p0.aS j uL (ic ((p0.aS.length:Int)) 500 (RL.nt (fE o (fun hc o=>?_) fun hc o=>?_))))))))
 ·refine RC.sr (aP (vi 2) (RL.nt (RC.rt ?_)))
  obtain rfl:=oi o
  exact cB ⟨rfl,j.drop 3⟩
 refine RC.sx (RL.bA zr tm (RL.aZ 1 j zr nF AK fun a2 j=>(RL.bF 0 p0.aJ j yi (aP (vi p0.aJ.length) (RL.nq (RC.sr (RL.bA zr lq (RL.aZ 2 j zr o9 tn fun ag j=>?_))))))))
 refine RL.bF 0 p0.aS j uL (mv (vi 0) (RL.nt ?_))
 obtain⟨a3,hN,o⟩:=bd o
 refine RC.range (fun(ah:Nat) (ai:Unit)=>SH E V [(3,vi p0.aJ.length),(16,ag),(17,vi p0.aS.length),(18,vi ah)] [rd ag p0.aS]) (fun(ai:Unit)=>SH E V [] [rd ag p0.aS]) (qH E V) hN ?_ ?_ ?_ ?_ ?_
 ·exact j.sp 5 [0]
 ·rintro hm ai _ w ⟨O,rfl,j⟩
  refine RC.sr (ic ((p0.aS.length:Int)) ((p0.aS.length:Int)) (RL.nq (RC.cY nb (RC.ex ?_))))
  exact⟨rfl,j.sp 1 [0]⟩
 ·rintro hm ah ai fl _ w hk ⟨O,rfl,j⟩ o
  refine RC.sr (ic ((ah:Int)) ((p0.aS.length:Int)) (RL.nq (RC.cX (na hk) (RC.ss (RC.bs ?_)))))
  obtain⟨ad,au,o⟩:=bd o
  refine RL.cF 0 j w4 au fun a5 j=>(RL.bY 0 ad j mN fun a6 j=>(RL.alloc j AP.z fun a7 w j=>?_))
  refine RL.bJ 0 j 1 zr mN fun w j=>?_
  refine RL.nq (RC.sr (RL.aZ (f:=(fun x=>x)) 0 j zr Fd.self mN fun av j=>?_))
  obtain⟨ae,aw,o⟩:=bd o
  refine RL.call zt zr GM [av] zr (aF (tv N (i0:=0) j zr aw) ?_)
  rintro _ w ⟨an,rfl,j⟩
  refine mv (.tuple #[an,(vi ae.2)]) (RL.extract an (RL.extract (vi ae.2) (RL.alloc j ni.z fun a8 w j=>?_)))
  refine RL.bJ 0 j 1 zr gW fun w j=>?_
  refine aP (vi ae.2) (RL.ns (mv (vi ae.2) (ic ae.2 0 (RL.nt (fE o (fun hc o=>?_) fun hc o=>?_)))))
  ·refine RC.sr (mv (vi ae.2) (aP (vi ae.2) (RL.nt (RC.rt (lj (bZ ?_))))))
   obtain rfl:=oi o
   exact⟨rfl,cB ⟨rfl,j.drop 7⟩⟩
  refine RC.ss ?_
  obtain⟨aj,hj,o⟩:=bd o
  refine RC.jn (fun(aj:Bool)=>SH E V [(3,vi p0.aJ.length),(16,ag),(17,vi p0.aS.length),(18,vi ah),(45,vb aj)] [rd ag p0.aS]) aj ?_ ?_
  ·refine RC.region (RL.bA zr ra (RL.aM 3 j zr lk cE (mv (vi p0.aJ.length) (RL.jq (p0.aJ.length:Int) 1 ?_))))
   obtain⟨ao,ax,hj⟩:=bd hj
   refine RL.call zt zr Dc [(vi ad.cK),(vi 0),(vi (IntKind.wrap .i64 ((p0.aJ.length:Int) - 1)))] zr (aF (j3 N (p0:=ad.cK) (p1:=0) (p2:=(IntKind.wrap .i64 ((p0.aJ.length:Int) - 1))) j ax) ?_)
   rintro _ w ⟨rfl,j⟩
   refine RL.not ao (mv (vb (!ao)) (gC hj (fun aa hj=>?_) fun aa hj=>?_))
   ·refine bV aa (bV aa (bV aa (bV aa (bV aa (bV aa (bV aa (bV aa (gF aa (vb true) ?_))))))))
    refine RL.nil ?_
    obtain rfl:=oi hj
    exact⟨rfl,j.sp 7 [6]⟩
   refine RL.bA (hg:=(cg aa)) zr tp (RL.aM (hg:=(cg aa)) 3 j zr mg cE (RL.bA (hg:=(cg aa)) zr ra (RL.aM (hg:=(cg aa)) 3 j zr lk cE (RL.move (vi p0.aJ.length) (cg aa) (RL.jq (hg:=(cg aa)) (p0.aJ.length:Int) 1 ?_)))))
   obtain⟨aq,ay,hj⟩:=bd hj
   refine RL.call (cg aa) zr Dc [(vi ad.To),(vi ad.cK),(vi (IntKind.wrap .i64 ((p0.aJ.length:Int) - 1)))] zr (aF (j3 N (p0:=ad.To) (p1:=ad.cK) (p2:=(IntKind.wrap .i64 ((p0.aJ.length:Int) - 1))) j ay) ?_)
   rintro _ w ⟨rfl,j⟩
   refine RL.not (hg:=(cg aa)) aq (gF aa (vb (!aq)) (RL.nil ?_))
   obtain rfl:=oi hj
   exact⟨rfl,j.sp 7 [6]⟩
  rintro _ w ⟨O,rfl,j⟩
  refine aG (fE o (fun hc o=>?_) fun hc o=>?_)
  rotate_left
  ·refine RC.skip (bT (aG (RC.region (RL.inc hk hm (mv (vi ((ah+1:Nat):Int)) (RL.nil ?_))))))
   obtain rfl:=oi o
   exact⟨rfl,j.sp 1 [0]⟩
  refine RC.sr (aP (vi 1) (RL.nt (RC.rb (bZ ?_))))
  obtain rfl:=oi o
  exact⟨rfl,cB ⟨rfl,j.drop 1⟩⟩
 ·intro r U w e hK
  subst e
  refine bZ ?_
  obtain rfl:=oi o
  exact hK
 rintro ai _ w rfl ⟨O,rfl,j⟩
 rw [Fo.gm] at o
 refine aG (RC.sr (aP (vi 0) (RL.nt (RC.ret ?_))))
 obtain rfl:=oi o
 exact cB ⟨rfl,j.drop 1⟩
theorem kc {p0:cS} (o:Holds E w V) (j:fK N p0 p1=some res):
    Calls bC 83 [(str p0),(.int .u8 p1)].toArray w (gE (aO E V res)):=by
 unfold fK at j
 refine enter Tryz.func83 zr zr (RC.sr (aP (vi 0) (RL.ns (mv (str p0) (mv (.int .u8 p1) (RL.uw (vi (Lib.indexByte p0.cA (Int.toNat p1).toUInt8)) zr [(str p0),(.int .u8 p1)] zr (GP p0 p1 w) (aP (vi (Lib.indexByte p0.cA (Int.toNat p1).toUInt8)) (RL.nt ?_))))))))
 refine RC.ret ?_
 obtain rfl:=oi j
 exact cB ⟨rfl,o.drop 0⟩
theorem pw {p0 p1:cS} (o:Holds E w V) (j:hZ N p0 p1=some res):
    Calls bC 124 [(str p0),(str p1)].toArray w (gE (aO E V res)):=by
 unfold hZ at j
 refine enter Tryz.func124 zr zr (RC.sr (aP (vi 0) (RL.ns (mv (str p1) (RL.lens p1 yk (aP (vi p1.cA.length) (RL.nq (RC.bs ?_))))))))
 refine mv (vi p1.cA.length) (ic ((p1.cA.length:Int)) 0 (mv (vb ((p1.cA.length:Int)==0)) (RL.gs true ((p1.cA.length:Int)==0) (str p1) rfl rfl rfl dD (RL.gs true ((p1.cA.length:Int)==0) (str p0) rfl rfl rfl dD (RL.gs true ((p1.cA.length:Int)==0) (vb (p1.yV p0)) rfl rfl rfl (CV (bop:= .eql) (a:=p1) (b:=p0) rfl (fun h=>by exact(cI h:cv (true&&(((p1.cA.length:Int)==0)==false)) (str p1)= (str p1))) (fun h=>by exact(cI h:cv (true&&(((p1.cA.length:Int)==0)==false)) (str p0)= (str p0))) rfl) (RL.pick ((p1.cA.length:Int)==0) (vb (((p1.cA.length:Int)==0)||(p1.yV p0))) (oF true rfl) (aP (vb (((p1.cA.length:Int)==0)||(p1.yV p0))) (RL.nt ?_))))))))
 refine fE j (fun hc j=>?_) fun hc j=>?_
 ·refine RC.sr (aP (vi 0) (RL.nt (RC.rb (bZ ?_))))
  obtain rfl:=oi j
  exact cB ⟨rfl,o.drop 0⟩
 refine RC.sr (mv (vi p1.cA.length) (ic ((p1.cA.length:Int)) 1 (aP (vb ((p1.cA.length:Int)==1)) (RL.nt (fE j (fun hc j=>?_) fun hc j=>?_)))))
 ·refine RC.sr (mv (str p0) (mv (str p1) ?_))
  obtain⟨ab,ad,j⟩:=bd j
  refine RL.idxs p1 0 ab zr zr zr yk ad ?_
  obtain⟨ae,af,j⟩:=bd j
  refine RL.call zt zr Fa [(str p0),(.int .u8 (ab.toNat:Int))] zr (aF (kc N (p0:=p0) (p1:=(ab.toNat:Int)) o af) ?_)
  rintro _ w ⟨rfl,o⟩
  refine aP (vi ae) (RL.nt (RC.rb (bZ ?_)))
  obtain rfl:=oi j
  exact cB ⟨rfl,o.drop 0⟩
 refine RC.sr (mv (vi p1.cA.length) (mv (str p0) (RL.lens p0 yk (ic ((p1.cA.length:Int)) ((p0.cA.length:Int)) (aP (vb (decide ((p1.cA.length:Int)>=(p0.cA.length:Int)))) (RL.nt (fE j (fun hc j=>?_) fun hc j=>?_)))))))
 rotate_left
 ·cases j
 refine RC.sr (aP (vi (-1)) (RL.nt (RC.rb (bZ ?_))))
 obtain rfl:=oi j
 exact cB ⟨rfl,o.drop 0⟩
theorem nL {p0 p1:cS} (o:Holds E w V) (j:jc N p0 p1=some res):
    Calls bC 110 [(str p0),(str p1)].toArray w (gE (aO E V res)):=by
 unfold jc at j
 refine enter Tryz.func110 zr zr (RC.sr (aP (vi 0) (RL.ns (mv (str p0) (mv (str p1) ?_)))))
 obtain⟨aa,ab,j⟩:=bd j
 refine RL.call zt zr Fb [(str p0),(str p1)] zr (aF (pw N (p0:=p0) (p1:=p1) o ab) ?_)
 rintro _ w ⟨rfl,o⟩
 refine aP (vi aa) (RL.nt (RC.ret ?_))
 obtain rfl:=oi j
 exact cB ⟨rfl,o.drop 0⟩
def uc (E:World) (V:List HP) (r:Int) (U:Nat->Value) (w:World):Prop:=lM bC 34 Tryz.f109 (aO E V r) .ret U w
theorem tw {p0 p1:cS} (hw:Holds E w V) (j:j9 N p0 p1=some res):
    Calls bC 109 [(str p0),(str p1)].toArray w (gE (aO E V res)):=by
 unfold j9 at j
 refine enter Tryz.func109 zr zr (RC.sr (aP (vi 0) (RL.nq (RC.sr (mv (str p1) (RL.lens p1 yk (ic ((p1.cA.length:Int)) 0 (RL.nt ?_))))))))
 refine fE j (fun hc j=>?_) fun hc j=>?_
 ·cases j
 refine RC.ss (RC.sr (mv (str p1) (RL.lens p1 yk (ic ((p1.cA.length:Int)) 1 (RL.nt (fE j (fun hc j=>?_) fun hc j=>?_))))))
 ·refine RC.sr (mv (str p0) (mv (str p1) ?_))
  obtain⟨ad,af,j⟩:=bd j
  refine RL.idxs p1 0 ad zr zr zr yk af (RL.uw (vi ((Lib.countByte p0.cA (Int.toNat (ad.toNat:Int)).toUInt8:Nat):Int)) zr [(str p0),(.int .u8 (ad.toNat:Int))] zr (GO p0 (ad.toNat:Int) w) (aP (vi ((Lib.countByte p0.cA (Int.toNat (ad.toNat:Int)).toUInt8:Nat):Int)) (RL.nt (RC.rt ?_))))
  obtain rfl:=oi j
  exact cB ⟨rfl,hw.drop 0⟩
 refine RC.sx (aP (vi 0) (RL.nt ?_))
 obtain⟨al,hN,j⟩:=bd j
 refine RC.iter (fun(o:cS×Int)=>SH E V [(0,(str o.1)),(1,(str p1)),(4,vi 0),(5,vi o.2)] []) (fun(o:cS×Int)=>SH E V [(4,vi 0)] []) (uc E V) hN ?_ ?_ ?_ ?_
 ·exact hw.sp 0 []
 ·rintro o fl _ w ⟨O,rfl,hw⟩ j
  refine RC.bs (mv (str o.1) (mv (str p1) ?_))
  obtain⟨ae,ah,j⟩:=bd j
  refine RL.call zt zr DL [(str o.1),(str p1)] zr (aF (nL N (p0:=o.1) (p1:=p1) hw ah) ?_)
  rintro _ w ⟨rfl,hw⟩
  refine aP (vi ae) (RL.nq (RC.sr (mv (vi ae) (ic ae ((-1)) (RL.nt (fE j (fun hc j=>?_) fun hc j=>?_))))))
  ·refine RC.sr (mv (vi o.2) (aP (vi o.2) (RL.nt (RC.rt (lj ?_)))))
   obtain rfl:=oi j
   exact⟨rfl,cB ⟨rfl,hw.drop 0⟩⟩
  refine RC.sx (mv (vi o.2) (RL.jq o.2 1 (aP (vi (IntKind.wrap .i64 (o.2+1))) (RL.nt (RC.region (mv (str o.1) (mv (vi ae) (mv (str p1) ?_))))))))
  refine RL.lens p1 yk (RL.jq ae (p1.cA.length:Int) ?_)
  obtain⟨ai,aj,j⟩:=bd j
  refine RL.q6 o.1 zr zr yk (.inl zr) (.inr ⟨rfl,zr⟩) aj (aP (str ai) (RL.nil (bT ?_)))
  obtain rfl:=oi j
  exact⟨rfl,hw.sp 0 []⟩
 ·intro r U w e hK
  subst e
  obtain rfl:=oi j
  exact hK
 rintro o _ w rfl ⟨O,rfl,hw⟩
 rw [Fo.gm] at j
 obtain rfl:=oi j
 refine xF ?_
 exact cB ⟨rfl,hw.drop 0⟩
theorem qI {p0 p1:cS} {res: (List cS)} (o:Holds E w V) (j:jW N p0 p1 p2 p3=some res):
    Calls bC 82 [(str p0),(str p1),(vi p2),(vi p3)].toArray w (gE (mz E V res)):=by
 unfold jW at j
 refine enter Tryz.func82 zr zr (RC.sr (aP (.slice none 0 0) (RL.nq (RC.sr (mv (vi p3) (ic p3 0 (RL.nt (fE j (fun hc j=>?_) fun hc j=>?_))))))))
 ·refine RC.sr (aP (.slice none 0 0) (RL.nt (RC.rt ?_)))
  obtain rfl:=oi j
  have o:=o.dP cS 9
  exact cB (o.pk 1 [0])
 refine RC.ss (RC.sr (mv (str p1) (RL.Ax (a:=p1) (b:=⟨[]⟩) zt zr zr zr zr (RL.nt (fE j (fun hc j=>?_) fun hc j=>?_)))))
 ·cases j
 refine RC.ss (RC.sr (mv (vi p3) (ic p3 0 (RL.nt ?_))))
 obtain⟨ab,hj,j⟩:=bd j
 refine RC.jn (fun(ab:Int)=>SH E V [(0,(str p0)),(1,(str p1)),(2,vi p2),(3,vi ab)] []) ab ?_ ?_
 ·refine fE hj (fun hc hj=>?_) fun hc hj=>?_
  rotate_left
  ·refine RC.skip ?_
   obtain rfl:=oi hj
   exact⟨rfl,o.sp 0 []⟩
  refine RC.region (mv (str p0) (mv (str p1) ?_))
  obtain⟨aj,ak,hj⟩:=bd hj
  refine RL.call zt zr Fc [(str p0),(str p1)] zr (aF (tw N (p0:=p0) (p1:=p1) o ak) ?_)
  rintro _ w ⟨rfl,o⟩
  refine RL.jq aj 1 (aP (vi (IntKind.wrap .i64 (aj+1))) (RL.nil ?_))
  obtain rfl:=oi hj
  exact⟨rfl,o.sp 0 []⟩
 rintro _ w ⟨O,rfl,o⟩
 refine aG (RC.sr (mv (vi ab) (mv (str p0) (RL.lens p0 yk (RL.jq (p0.cA.length:Int) 1 (RL.min ab (IntKind.wrap .i64 ((p0.cA.length:Int)+1)) (aP (vi (if (IntKind.wrap .i64 ((p0.cA.length:Int)+1))<ab then (IntKind.wrap .i64 ((p0.cA.length:Int)+1)) else ab)) (RL.ns ?_))))))))
 refine mv (vi (if (IntKind.wrap .i64 ((p0.cA.length:Int)+1))<ab then (IntKind.wrap .i64 ((p0.cA.length:Int)+1)) else ab)) ?_
 obtain⟨ay,al,j⟩:=bd j
 refine RL.mk (if (IntKind.wrap .i64 ((p0.cA.length:Int)+1))<ab then (IntKind.wrap .i64 ((p0.cA.length:Int)+1)) else ab) o Fe H4 al fun ae w o=>?_
 refine aP ae (RL.ns (mv (vi (if (IntKind.wrap .i64 ((p0.cA.length:Int)+1))<ab then (IntKind.wrap .i64 ((p0.cA.length:Int)+1)) else ab)) (RL.jq (if (IntKind.wrap .i64 ((p0.cA.length:Int)+1))<ab then (IntKind.wrap .i64 ((p0.cA.length:Int)+1)) else ab) 1 (aP (vi (IntKind.wrap .i64 ((if (IntKind.wrap .i64 ((p0.cA.length:Int)+1))<ab then (IntKind.wrap .i64 ((p0.cA.length:Int)+1)) else ab) - 1))) (RL.ns (aP (vi 0) (RL.nq ?_)))))))
 obtain⟨az,hN,j⟩:=bd j
 refine RC.iter (fun(aa:cS×(List cS)×Int)=>SH E V [(0,(str aa.1)),(1,(str p1)),(2,vi p2),(3,(vi (IntKind.wrap .i64 ((if (IntKind.wrap .i64 ((p0.cA.length:Int)+1))<ab then (IntKind.wrap .i64 ((p0.cA.length:Int)+1)) else ab) - 1)))),(9,ae),(10,vi aa.2.2)] [own 9 ae aa.2.1]) (fun(aa:cS×(List cS)×Int)=>SH E V [(0,(str aa.1)),(9,ae),(10,vi aa.2.2)] [own 9 ae aa.2.1]) (fun(r:Empty) _ _=>r.elim) hN ?_ ?_ ?_ ?_
 ·exact o.sp 1 [0]
 ·rintro aa fl _ w ⟨O,rfl,o⟩ j
  refine RC.seq (RC.sr (mv (vi aa.2.2) (mv (vi (IntKind.wrap .i64 ((if (IntKind.wrap .i64 ((p0.cA.length:Int)+1))<ab then (IntKind.wrap .i64 ((p0.cA.length:Int)+1)) else ab) - 1))) (ic aa.2.2 ((IntKind.wrap .i64 ((if (IntKind.wrap .i64 ((p0.cA.length:Int)+1))<ab then (IntKind.wrap .i64 ((p0.cA.length:Int)+1)) else ab) - 1))) (RL.nt (fE j (fun hc j=>?_) fun hc j=>?_))))))
  rotate_left
  ·refine RC.ex ?_
   obtain rfl:=oi j
   exact⟨rfl,o.sp 1 [0]⟩
  refine RC.sn (RC.bs (mv (str aa.1) (mv (str p1) ?_)))
  obtain⟨ag,ao,j⟩:=bd j
  refine RL.call zt zr DL [(str aa.1),(str p1)] zr (aF (nL N (p0:=aa.1) (p1:=p1) o ao) ?_)
  rintro _ w ⟨rfl,o⟩
  refine aP (vi ag) (RL.nq (RC.sr (mv (vi ag) (ic ag 0 (RL.nt (fE j (fun hc j=>?_) fun hc j=>?_))))))
  ·refine RC.ex (D2 (by decide) ?_)
   obtain rfl:=oi j
   exact⟨rfl,o.sp 1 [0]⟩
  refine RC.sx (mv ae (mv (vi aa.2.2) (mv (str aa.1) (mv (vi ag) (mv (vi p2) (RL.jq ag p2 ?_))))))
  obtain⟨aq,ar,j⟩:=bd j
  refine RL.q6 aa.1 zr zr yk (.inr ⟨rfl,zr⟩) (.inl zr) ar ?_
  obtain⟨a1,ah,j⟩:=bd j
  refine RL.bK 0 o zr zr Aa ah ?_
  have o:=o.sc cS aq
  refine RL.fJ (f:=(fun _ y=>y)) 1 0 o (jl 1 o ah 0) (aV ah).2.1 zr Fs.self B1 fun w o=>?_
  refine RL.ns (mv (str aa.1) (mv (vi ag) (mv (str p1) (RL.lens p1 yk (RL.jq ag (p1.cA.length:Int) ?_)))))
  obtain⟨au,av,j⟩:=bd j
  refine RL.q6 aa.1 zr zr yk (.inl zr) (.inr ⟨rfl,zr⟩) av (aP (str au) (RL.nt (RC.region (mv (vi aa.2.2) (RL.jq aa.2.2 1 (aP (vi (IntKind.wrap .i64 (aa.2.2+1))) (RL.nil (bT ?_))))))))
  obtain rfl:=oi j
  exact⟨rfl,o.sp 2 [1]⟩
 ·intro r _ _ _ _
  exact r.elim
 rintro aa _ w rfl ⟨O,rfl,o⟩
 rw [Fo.gm] at j
 refine aG (RC.sr (mv ae (mv (vi aa.2.2) (mv (str aa.1) ?_))))
 obtain⟨a2,ai,j⟩:=bd j
 refine RL.bK 0 o zr zr Aa ai ?_
 have o:=o.sc cS aa.1
 refine RL.fJ (f:=(fun _ y=>y)) 1 0 o (jl 1 o ai 0) (aV ai).2.1 zr Fs.self B1 fun w o=>?_
 refine RL.ns (mv ae (mv (vi aa.2.2) (RL.jq aa.2.2 1 ?_)))
 obtain⟨a3,aw,j⟩:=bd j
 refine RL.wO 1 zr o zr zr Aa (.inr ⟨rfl,zr⟩) aw fun ax o=>(aP ax (RL.nt (RC.ret ?_)))
 obtain rfl:=oi j
 exact cB (o.pk 2 [1])
theorem tx {p0 p1:cS} {res: (List cS)} (o:Holds E w V) (j:ka N p0 p1=some res):
    Calls bC 65 [(str p0),(str p1)].toArray w (gE (mz E V res)):=by
 unfold ka at j
 refine enter Tryz.func65 zr zr (RC.sr (aP (.slice none 0 0) (RL.ns (mv (str p0) (mv (str p1) ?_)))))
 obtain⟨ad,aa,j⟩:=bd j
 refine RL.call zt zr GQ [(str p0),(str p1),(vi 0),(vi (-1))] zr (aF (qI N (p0:=p0) (p1:=p1) (p2:=0) (p3:=(-1)) o aa) ?_)
 rintro ab w o
 refine aP ab (RL.nt (RC.ret ?_))
 obtain rfl:=oi j
 exact cB (o.pk 1 [0])
def mP (E:World) (V:List HP) (r:Int) (U:Nat->Value) (w:World):Prop:=lM bC 19 Tryz.f81 (aO E V r) .ret U w
theorem mB {p0: (List cS)} {p1:cS->Option Bool} (j:Holds E w V) (h0:V[i0]? =some (rd v0 p0)) (h1:CO bC E V v1 p1 (fun(r:Bool)=>Value.bool r)) (o:iF N p0 p1=some res):
    Calls bC 81 [v0,v1].toArray w (gE (aO E V res)):=by
 unfold iF at o
 refine enter Tryz.func81 zr zr ?_
 have j:=j.dup (i0+0) h0
 refine RC.sr (aP (vi 0) (RL.nq (RC.sr (mv v0 (RL.bF 0 p0 j Ff (mv (vi 0) (RL.nt ?_)))))))
 obtain⟨al,hN,o⟩:=bd o
 refine RC.range (fun(aa:Nat) (ab:Unit)=>SH E V [(0,v0),(1,v1),(7,vi p0.length),(8,vi aa)] [rd v0 p0]) (fun(ab:Unit)=>SH E V [] [rd v0 p0]) (mP E V) hN ?_ ?_ ?_ ?_ ?_
 ·exact j.sp 1 [0]
 ·rintro hm ab _ w ⟨O,rfl,j⟩
  refine RC.sr (ic ((p0.length:Int)) ((p0.length:Int)) (RL.nq (RC.cY nb (RC.ex ?_))))
  exact⟨rfl,j.sp 1 [0]⟩
 ·rintro hm aa ab fl _ w hk ⟨O,rfl,j⟩ o
  refine RC.sr (ic ((aa:Int)) ((p0.length:Int)) (RL.nq (RC.cX (na hk) (RC.ss (RC.bs (mv (vi aa) (aP (vi aa) (RL.ns ?_))))))))
  refine mv v1 (mv v0 (mv (vi aa) ?_))
  obtain⟨af,ah,o⟩:=bd o
  refine RL.cF 0 j Aa ah fun ao j=>(RL.bH af 0 j B1 ?_)
  have j:=j.sc cS af
  obtain⟨aq,ai,o⟩:=bd o
  refine RL.wN 0 zr j zr h1 3 zr zr zr ai fun w j=>(RL.nt (fE o (fun hc o=>?_) fun hc o=>?_))
  rotate_left
  ·refine RC.skip (bT (aG (RC.region (RL.inc hk hm (mv (vi ((aa+1:Nat):Int)) (RL.nil ?_))))))
   obtain rfl:=oi o
   exact⟨rfl,j.sp 3 [2]⟩
  refine RC.sr (mv (vi aa) (aP (vi aa) (RL.nt (RC.rb (bZ ?_)))))
  obtain rfl:=oi o
  exact⟨rfl,cB ⟨rfl,j.drop 3⟩⟩
 ·intro r U w e hK
  subst e
  refine bZ ?_
  obtain rfl:=oi o
  exact hK
 rintro ab _ w rfl ⟨O,rfl,j⟩
 rw [Fo.gm] at o
 refine aG (RC.sr (aP (vi (-1)) (RL.nt (RC.ret ?_))))
 obtain rfl:=oi o
 exact cB ⟨rfl,j.drop 1⟩
theorem lH {p0: (List cS)} {p1:cS->Option Bool} {res:Bool} (j:Holds E w V) (h0:V[i0]? =some (rd v0 p0)) (h1:CO bC E V v1 p1 (fun(r:Bool)=>Value.bool r)) (o:fA N p0 p1=some res):
    Calls bC 64 [v0,v1].toArray w (gE (bB E V res)):=by
 unfold fA at o
 refine enter Tryz.func64 zr zr ?_
 have j:=j.dup (i0+0) h0
 refine RC.sr (aP (vb false) (RL.ns (mv v0 (mv v1 ?_))))
 obtain⟨aa,ab,o⟩:=bd o
 refine RL.call zt zr GS [v0,v1] zr (aF (mB N (i0:=0) j zr (h1.lift 1 zr) ab) ?_)
 rintro _ w ⟨rfl,j⟩
 refine ic aa 0 (aP (vb (decide (aa>=0))) (RL.nt (RC.ret ?_)))
 obtain rfl:=oi o
 exact cB ⟨rfl,j.drop 1⟩
theorem px {p0:cS} (o:Holds E w V) (j:fZ N p0 p1=some res):
    Calls bC 67 [(str p0),(.int .u8 p1)].toArray w (gE (aO E V res)):=by
 unfold fZ at j
 refine enter Tryz.func67 zr zr (RC.sr (aP (vi 0) (RL.ns (mv (str p0) (mv (.int .u8 p1) ?_)))))
 obtain⟨aa,ab,j⟩:=bd j
 refine RL.call zt zr Fa [(str p0),(.int .u8 p1)] zr (aF (kc N (p0:=p0) (p1:=p1) o ab) ?_)
 rintro _ w ⟨rfl,o⟩
 refine aP (vi aa) (RL.nt (RC.ret ?_))
 obtain rfl:=oi j
 exact cB ⟨rfl,o.drop 0⟩
def tz (E:World) (V:List HP) (r:Bool) (U:Nat->Value) (w:World):Prop:=lM bC 49 Tryz.f38 (bB E V r) .ret U w
theorem m0 {p0:cS} {res:Bool} (hw:Holds E w V) (o:fU N p0=some res):
    Calls bC 38 [(str p0)].toArray w (gE (bB E V res)):=by
 unfold fU at o
 refine enter Tryz.func38 zr zr (RC.sr (aP (vb false) (RL.nq (RC.sr (mv (str p0) (RL.lens p0 yk (mv (vi 0) (RL.nt ?_))))))))
 obtain⟨ar,hN,o⟩:=bd o
 refine RC.range (fun(ab:Nat) (af:Unit)=>SH E V [(0,(str p0)),(6,vi p0.cA.length),(7,vi ab)] []) (fun(af:Unit)=>SH E V [(0,(str p0))] []) (tz E V) hN ?_ ?_ ?_ ?_ ?_
 ·exact hw.sp 0 []
 ·rintro hm af _ w ⟨O,rfl,hw⟩
  refine RC.sr (ic ((p0.cA.length:Int)) ((p0.cA.length:Int)) (RL.nq (RC.cY nb (RC.ex ?_))))
  exact⟨rfl,hw.sp 0 []⟩
 ·rintro hm ab af fl _ w hk ⟨O,rfl,hw⟩ o
  refine RC.sr (ic ((ab:Int)) ((p0.cA.length:Int)) (RL.nq (RC.cX (na hk) (RC.ss (RC.bs (mv (vi ab) (aP (vi ab) (RL.ns ?_))))))))
  refine mv (str p0) (mv (vi ab) ?_)
  obtain⟨j,al,o⟩:=bd o
  refine RL.idxs p0 (ab:Int) j zr zr zr yk al (aP (.int .u8 (j.toNat:Int)) (RL.nq ?_))
  obtain⟨ag,hj,o⟩:=bd o
  refine RC.jn (fun(ag:Bool)=>SH E V [(0,(str p0)),(6,vi p0.cA.length),(7,vi ab),(39,vb ag)] []) ag ?_ ?_
  ·refine RC.region (mv (.int .u8 (j.toNat:Int)) (ic ((j.toNat:Int)) 65 (mv (vb (decide ((j.toNat:Int)<65))) (RL.gs true (decide ((j.toNat:Int)<65)) (.int .u8 (j.toNat:Int)) rfl rfl rfl dD (RL.gs true (decide ((j.toNat:Int)<65)) (vb (decide ((j.toNat:Int)>90))) rfl rfl rfl (dT .gtr .u8 (j.toNat:Int) 90 rfl (fun h=>by exact(cI h:cv (true&&((decide ((j.toNat:Int)<65))==false)) (.int .u8 (j.toNat:Int))= (.int .u8 (j.toNat:Int)))) (fun _=>rfl) rfl) (RL.pick (decide ((j.toNat:Int)<65)) (vb ((decide ((j.toNat:Int)<65))||(decide ((j.toNat:Int)>90)))) (oF true rfl) (mv (vb ((decide ((j.toNat:Int)<65))||(decide ((j.toNat:Int)>90)))) (RL.gs true ((decide ((j.toNat:Int)<65))||(decide ((j.toNat:Int)>90))) (.int .u8 (j.toNat:Int)) rfl rfl rfl dD ?_))))))))
   refine RL.gs true ((decide ((j.toNat:Int)<65))||(decide ((j.toNat:Int)>90))) (vb (decide ((j.toNat:Int)<97))) rfl rfl rfl (dT .lss .u8 (j.toNat:Int) 97 rfl (fun h=>by exact(cI h:cv (true&&(((decide ((j.toNat:Int)<65))||(decide ((j.toNat:Int)>90)))==true)) (.int .u8 (j.toNat:Int))= (.int .u8 (j.toNat:Int)))) (fun _=>rfl) rfl) (RL.gs true ((decide ((j.toNat:Int)<65))||(decide ((j.toNat:Int)>90))) (vb (decide ((j.toNat:Int)<97))) rfl rfl rfl (dD (hx:=fun h=>by exact(cI h:cv (true&&(((decide ((j.toNat:Int)<65))||(decide ((j.toNat:Int)>90)))==true)) (vb (decide ((j.toNat:Int)<97)))= (vb (decide ((j.toNat:Int)<97)))))) (RL.gs (true&&(((decide ((j.toNat:Int)<65))||(decide ((j.toNat:Int)>90)))==true)) (decide ((j.toNat:Int)<97)) (.int .u8 (j.toNat:Int)) rfl rfl rfl dD (RL.gs (true&&(((decide ((j.toNat:Int)<65))||(decide ((j.toNat:Int)>90)))==true)) (decide ((j.toNat:Int)<97)) (vb (decide ((j.toNat:Int)>122))) rfl rfl rfl (dT .gtr .u8 (j.toNat:Int) 122 rfl (fun h=>by exact(cI h:cv ((true&&(((decide ((j.toNat:Int)<65))||(decide ((j.toNat:Int)>90)))==true))&&((decide ((j.toNat:Int)<97))==false)) (.int .u8 (j.toNat:Int))= (.int .u8 (j.toNat:Int)))) (fun _=>rfl) rfl) (RL.gs true ((decide ((j.toNat:Int)<65))||(decide ((j.toNat:Int)>90))) (vb ((decide ((j.toNat:Int)<97))||(decide ((j.toNat:Int)>122)))) rfl rfl rfl (n0 (decide ((j.toNat:Int)<97)) rfl (fun h=>by exact(cI h:cv (true&&(((decide ((j.toNat:Int)<65))||(decide ((j.toNat:Int)>90)))==true)) (vb (decide ((j.toNat:Int)<97)))= (vb (decide ((j.toNat:Int)<97))))) (fun h=>by exact oF (true&&(((decide ((j.toNat:Int)<65))||(decide ((j.toNat:Int)>90)))==true)) h)) (RL.pick ((decide ((j.toNat:Int)<65))||(decide ((j.toNat:Int)>90))) (vb (((decide ((j.toNat:Int)<65))||(decide ((j.toNat:Int)>90)))&&((decide ((j.toNat:Int)<97))||(decide ((j.toNat:Int)>122))))) (gG true) (mv (vb (((decide ((j.toNat:Int)<65))||(decide ((j.toNat:Int)>90)))&&((decide ((j.toNat:Int)<97))||(decide ((j.toNat:Int)>122))))) (RL.gs true (((decide ((j.toNat:Int)<65))||(decide ((j.toNat:Int)>90)))&&((decide ((j.toNat:Int)<97))||(decide ((j.toNat:Int)>122)))) (.int .u8 (j.toNat:Int)) rfl rfl rfl dD (RL.gs true (((decide ((j.toNat:Int)<65))||(decide ((j.toNat:Int)>90)))&&((decide ((j.toNat:Int)<97))||(decide ((j.toNat:Int)>122)))) (vb (decide ((j.toNat:Int)<48))) rfl rfl rfl (dT .lss .u8 (j.toNat:Int) 48 rfl (fun h=>by exact(cI h:cv (true&&((((decide ((j.toNat:Int)<65))||(decide ((j.toNat:Int)>90)))&&((decide ((j.toNat:Int)<97))||(decide ((j.toNat:Int)>122))))==true)) (.int .u8 (j.toNat:Int))= (.int .u8 (j.toNat:Int)))) (fun _=>rfl) rfl) ?_))))))))
   refine RL.gs true (((decide ((j.toNat:Int)<65))||(decide ((j.toNat:Int)>90)))&&((decide ((j.toNat:Int)<97))||(decide ((j.toNat:Int)>122)))) (vb (decide ((j.toNat:Int)<48))) rfl rfl rfl (dD (hx:=fun h=>by exact(cI h:cv (true&&((((decide ((j.toNat:Int)<65))||(decide ((j.toNat:Int)>90)))&&((decide ((j.toNat:Int)<97))||(decide ((j.toNat:Int)>122))))==true)) (vb (decide ((j.toNat:Int)<48)))= (vb (decide ((j.toNat:Int)<48)))))) (RL.gs (true&&((((decide ((j.toNat:Int)<65))||(decide ((j.toNat:Int)>90)))&&((decide ((j.toNat:Int)<97))||(decide ((j.toNat:Int)>122))))==true)) (decide ((j.toNat:Int)<48)) (.int .u8 (j.toNat:Int)) rfl rfl rfl dD (RL.gs (true&&((((decide ((j.toNat:Int)<65))||(decide ((j.toNat:Int)>90)))&&((decide ((j.toNat:Int)<97))||(decide ((j.toNat:Int)>122))))==true)) (decide ((j.toNat:Int)<48)) (vb (decide ((j.toNat:Int)>57))) rfl rfl rfl (dT .gtr .u8 (j.toNat:Int) 57 rfl (fun h=>by exact(cI h:cv ((true&&((((decide ((j.toNat:Int)<65))||(decide ((j.toNat:Int)>90)))&&((decide ((j.toNat:Int)<97))||(decide ((j.toNat:Int)>122))))==true))&&((decide ((j.toNat:Int)<48))==false)) (.int .u8 (j.toNat:Int))= (.int .u8 (j.toNat:Int)))) (fun _=>rfl) rfl) (RL.gs true (((decide ((j.toNat:Int)<65))||(decide ((j.toNat:Int)>90)))&&((decide ((j.toNat:Int)<97))||(decide ((j.toNat:Int)>122)))) (vb ((decide ((j.toNat:Int)<48))||(decide ((j.toNat:Int)>57)))) rfl rfl rfl (n0 (decide ((j.toNat:Int)<48)) rfl (fun h=>by exact(cI h:cv (true&&((((decide ((j.toNat:Int)<65))||(decide ((j.toNat:Int)>90)))&&((decide ((j.toNat:Int)<97))||(decide ((j.toNat:Int)>122))))==true)) (vb (decide ((j.toNat:Int)<48)))= (vb (decide ((j.toNat:Int)<48))))) (fun h=>by exact oF (true&&((((decide ((j.toNat:Int)<65))||(decide ((j.toNat:Int)>90)))&&((decide ((j.toNat:Int)<97))||(decide ((j.toNat:Int)>122))))==true)) h)) (RL.pick (((decide ((j.toNat:Int)<65))||(decide ((j.toNat:Int)>90)))&&((decide ((j.toNat:Int)<97))||(decide ((j.toNat:Int)>122)))) (vb ((((decide ((j.toNat:Int)<65))||(decide ((j.toNat:Int)>90)))&&((decide ((j.toNat:Int)<97))||(decide ((j.toNat:Int)>122))))&&((decide ((j.toNat:Int)<48))||(decide ((j.toNat:Int)>57))))) (gG true) (mv (vb ((((decide ((j.toNat:Int)<65))||(decide ((j.toNat:Int)>90)))&&((decide ((j.toNat:Int)<97))||(decide ((j.toNat:Int)>122))))&&((decide ((j.toNat:Int)<48))||(decide ((j.toNat:Int)>57))))) (gC hj (fun ad hj=>?_) fun ad hj=>?_))))))
   rotate_left
   ·refine bV ad (bV ad (bV ad (gF ad (vb false) (RL.nil ?_))))
    obtain rfl:=oi hj
    exact⟨rfl,hw.sp 0 []⟩
   refine RL.move (.int .u8 (j.toNat:Int)) (cg ad) ?_
   obtain⟨aj,an,hj⟩:=bd hj
   refine RL.call (cg ad) zr GU [(str ⟨[95,43,45,35]⟩),(.int .u8 (j.toNat:Int))] zr (aF (px N (p0:=⟨[95,43,45,35]⟩) (p1:=(j.toNat:Int)) hw an) ?_)
   rintro _ w ⟨rfl,hw⟩
   refine RL.kz aj 0 (cg ad) (gF ad (vb (decide (aj<0))) (RL.nil ?_))
   obtain rfl:=oi hj
   exact⟨rfl,hw.sp 0 []⟩
  rintro _ w ⟨O,rfl,hw⟩
  refine aG (fE o (fun hc o=>?_) fun hc o=>?_)
  rotate_left
  ·refine RC.skip (bT (aG (RC.region (RL.inc hk hm (mv (vi ((ab+1:Nat):Int)) (RL.nil ?_))))))
   obtain rfl:=oi o
   exact⟨rfl,hw.sp 0 []⟩
  refine RC.sr (aP (vb false) (RL.nt (RC.rb (bZ ?_))))
  obtain rfl:=oi o
  exact⟨rfl,cB ⟨rfl,hw.drop 0⟩⟩
 ·intro r U w e hK
  subst e
  refine bZ ?_
  obtain rfl:=oi o
  exact hK
 rintro af _ w rfl ⟨O,rfl,hw⟩
 rw [Fo.gm] at o
 refine aG (RC.sr (mv (str p0) (RL.lens p0 yk (ic ((p0.cA.length:Int)) 1 (mv (vb (decide ((p0.cA.length:Int)>=1))) (RL.gs true (decide ((p0.cA.length:Int)>=1)) (str p0) rfl rfl rfl dD (RL.gs true (decide ((p0.cA.length:Int)>=1)) (vi p0.cA.length) rfl rfl rfl (CW (s:=p0) rfl (fun h=>by exact(cI h:cv (true&&((decide ((p0.cA.length:Int)>=1))==true)) (str p0)= (str p0))) yk) (RL.gs true (decide ((p0.cA.length:Int)>=1)) (vb (decide ((p0.cA.length:Int)<=40))) rfl rfl rfl (dT .leq .i64 (p0.cA.length:Int) 40 rfl (fun h=>by exact(cI h:cv (true&&((decide ((p0.cA.length:Int)>=1))==true)) (vi p0.cA.length)= (vi p0.cA.length))) (fun _=>rfl) rfl) ?_))))))))
 refine RL.pick (decide ((p0.cA.length:Int)>=1)) (vb ((decide ((p0.cA.length:Int)>=1))&&(decide ((p0.cA.length:Int)<=40)))) (gG true) (aP (vb ((decide ((p0.cA.length:Int)>=1))&&(decide ((p0.cA.length:Int)<=40)))) (RL.nt (RC.ret ?_)))
 obtain rfl:=oi o
 exact cB ⟨rfl,hw.drop 0⟩
theorem py {p0:cS} {res:Bool} (o:Holds E w V) (j:fB N p0=some res):
    Calls bC 66 [(str p0)].toArray w (gE (bB E V res)):=by
 unfold fB at j
 refine enter Tryz.func66 zr zr (RC.sr (aP (vb false) (RL.ns (mv (str p0) ?_))))
 obtain⟨aa,ab,j⟩:=bd j
 refine RL.call zt zr Fg [(str p0)] zr (aF (m0 N (p0:=p0) o ab) ?_)
 rintro _ w ⟨rfl,o⟩
 refine RL.not aa (aP (vb (!aa)) (RL.nt (RC.ret ?_)))
 obtain rfl:=oi j
 exact cB ⟨rfl,o.drop 0⟩
theorem sq {p0:cS} {res:Bool} (j:Holds E w V) (hb:jA N p0=some res):
    Calls bC 37 [(str p0)].toArray w (gE (bB E V res)):=by
 unfold jA at hb
 refine enter Tryz.func37 zr zr (RC.sr (aP (vb false) (RL.nq ?_)))
 obtain⟨ad,hj,hb⟩:=bd hb
 refine RC.jn (fun(ad:Bool)=>SH E V [(2,vb ad)] []) ad ?_ ?_
 ·refine RC.region (mv (str p0) (RL.lens p0 yk (ic ((p0.cA.length:Int)) 200 (mv (vb (decide ((p0.cA.length:Int)<=200))) (gC hj (fun o hj=>?_) fun o hj=>?_)))))
  rotate_left
  ·refine bV o (bV o (bV o (bV o (gF o (vb false) (aP (vb false) (RL.nil ?_))))))
   obtain rfl:=oi hj
   exact⟨rfl,j.sp 0 []⟩
  refine RL.move (str p0) (cg o) ?_
  obtain⟨ai,af,hj⟩:=bd hj
  refine RL.call (cg o) zr GR [(str p0),(str ⟨[47]⟩)] zr (aF (tx N (p0:=p0) (p1:=⟨[47]⟩) j af) ?_)
  rintro ag w j
  have j:=j.freeze 0
  obtain⟨ae,ah,hj⟩:=bd hj
  refine RL.call (cg o) rfl GW [ag,(.func (.func 66) #[] #[])] rfl (aF (lH N (i0:=0) j rfl ⟨66,[],rfl,GV,fun w Γl v y0 r i j hi hr=>by obtain rfl:=j.xI (γ:=cS) hi;exact aF (py N (p0:=y0) j hr) fun _ _ h=>h⟩ ah) ?_)
  rintro _ w ⟨rfl,j⟩
  refine RL.not (hg:=(cg o)) ae (gF o (vb (!ae)) (aP (vb (!ae)) (RL.nil ?_)))
  obtain rfl:=oi hj
  exact⟨rfl,j.sp 1 []⟩
 rintro _ w ⟨O,rfl,j⟩
 refine aG (RC.ret ?_)
 obtain rfl:=oi hb
 exact cB ⟨rfl,j.drop 0⟩
def uS (E:World) (V:List HP) (res:eK) (v:Value) (w:World):Prop:=Holds E w ([rd v res]++V)
theorem ku {p0:cT} {res:eK} (j:Holds E w V) (h0:V[i0]? =some (rd v0 p0)) (o:iT N p0=some res):
    Calls bC 25 [v0].toArray w (gE (uS E V res)):=by
 unfold iT at o
 refine enter Tryz.func25 zr zr ?_
 have j:=j.dup (i0+0) h0
 refine RC.sr (RL.dC 0 v0 j zr fun aa w j=>?_)
 refine RL.alloc j Fh.z fun ab w j=>?_
 refine RL.ns (RL.bA zr B0 (RL.aM 1 j zr wk B1 (RL.bA zr B2 (RL.aM 1 j zr wm B1 ?_))))
 have j:=(j.sc cS p0.Part).sc cS p0.eK
 refine RL.build (⟨p0.Part,p0.eK⟩:eK) trivial rfl j [(0,(str p0.Part)),(1,(str p0.eK))] rfl Em rfl (fun M hs g=>by have h:=BU M;exact dA.cons (f:=fun(x:eK) y=>{x with Part:=y}) h uH (g.sat 1 _ rfl).1 fun _ h=>dA.cons (f:=fun(x:eK) y=>{x with eK:=y}) h uI (g.sat 0 _ rfl).1 fun _ h=>dA.nil h) fun ad j=>?_
 refine RL.bJ 3 j 0 zr r6 fun w j=>?_
 refine RL.nt (RC.ret ?_)
 obtain rfl:=oi o
 exact D3 3 zr j zr zr r6 fun ae j=>(j.pk 7 [0])
theorem nn {p0 p1:cS} (o:Holds E w V) (j:jh N p0 p1=some res):
    Calls bC 74 [(str p0),(str p1)].toArray w (gE (aO E V res)):=by
 unfold jh at j
 refine enter Tryz.func74 zr zr (RC.sr (aP (vi 0) (RL.ns (mv (str p0) (mv (str p1) (RL.uw (vi (Lib.compareBytes p0.cA p1.cA)) zr [(str p0),(str p1)] zr (H5 p0 p1 w) (aP (vi (Lib.compareBytes p0.cA p1.cA)) (RL.nt ?_))))))))
 refine RC.ret ?_
 obtain rfl:=oi j
 exact cB ⟨rfl,o.drop 0⟩
theorem mC {p0 p1:cS} (o:Holds E w V) (j:kq N p0 p1=some res):
    Calls bC 52 [(str p0),(str p1)].toArray w (gE (aO E V res)):=by
 unfold kq at j
 refine enter Tryz.func52 zr zr (RC.sr (aP (vi 0) (RL.ns (mv (str p0) (mv (str p1) ?_)))))
 obtain⟨aa,ab,j⟩:=bd j
 refine RL.call zt zr GY [(str p0),(str p1)] zr (aF (nn N (p0:=p0) (p1:=p1) o ab) ?_)
 rintro _ w ⟨rfl,o⟩
 refine aP (vi aa) (RL.nt (RC.ret ?_))
 obtain rfl:=oi j
 exact cB ⟨rfl,o.drop 0⟩
theorem kW {p0 p1:eK} (j:Holds E w V) (h0:V[i0]? =some (rd v0 p0)) (h1:V[i1]? =some (rd v1 p1)) (o:fC N p0 p1=some res):
    Calls bC 24 [v0,v1].toArray w (gE (aO E V res)):=by
 unfold fC at o
 refine enter Tryz.func24 zr zr ?_
 have j:=(j.dup (i0+0) h0).dup (i1+1) h1
 refine RC.sr (RL.dC 1 v0 j zr fun ag w j=>?_)
 refine RL.dC 1 v1 j zr fun ah w j=>?_
 refine aP (vi 0) (RL.nq (RC.sr (RL.bA zr B3 (RL.aM 1 j zr yf B1 (RL.bA zr B3 (RL.aM 0 j zr yf B1 ?_))))))
 obtain⟨aa,ab,o⟩:=bd o
 refine RL.call zt zr Fi [(str p0.Part),(str p1.Part)] zr (aF (mC N (p0:=p0.Part) (p1:=p1.Part) j ab) ?_)
 rintro _ w ⟨rfl,j⟩
 refine aP (vi aa) (RL.ns (mv (vi aa) (ic aa 0 (RL.nt (fE o (fun hc o=>?_) fun hc o=>?_)))))
 ·refine RC.sr (mv (vi aa) (aP (vi aa) (RL.nt (RC.rt ?_))))
  obtain rfl:=oi o
  exact cB ⟨rfl,j.drop 4⟩
 refine RC.sx (RL.bA zr B4 (RL.aM 1 j zr yg B1 (RL.bA zr B4 (RL.aM 0 j zr yg B1 ?_))))
 obtain⟨ae,af,o⟩:=bd o
 refine RL.call zt zr Fi [(str p0.eK),(str p1.eK)] zr (aF (mC N (p0:=p0.eK) (p1:=p1.eK) j af) ?_)
 rintro _ w ⟨rfl,j⟩
 refine aP (vi ae) (RL.nt (RC.ret ?_))
 obtain rfl:=oi o
 exact cB ⟨rfl,j.drop 4⟩
def qJ (E:World) (V:List HP) (r:Int) (U:Nat->Value) (w:World):Prop:=lM bC 60 Tryz.f13 (aO E V r) .ret U w
theorem pz {p0:jS} (j:Holds E w V) (h0:V[i0]? =some (rd v0 p0)) (hb:ig N p0=some res):
    Calls bC 13 [v0].toArray w (gE (aO E V res)):=by
 unfold ig at hb
 refine enter Tryz.func13 zr zr ?_
 have j:=j.dup (i0+0) h0
 refine RC.sr (RL.dC 0 v0 j zr fun ag w j=>?_)
 have j:=j.gx (i:=0) rfl
 refine aP (vi 0) (RL.nq (RC.sr (RL.iw 0 j zr tq pd fun bk j=>(RL.bY 0 p0.bE j AR fun bl j=>(RL.bF 0 p0.bE j BZ (ic ((p0.bE.length:Int)) 1000 (RL.nt (fE hb (fun hc hb=>?_) fun hc hb=>?_))))))))
 ·refine RC.sr (aP (vi 2) (RL.nt (RC.rt ?_)))
  obtain rfl:=oi hb
  exact cB ⟨rfl,j.drop 4⟩
 refine RC.ss (RC.sr (RL.iw 2 j zr tq pd fun bm j=>(RL.bY 0 p0.bE j AR fun ah j=>(RL.bF 0 p0.bE j BZ (mv (vi 0) (RL.nt ?_))))))
 obtain⟨bn,hN,hb⟩:=bd hb
 refine RC.range (fun(ad:Nat) (ak:Unit)=>SH E V [(1,vp ag 0),(10,ah),(11,vi p0.bE.length),(12,vi ad)] [pt (vp ag 0) p0,rd ah p0.bE]) (fun(ak:Unit)=>SH E V [] [pt (vp ag 0) p0,rd ah p0.bE]) (qJ E V) hN ?_ ?_ ?_ ?_ ?_
 ·exact j.sp 6 [4,0]
 ·rintro hm ak _ w ⟨O,rfl,j⟩
  refine RC.sr (ic ((p0.bE.length:Int)) ((p0.bE.length:Int)) (RL.nq (RC.cY nb (RC.ex ?_))))
  exact⟨rfl,j.sp 2 [0,1]⟩
 ·rintro hm ad ak fl _ w hk ⟨O,rfl,j⟩ hb
  refine RC.sr (ic ((ad:Int)) ((p0.bE.length:Int)) (RL.nq (RC.cX (na hk) (RC.ss (RC.bs (mv (vi ad) ?_))))))
  obtain⟨ai,a1,hb⟩:=bd hb
  refine RL.cF 1 j AU a1 fun bp j=>(RL.bY 0 ai j uN fun bq j=>(RL.alloc j El.z fun al w j=>?_))
  refine aP (vi ad) (RL.bJ 0 j 1 zr uN fun w j=>?_)
  refine RL.nt (RC.block (RC.seq ?_))
  obtain⟨an,o,hb⟩:=bd hb
  refine RC.jn (fun(an:Bool)=>SH E V [(1,vp ag 0),(3,vi ad),(4,vp al 0),(10,ah),(11,vi p0.bE.length),(12,vi ad),(17,vb an)] [pt (vp ag 0) p0,bx 50 al ai,rd ah p0.bE]) an ?_ ?_
  ·refine RC.region (RL.bA zr B0 (RL.aM 0 j zr wk B1 ?_))
   obtain⟨ay,a2,o⟩:=bd o
   refine RL.call zt zr GX [(str ai.Part)] zr (aF (sq N (p0:=ai.Part) j a2) ?_)
   rintro _ w ⟨rfl,j⟩
   refine RL.not ay (mv (vb (!ay)) (gC o (fun ae o=>?_) fun ae o=>?_))
   ·refine bV ae (bV ae (bV ae (bV ae (gF ae (vb true) (aP (vb true) (RL.nil ?_))))))
    obtain rfl:=oi o
    exact⟨rfl,j.sp 5 [3,0,4]⟩
   refine RL.bA (hg:=(cg ae)) zr B2 (RL.aM (hg:=(cg ae)) 0 j zr wm B1 ?_)
   obtain⟨ao,a3,o⟩:=bd o
   refine RL.call (cg ae) zr Fg [(str ai.eK)] zr (aF (m0 N (p0:=ai.eK) j a3) ?_)
   rintro _ w ⟨rfl,j⟩
   refine RL.not (hg:=(cg ae)) ao (gF ae (vb (!ao)) (aP (vb (!ao)) (RL.nil ?_)))
   obtain rfl:=oi o
   exact⟨rfl,j.sp 5 [3,0,4]⟩
  rintro _ w ⟨O,rfl,j⟩
  refine aG (fE hb (fun hc hb=>?_) fun hc hb=>?_)
  ·refine RC.sr (aP (vi 5) (RL.nt (RC.rb (lj (bZ ?_)))))
   obtain rfl:=oi hb
   exact⟨rfl,cB ⟨rfl,j.drop 3⟩⟩
  refine RC.seq ?_
  obtain⟨aq,o,hb⟩:=bd hb
  refine RC.jn (fun(aq:Bool)=>SH E V [(1,vp ag 0),(3,vi ad),(4,vp al 0),(10,ah),(11,vi p0.bE.length),(12,vi ad),(28,vb aq)] [pt (vp ag 0) p0,bx 50 al ai,rd ah p0.bE]) aq ?_ ?_
  ·refine RC.region (RL.bA zr zf (RL.aM 1 j zr tk cE (RL.iw 0 j zr tm nF fun br j=>(RL.bY 0 p0.aJ j AK fun bt j=>(RL.bF 0 p0.aJ j yi (RL.jq (p0.aJ.length:Int) 1 ?_))))))
   obtain⟨az,a4,o⟩:=bd o
   refine RL.call zt zr Dc [(vi ai.dY),(vi 0),(vi (IntKind.wrap .i64 ((p0.aJ.length:Int) - 1)))] zr (aF (j3 N (p0:=ai.dY) (p1:=0) (p2:=(IntKind.wrap .i64 ((p0.aJ.length:Int) - 1))) j a4) ?_)
   rintro _ w ⟨rfl,j⟩
   refine RL.not az (mv (vb (!az)) (gC o (fun af o=>?_) fun af o=>?_))
   ·refine bV af (bV af (bV af (bV af (gF af (vb true) (aP (vb true) (RL.nil ?_))))))
    obtain rfl:=oi o
    exact⟨rfl,j.sp 5 [2,3,4]⟩
   refine RL.bA (hg:=(cg af)) zr zg (RL.aZ (hg:=(cg af)) 3 j zr tl Dd fun a5 j=>?_)
   obtain⟨ar,a6,o⟩:=bd o
   refine RL.call (cg af) zr E9 [a5] zr (aF (nK N (i0:=0) j zr a6) ?_)
   rintro _ w ⟨rfl,j⟩
   refine RL.not (hg:=(cg af)) ar (gF af (vb (!ar)) (aP (vb (!ar)) (RL.nil ?_)))
   obtain rfl:=oi o
   exact⟨rfl,j.sp 6 [3,4,5]⟩
  rintro _ w ⟨O,rfl,j⟩
  refine aG (fE hb (fun hc hb=>?_) fun hc hb=>?_)
  ·refine RC.sr (aP (vi 1) (RL.nt (RC.rb (lj (bZ ?_)))))
   obtain rfl:=oi hb
   exact⟨rfl,cB ⟨rfl,j.drop 3⟩⟩
  refine RC.seq ?_
  obtain⟨au,o,hb⟩:=bd hb
  refine RC.jn (fun(au:Bool)=>SH E V [(1,vp ag 0),(10,ah),(11,vi p0.bE.length),(12,vi ad),(43,vb au)] [pt (vp ag 0) p0,rd ah p0.bE]) au ?_ ?_
  ·refine RC.ye mixed [0,0,0,0,2,1,1,1,1,1,1,2,2,0,0,0] [0,1,2,3,5,6,7,8,9,10,4,11,12,13,14,15] ?_
   have j:=j.drew
   refine DP.e0 zr (mv (vi ad) (cJ zr (ic ((ad:Int)) 0 (cJ zr (mv (vb (decide ((ad:Int)>0))) (DP.d0 (gC o (fun ab o=>?_) fun ab o=>?_)))))))
   rotate_left
   ·refine DP.e0 zr (bV ab (DP.d0 (DP.e1 undef zr (fun w=>bV ab DP.d1) (DP.e1 undef zr (fun w=>bV ab DP.d1) (DP.e1 undef zr (fun w=>bV ab DP.d1) (DP.e1 undef zr (fun w=>bV ab DP.d1) (DP.e1 undef zr (fun w=>bV ab DP.d1) (DP.e1 undef zr (fun w=>bV ab DP.d1) ?_))))))))
    refine DP.e2 zr (bV ab (Eg zr (bV ab (Eg zr (bV ab (z5 zr (bV ab (cJ zr ?_))))))))
    refine gF ab (vb false) (cJ zr (aP (vb false) (DP.d0 (DP.z ?_))))
    obtain rfl:=oi o
    exact⟨rfl,j.sp 3 [0,2]⟩
   refine DP.e0 zr (RL.aZ (hg:=(cg ab)) (f:=(fun x=>x)) 1 j zr Fd.self uN fun a7 j=>(DP.d0 (DP.E1 1 zr zr (cg ab) zr j zr zr tq pd fun bu j=>(DP.vI p0.bE 0 zr (cg ab) j AR fun bw a378 bz j=>(DP.e1 (vi ad) zr (fun w=>RL.move (vi ad) (cg ab) DP.d1) (DP.e1 (vi (IntKind.wrap .i64 ((ad:Int) - 1))) zr (fun w=>RL.jq (hg:=(cg ab)) (ad:Int) 1 DP.d1) ?_))))))
   obtain⟨a8,a9,o⟩:=bd o
   refine DP.Ei 1 zr zr (cg ab) zr j zr zr zr AU a9 fun b0 j=>(DP.vI a8 0 zr (cg ab) j uN fun ba a383 b1 j=>(DP.e2 zr ?_))
   obtain⟨b2,bb,o⟩:=bd o
   refine RL.call (cg ab) zr De [a7] zr (aF (ku N (i0:=6) j zr bb) ?_)
   rintro bc w j
   refine DP.d2 (⟨⟨zt,j.kM 4⟩,j.kM 1⟩) (DP.e2 zr ?_)
   obtain⟨b3,bf,o⟩:=bd o
   refine RL.call (cg ab) zr De [ba] zr (aF (ku N (i0:=2) j zr bf) ?_)
   rintro bg w j
   refine DP.d2 (⟨⟨zt,j.kM 5⟩,j.kM 2⟩) (DP.e2 zr ?_)
   obtain⟨av,bh,o⟩:=bd o
   refine RL.call (cg ab) zr Fj [bc,bg] zr (aF (kW N (i0:=1) (i1:=0) j zr zr bh) ?_)
   rintro _ w ⟨rfl,j⟩
   refine DP.d2 (⟨⟨zt,j.kM 5⟩,j.kM 2⟩) (DP.e0 zr (RL.kz av 0 (cg ab) (cJ zr (gF ab (vb (decide (av<=0))) (cJ zr (aP (vb (decide (av<=0))) (DP.d0 ?_)))))))
   have j:=j.pl 12 [0,1,3,4,6,7,8,9,10,11]
   refine DP.z ?_
   obtain rfl:=oi o
   exact⟨rfl,j.sp 10 [7,9]⟩
  rintro _ w ⟨O,rfl,j⟩
  refine aG (fE hb (fun hc hb=>?_) fun hc hb=>?_)
  rotate_left
  ·refine RC.skip (bT (bT (aG (RC.region (RL.inc hk hm (mv (vi ((ad+1:Nat):Int)) (RL.nil ?_)))))))
   obtain rfl:=oi hb
   exact⟨rfl,j.sp 2 [0,1]⟩
  refine RC.sr (aP (vi 8) (RL.nt (RC.rb (lj (bZ ?_)))))
  obtain rfl:=oi hb
  exact⟨rfl,cB ⟨rfl,j.drop 2⟩⟩
 ·intro r U w e hK
  subst e
  refine bZ ?_
  obtain rfl:=oi hb
  exact hK
 rintro ak _ w rfl ⟨O,rfl,j⟩
 rw [Fo.gm] at hb
 refine aG (RC.sr (aP (vi 0) (RL.nt (RC.ret ?_))))
 obtain rfl:=oi hb
 exact cB ⟨rfl,j.drop 2⟩
theorem nM (o:Holds E w V) (j:jd N p0 p1 p2 p3=some res):
    Calls bC 40 [(vi p0),(vi p1),(vi p2),(vi p3)].toArray w (gE (aO E V res)):=by
 unfold jd at j
 refine enter Tryz.func40 zr zr (RC.sr (aP (vi 0) (RL.ns (mv (vi p2) (mv (vi p1) (RL.jq p2 p1 (RL.jq (IntKind.wrap .i64 (p2 - p1)) 1 (mv (vi p0) ?_))))))))
 refine mv (vi p3) (RL.jq p0 p3 (RL.jq (IntKind.wrap .i64 (p0 - p3)) 1 (RL.Gp (a:=0) (b:=(IntKind.wrap .i64 ((IntKind.wrap .i64 (p2 - p1))+1))) (c:=(IntKind.wrap .i64 ((IntKind.wrap .i64 (p0 - p3))+1))) zt zr zr zr zr (aP (vi (if (if 0< (IntKind.wrap .i64 ((IntKind.wrap .i64 (p2 - p1))+1)) then (IntKind.wrap .i64 ((IntKind.wrap .i64 (p2 - p1))+1)) else 0)< (IntKind.wrap .i64 ((IntKind.wrap .i64 (p0 - p3))+1)) then (IntKind.wrap .i64 ((IntKind.wrap .i64 (p0 - p3))+1)) else (if 0< (IntKind.wrap .i64 ((IntKind.wrap .i64 (p2 - p1))+1)) then (IntKind.wrap .i64 ((IntKind.wrap .i64 (p2 - p1))+1)) else 0))) (RL.nt (RC.ret ?_))))))
 obtain rfl:=oi j
 exact cB ⟨rfl,o.drop 0⟩
theorem xk {p0 p1:aI} (j:Holds E w V) (h0:V[i0]? =some (rd v0 p0)) (h1:V[i1]? =some (rd v1 p1)) (o:nA N p0 p1=some res):
    Calls bC 14 [v0,v1].toArray w (gE (aO E V res)):=by
 unfold nA at o
 refine enter Tryz.func14 zr zr ?_
 have j:=(j.dup (i0+0) h0).dup (i1+1) h1
 refine RC.sr (RL.dC 1 v0 j zr fun aa w j=>?_)
 refine RL.dC 1 v1 j zr fun ab w j=>?_
 refine aP (vi 0) (RL.nq ?_)
 have j:=j.drew
 refine RC.BS (fun w=>Holds E w ([bx 46 ab p1,bx 46 aa p0]++V)) mixed zr [0,0,0,0,0,0,0,0,2,1,1,1,1,1,1,1,1,2,0,0] [0,1,2,3,4,5,6,7,9,10,11,12,13,14,15,16,8,17,18,19] (j.pk 4 [0,1]) (DP.e0 zr (RL.bA zr iV (cJ zr (RL.aM 1 j zr eH cE (cJ zr (RL.bA zr jE (cJ zr (RL.aM 1 j zr fD cE ?_))))))))
 refine cJ zr (RL.bA zr iV (cJ zr (RL.aM 0 j zr eH cE (cJ zr (RL.bA zr jE (cJ zr (RL.aM 0 j zr fD cE (DP.d0 ?_))))))))
 refine DP.e1 (vp aa 1) zr (fun w=>RL.bA zr jD DP.d1) (DP.Ef (vi p0.Y0) zr (fun w j=>RL.aM 1 j zr eW cE DP.d1) (DP.e1 (vp aa 3) zr (fun w=>RL.bA zr my DP.d1) (DP.Ef (vi p0.Y1) zr (fun w j=>RL.aM 1 j zr iL cE DP.d1) (DP.e1 (vp ab 1) zr (fun w=>RL.bA zr jD DP.d1) (DP.Ef (vi p1.Y0) zr (fun w j=>RL.aM 0 j zr eW cE DP.d1) (DP.e1 (vp ab 3) zr (fun w=>RL.bA zr my DP.d1) (DP.Ef (vi p1.Y1) zr (fun w j=>RL.aM 0 j zr iL cE DP.d1) (DP.e2 zr ?_))))))))
 obtain⟨ad,af,o⟩:=bd o
 refine RL.call zt zr Fk [(vi p0.X0),(vi p0.X1),(vi p1.X0),(vi p1.X1)] zr (aF (nM N (p0:=p0.X0) (p1:=p0.X1) (p2:=p1.X0) (p3:=p1.X1) j af) ?_)
 rintro _ w ⟨rfl,j⟩
 refine DP.d2 (j.pk 4 [0,1]) (DP.e2 zr ?_)
 obtain⟨ae,ag,o⟩:=bd o
 refine RL.call zt zr Fk [(vi p0.Y0),(vi p0.Y1),(vi p1.Y0),(vi p1.Y1)] zr (aF (nM N (p0:=p0.Y0) (p1:=p0.Y1) (p2:=p1.Y0) (p3:=p1.Y1) j ag) ?_)
 rintro _ w ⟨rfl,j⟩
 refine DP.d2 (j.pk 4 [0,1]) (DP.e0 zr (RL.max ad ae (cJ zr (aP (vi (if ad<ae then ae else ad)) (DP.d0 (DP.z (aG (RC.ret ?_))))))))
 obtain rfl:=oi o
 exact cB ⟨rfl,j.drop 4⟩
end Go.Gk
