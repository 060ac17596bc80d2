/-
  Printed texts: Go functions as plain functions, and that they are. No statement of the seed is proved here.
-/
import Derived.Test.YthioiiocofohiaaGreatDoorG1
import Derived.Test.YthioiiocofohiaaGreatDoorA2
set_option linter.unusedVariables false
set_option linter.unusedSimpArgs false
set_option linter.unusedSectionVars false
set_option maxRecDepth 100000
set_option maxHeartbeats 4000000
namespace Go.Gk
open Go Go.Proofs
variable (N:Nat) {E w:World} {i0 i1:Nat} {p0 p1 p2 p3 res:Int} {v0 v1:Value} {V:List HP}
theorem gD {p0:bQ} {res:aI} (j:Holds E w V) (h0:V[i0]? =some (rd v0 p0)) (o:eT N p0=some res):
    Calls bG 50 [v0].toArray w (gH (oC E V res)):=by
 unfold eT at o
 refine enter Tryz.func50 zr zr ?_
 have j:=j.dup (i0+0) h0
 refine RC.sr (RL.cY 0 v0 j zr fun aa w j=>?_)
 refine RL.alloc j mo.z fun ab w j=>?_
 refine RL.nq (RC.xT mixed ?_)
 have j:=j.drew
 refine RO.go (RL.aY zr zA (RO.nx (RL.aY zr qP (RO.nx (RL.aL (f:=(fun x=>x.At.X)) 1 j zr (Fd.comp (f:=fun(x:bQ)=>x.At) (fun(x:eK)=>x.X) uZ kr) cH (RO.nx (RL.aY zr tW (RO.nx ?_))))))))
 refine RL.aL 1 j zr pf cH (RO.nx (RL.quo p0.eU 2 zr zr zr zr (RO.nx (RL.jl p0.At.X (IntKind.wrap .i64 (Int.tdiv p0.eU 2)) (RO.nx (RL.aY zr zA (RO.nx (RL.aY zr oO ?_))))))))
 refine RO.nx (RL.aL (f:=(fun x=>x.At.Y)) 1 j zr (Fd.comp (f:=fun(x:bQ)=>x.At) (fun(x:eK)=>x.Y) uZ jg) cH (RO.nx (RL.aY zr tW (RO.nx (RL.aL 1 j zr pf cH (RO.nx (RL.quo p0.eU 2 zr zr zr zr (RO.nx ?_))))))))
 refine RL.jl p0.At.Y (IntKind.wrap .i64 (Int.tdiv p0.eU 2)) (RO.nx (aM (vi (IntKind.wrap .i64 (p0.At.X - (IntKind.wrap .i64 (Int.tdiv p0.eU 2))))) (RO.nx (aM (vi (IntKind.wrap .i64 (p0.At.Y - (IntKind.wrap .i64 (Int.tdiv p0.eU 2))))) (RO.last (aG (RC.sr (mv (vi (IntKind.wrap .i64 (p0.At.X - (IntKind.wrap .i64 (Int.tdiv p0.eU 2))))) ?_))))))))
 refine mv (vi (IntKind.wrap .i64 (p0.At.Y - (IntKind.wrap .i64 (Int.tdiv p0.eU 2))))) (mv (vi (IntKind.wrap .i64 (p0.At.X - (IntKind.wrap .i64 (Int.tdiv p0.eU 2))))) (RL.aY zr tW (RL.aL 1 j zr pf cH (RL.jl (IntKind.wrap .i64 (p0.At.X - (IntKind.wrap .i64 (Int.tdiv p0.eU 2)))) p0.eU (mv (vi (IntKind.wrap .i64 (p0.At.Y - (IntKind.wrap .i64 (Int.tdiv p0.eU 2))))) (RL.aY zr tW (RL.aL 1 j zr pf cH (RL.jl (IntKind.wrap .i64 (p0.At.Y - (IntKind.wrap .i64 (Int.tdiv p0.eU 2)))) p0.eU ?_))))))))
 have j:=((j.sc Int (IntKind.wrap .i64 (p0.At.X - (IntKind.wrap .i64 (Int.tdiv p0.eU 2))))).sc Int (IntKind.wrap .i64 (p0.At.Y - (IntKind.wrap .i64 (Int.tdiv p0.eU 2))))).sc Int (IntKind.wrap .i64 ((IntKind.wrap .i64 (p0.At.X - (IntKind.wrap .i64 (Int.tdiv p0.eU 2))))+p0.eU))
 have j:=j.sc Int (IntKind.wrap .i64 ((IntKind.wrap .i64 (p0.At.Y - (IntKind.wrap .i64 (Int.tdiv p0.eU 2))))+p0.eU))
 refine RL.build (⟨(IntKind.wrap .i64 (p0.At.X - (IntKind.wrap .i64 (Int.tdiv p0.eU 2)))),(IntKind.wrap .i64 (p0.At.Y - (IntKind.wrap .i64 (Int.tdiv p0.eU 2)))),(IntKind.wrap .i64 ((IntKind.wrap .i64 (p0.At.X - (IntKind.wrap .i64 (Int.tdiv p0.eU 2))))+p0.eU)),(IntKind.wrap .i64 ((IntKind.wrap .i64 (p0.At.Y - (IntKind.wrap .i64 (Int.tdiv p0.eU 2))))+p0.eU))⟩:aI) trivial rfl j [(0,(vi (IntKind.wrap .i64 (p0.At.X - (IntKind.wrap .i64 (Int.tdiv p0.eU 2)))))),(1,(vi (IntKind.wrap .i64 (p0.At.Y - (IntKind.wrap .i64 (Int.tdiv p0.eU 2)))))),(2,(vi (IntKind.wrap .i64 ((IntKind.wrap .i64 (p0.At.X - (IntKind.wrap .i64 (Int.tdiv p0.eU 2))))+p0.eU)))),(3,(vi (IntKind.wrap .i64 ((IntKind.wrap .i64 (p0.At.Y - (IntKind.wrap .i64 (Int.tdiv p0.eU 2))))+p0.eU))))] rfl B7 rfl (fun M hs g=>by have h:=qN M;exact cL.cons (f:=fun(x:aI) y=>{x with X0:=y}) h o7 (g.sat 3 _ rfl).1 fun _ h=>cL.cons (f:=fun(x:aI) y=>{x with Y0:=y}) h rH (g.sat 2 _ rfl).1 fun _ h=>cL.cons (f:=fun(x:aI) y=>{x with X1:=y}) h nA (g.sat 1 _ rfl).1 fun _ h=>cL.cons (f:=fun(x:aI) y=>{x with Y1:=y}) h o8 (g.sat 0 _ rfl).1 fun _ h=>cL.nil h) fun ad j=>?_
 refine RL.bA 5 j 0 zr fC fun w j=>?_
 refine RL.nt (RC.ret ?_)
 obtain rfl:=oi o
 exact Es 5 zr j zr zr fC fun ae j=>(j.pk 9 [0])
theorem sd {p0: (List aA)} {res:aI} (j:Holds E w V) (h0:V[i0]? =some (rd v0 p0)) (hb:kN N p0=some res):
    Calls bG 131 [v0].toArray w (gH (oC E V res)):=by
 unfold kN at hb
 refine enter Tryz.func131 zr zr ?_
 have j:=j.dup (i0+0) h0
 refine RC.sr (RL.alloc j mo.z fun bc w j=>?_)
 refine RL.nq ?_
 obtain⟨bh,bn,hb⟩:=bd hb
 obtain⟨ba,bo,hb⟩:=bd hb
 obtain⟨a7,bp,hb⟩:=bd hb
 obtain⟨bj,bq,hb⟩:=bd hb
 obtain⟨bb,br,hb⟩:=bd hb
 obtain⟨a8,bt,hb⟩:=bd hb
 refine RC.Ei E V mixed [1,0,0,0,0,0,1,0,0,0,1,0,0,0,0,0,1,1,0,1,0,0,0,0,0,0] [1,2,3,4,7,8,11,12,13,14,20,21,23,24,25] (fun(x:Value×Value×Value×Value×Value×Value×Value×Value×Value×Value×Value×Value×Value×Nat)=>(fun ah ai aj ak al an ao aq ar au av aw ax ae=>[(0,6,v0),(1,7,ah),(2,8,ai),(3,9,aj),(4,10,ak),(5,11,(vi ba)),(6,12,v0),(7,13,al),(8,14,an),(9,15,(vi a7.Y0)),(10,16,v0),(11,17,ao),(12,18,aq),(13,19,ar),(14,20,au),(15,21,(vi bb)),(16,22,v0),(17,23,v0),(18,24,(vi p0.length)),(19,25,(vi (IntKind.wrap .i64 ((p0.length:Int) - 1)))),(20,26,av),(21,27,aw),(22,28,(vi a8.Y1)),(23,29,ax),(24,3,(vp ae 0))]) x.1 x.2.1 x.2.2.1 x.2.2.2.1 x.2.2.2.2.1 x.2.2.2.2.2.1 x.2.2.2.2.2.2.1 x.2.2.2.2.2.2.2.1 x.2.2.2.2.2.2.2.2.1 x.2.2.2.2.2.2.2.2.2.1 x.2.2.2.2.2.2.2.2.2.2.1 x.2.2.2.2.2.2.2.2.2.2.2.1 x.2.2.2.2.2.2.2.2.2.2.2.2.1 x.2.2.2.2.2.2.2.2.2.2.2.2.2) [(0,v0),(2,vp bc 0)] [] (fun(D:Nat->Bool) (x:Value×Value×Value×Value×Value×Value×Value×Value×Value×Value×Value×Value×Value×Nat)=>(fun ah ai aj ak al an ao aq ar au av aw ax ae=>[bif D 0 then (pt ah bh) else aX,bif D 1 then (pt ai bh.Xs) else aX,bif D 2 then (rd aj bh.Xs) else aX,bif D 3 then (pt ak ba) else aX,bif D 4 then (pt al a7) else aX,bif D 5 then (pt an a7.Y0) else aX,bif D 6 then (pt ao bj) else aX,bif D 7 then (pt aq bj.Xs) else aX,bif D 8 then (rd ar bj.Xs) else aX,bif D 9 then (pt au bb) else aX,bif D 10 then (pt av a8) else aX,bif D 11 then (pt aw a8.Y1) else aX,bif D 12 then (rd ax (⟨ba,a7.Y0,bb,a8.Y1⟩:aI)) else aX,bif D 14 then (bx 74 ae (⟨ba,a7.Y0,bb,a8.Y1⟩:aI)) else (bif D 13 then (raw 74 ae 4) else aX),raw 74 bc 4,rd v0 p0]) x.1 x.2.1 x.2.2.1 x.2.2.2.1 x.2.2.2.2.1 x.2.2.2.2.2.1 x.2.2.2.2.2.2.1 x.2.2.2.2.2.2.2.1 x.2.2.2.2.2.2.2.2.1 x.2.2.2.2.2.2.2.2.2.1 x.2.2.2.2.2.2.2.2.2.2.1 x.2.2.2.2.2.2.2.2.2.2.2.1 x.2.2.2.2.2.2.2.2.2.2.2.2.1 x.2.2.2.2.2.2.2.2.2.2.2.2.2) (fun x=>by kernel_rfl) ?_ ⟨fun _=>jD gn,?_,?_,?_,?_,?_,fun _=>jD gn,?_,?_,?_,fun _=>jD gn,?_,?_,?_,?_,?_,fun _=>jD gn,fun _=>jD gn,?_,fun _=>Gn gn rfl,?_,?_,?_,?_,?_,?_,trivial⟩ ?_
 ·have j:=((((((((((((j.drew).aX).aX).aX).aX).aX).aX).aX).aX).aX).aX).aX).aX
  have j:=(j.aX).aX
  exact⟨(undef,undef,undef,undef,undef,undef,undef,undef,undef,undef,undef,undef,undef,0),eF.none,(CN zr),zt,j⟩
 ·rintro D U w hD o ag ⟨⟨ah,ai,aj,ak,al,an,ao,aq,ar,au,av,aw,ax,ae⟩,hv,ha,_,j⟩
  obtain⟨O,rfl⟩:=(ac (hv.at 0 rfl (o.1 rfl)) az).fx
  have j:=j.cA 0 hD
  refine RL.cC 15 j jW bn fun bu j=>?_
  have j:=(j.pl 17 [0,2,3,4,5,6,7,8,9,10,11,12,13,14,15,16]).cK 0 true aX
  exact RL.nil ⟨rfl,(bu,ai,aj,ak,al,an,ao,aq,ar,au,av,aw,ax,ae),hv.pu 1,ha.u,zt,j⟩
 ·rintro D U w hD o ag ⟨⟨ah,ai,aj,ak,al,an,ao,aq,ar,au,av,aw,ax,ae⟩,hv,ha,_,j⟩
  obtain⟨O,rfl⟩:=(ac (hv.at 1 rfl (o.1 rfl)) az).fx
  have j:=(j.cJ 0 (o.1 rfl)).cA 1 hD
  refine RL.ig 0 j zr kd dB fun bw j=>?_
  have j:=((j.pl 17 [1,0,3,4,5,6,7,8,9,10,11,12,13,14,15,16]).cK (hb:=o.1 rfl) 0 (D 1) aX).cK 1 true aX
  exact RL.nil ⟨rfl,(ah,bw,aj,ak,al,an,ao,aq,ar,au,av,aw,ax,ae),hv.pu 2,ha.u,zt,j⟩
 ·rintro D U w hD o ag ⟨⟨ah,ai,aj,ak,al,an,ao,aq,ar,au,av,aw,ax,ae⟩,hv,ha,_,j⟩
  obtain⟨O,rfl⟩:=(ac (hv.at 2 rfl (o.1 rfl)) az).fx
  have j:=(j.cJ 1 (o.1 rfl)).cA 2 hD
  refine RL.bO 1 bh.Xs j fz fun bz j=>?_
  have j:=((j.pl 17 [1,2,0,4,5,6,7,8,9,10,11,12,13,14,15,16]).cK (hb:=o.1 rfl) 1 (D 2) aX).cK 2 true aX
  exact RL.nil ⟨rfl,(ah,ai,bz,ak,al,an,ao,aq,ar,au,av,aw,ax,ae),hv.pu 3,ha.u,zt,j⟩
 ·rintro D U w hD o ag ⟨⟨ah,ai,aj,ak,al,an,ao,aq,ar,au,av,aw,ax,ae⟩,hv,ha,_,j⟩
  obtain⟨O,rfl⟩:=(ac (hv.at 3 rfl (o.1 rfl)) az).fx
  have j:=(j.cJ 2 (o.1 rfl)).cA 3 hD
  refine RL.cC 2 j eD bo fun b0 j=>?_
  have j:=((j.pl 17 [1,2,3,0,5,6,7,8,9,10,11,12,13,14,15,16]).cK (hb:=o.1 rfl) 2 (D 3) aX).cK 3 true aX
  exact RL.nil ⟨rfl,(ah,ai,aj,b0,al,an,ao,aq,ar,au,av,aw,ax,ae),hv.pu 4,ha.u,zt,j⟩
 ·rintro D U w hD o ag ⟨⟨ah,ai,aj,ak,al,an,ao,aq,ar,au,av,aw,ax,ae⟩,hv,ha,_,j⟩
  obtain⟨O,rfl⟩:=(ac (hv.at 4 rfl (o.1 rfl)) az).fx
  have j:=j.cJ 3 (o.1 rfl)
  refine RL.bI ba 3 j cH ?_
  have j:=j.cK (hb:=o.1 rfl) 3 (D 4) aX
  exact RL.nil ⟨rfl,(ah,ai,aj,ak,al,an,ao,aq,ar,au,av,aw,ax,ae),hv.pu 5,ha.u,zt,j⟩
 ·rintro D U w hD o ag ⟨⟨ah,ai,aj,ak,al,an,ao,aq,ar,au,av,aw,ax,ae⟩,hv,ha,_,j⟩
  obtain⟨O,rfl⟩:=(ac (hv.at 6 rfl (o.1 rfl)) az).fx
  have j:=j.cA 4 hD
  refine RL.cC 15 j jW bp fun b1 j=>?_
  have j:=(j.pl 17 [1,2,3,4,0,6,7,8,9,10,11,12,13,14,15,16]).cK 4 true aX
  exact RL.nil ⟨rfl,(ah,ai,aj,ak,b1,an,ao,aq,ar,au,av,aw,ax,ae),hv.pu 7,ha.u,zt,j⟩
 ·rintro D U w hD o ag ⟨⟨ah,ai,aj,ak,al,an,ao,aq,ar,au,av,aw,ax,ae⟩,hv,ha,_,j⟩
  obtain⟨O,rfl⟩:=(ac (hv.at 7 rfl (o.1 rfl)) az).fx
  have j:=(j.cJ 4 (o.1 rfl)).cA 5 hD
  refine RL.ig 4 j zr nk fH fun b2 j=>?_
  have j:=((j.pl 17 [1,2,3,4,5,0,7,8,9,10,11,12,13,14,15,16]).cK (hb:=o.1 rfl) 4 (D 7) aX).cK 5 true aX
  exact RL.nil ⟨rfl,(ah,ai,aj,ak,al,b2,ao,aq,ar,au,av,aw,ax,ae),hv.pu 8,ha.u,zt,j⟩
 ·rintro D U w hD o ag ⟨⟨ah,ai,aj,ak,al,an,ao,aq,ar,au,av,aw,ax,ae⟩,hv,ha,_,j⟩
  obtain⟨O,rfl⟩:=(ac (hv.at 8 rfl (o.1 rfl)) az).fx
  have j:=j.cJ 5 (o.1 rfl)
  refine RL.bI a7.Y0 5 j cH ?_
  have j:=j.cK (hb:=o.1 rfl) 5 (D 8) aX
  exact RL.nil ⟨rfl,(ah,ai,aj,ak,al,an,ao,aq,ar,au,av,aw,ax,ae),hv.pu 9,ha.u,zt,j⟩
 ·rintro D U w hD o ag ⟨⟨ah,ai,aj,ak,al,an,ao,aq,ar,au,av,aw,ax,ae⟩,hv,ha,_,j⟩
  obtain⟨O,rfl⟩:=(ac (hv.at 10 rfl (o.1 rfl)) az).fx
  have j:=j.cA 6 hD
  refine RL.cC 15 j jW bq fun b3 j=>?_
  have j:=(j.pl 17 [1,2,3,4,5,6,0,8,9,10,11,12,13,14,15,16]).cK 6 true aX
  exact RL.nil ⟨rfl,(ah,ai,aj,ak,al,an,b3,aq,ar,au,av,aw,ax,ae),hv.pu 11,ha.u,zt,j⟩
 ·rintro D U w hD o ag ⟨⟨ah,ai,aj,ak,al,an,ao,aq,ar,au,av,aw,ax,ae⟩,hv,ha,_,j⟩
  obtain⟨O,rfl⟩:=(ac (hv.at 11 rfl (o.1 rfl)) az).fx
  have j:=(j.cJ 6 (o.1 rfl)).cA 7 hD
  refine RL.ig 6 j zr kd dB fun b4 j=>?_
  have j:=((j.pl 17 [1,2,3,4,5,6,7,0,9,10,11,12,13,14,15,16]).cK (hb:=o.1 rfl) 6 (D 11) aX).cK 7 true aX
  exact RL.nil ⟨rfl,(ah,ai,aj,ak,al,an,ao,b4,ar,au,av,aw,ax,ae),hv.pu 12,ha.u,zt,j⟩
 ·rintro D U w hD o ag ⟨⟨ah,ai,aj,ak,al,an,ao,aq,ar,au,av,aw,ax,ae⟩,hv,ha,_,j⟩
  obtain⟨O,rfl⟩:=(ac (hv.at 12 rfl (o.1 rfl)) az).fx
  have j:=(j.cJ 7 (o.1 rfl)).cA 8 hD
  refine RL.bO 7 bj.Xs j fz fun b5 j=>?_
  have j:=((j.pl 17 [1,2,3,4,5,6,7,8,0,10,11,12,13,14,15,16]).cK (hb:=o.1 rfl) 7 (D 12) aX).cK 8 true aX
  exact RL.nil ⟨rfl,(ah,ai,aj,ak,al,an,ao,aq,b5,au,av,aw,ax,ae),hv.pu 13,ha.u,zt,j⟩
 ·rintro D U w hD o ag ⟨⟨ah,ai,aj,ak,al,an,ao,aq,ar,au,av,aw,ax,ae⟩,hv,ha,_,j⟩
  obtain⟨O,rfl⟩:=(ac (hv.at 13 rfl (o.1 rfl)) az).fx
  have j:=(j.cJ 8 (o.1 rfl)).cA 9 hD
  refine RL.cC 8 j eD br fun b6 j=>?_
  have j:=((j.pl 17 [1,2,3,4,5,6,7,8,9,0,11,12,13,14,15,16]).cK (hb:=o.1 rfl) 8 (D 13) aX).cK 9 true aX
  exact RL.nil ⟨rfl,(ah,ai,aj,ak,al,an,ao,aq,ar,b6,av,aw,ax,ae),hv.pu 14,ha.u,zt,j⟩
 ·rintro D U w hD o ag ⟨⟨ah,ai,aj,ak,al,an,ao,aq,ar,au,av,aw,ax,ae⟩,hv,ha,_,j⟩
  obtain⟨O,rfl⟩:=(ac (hv.at 14 rfl (o.1 rfl)) az).fx
  have j:=j.cJ 9 (o.1 rfl)
  refine RL.bI bb 9 j cH ?_
  have j:=j.cK (hb:=o.1 rfl) 9 (D 14) aX
  exact RL.nil ⟨rfl,(ah,ai,aj,ak,al,an,ao,aq,ar,au,av,aw,ax,ae),hv.pu 15,ha.u,zt,j⟩
 ·rintro D U w hD o ag ⟨⟨ah,ai,aj,ak,al,an,ao,aq,ar,au,av,aw,ax,ae⟩,hv,ha,_,j⟩
  obtain⟨O,rfl⟩:=(ac (hv.at 17 rfl (o.1 rfl)) az).fx
  refine RL.bB 15 p0 j m5 ?_
  exact RL.nil ⟨rfl,(ah,ai,aj,ak,al,an,ao,aq,ar,au,av,aw,ax,ae),hv.pu 18,ha.u,zt,j⟩
 ·rintro D U w hD o ag ⟨⟨ah,ai,aj,ak,al,an,ao,aq,ar,au,av,aw,ax,ae⟩,hv,ha,_,j⟩
  obtain⟨O,rfl⟩:=(ac (hv.at 16 rfl (o.1 rfl)) (ac (hv.at 19 rfl (o.2.1 rfl)) az)).fx
  have j:=j.cA 10 hD
  refine RL.cC 15 j jW bt fun b7 j=>?_
  have j:=(j.pl 17 [1,2,3,4,5,6,7,8,9,10,0,12,13,14,15,16]).cK 10 true aX
  exact RL.nil ⟨rfl,(ah,ai,aj,ak,al,an,ao,aq,ar,au,b7,aw,ax,ae),hv.pu 20,ha.u,zt,j⟩
 ·rintro D U w hD o ag ⟨⟨ah,ai,aj,ak,al,an,ao,aq,ar,au,av,aw,ax,ae⟩,hv,ha,_,j⟩
  obtain⟨O,rfl⟩:=(ac (hv.at 20 rfl (o.1 rfl)) az).fx
  have j:=(j.cJ 10 (o.1 rfl)).cA 11 hD
  refine RL.ig 10 j zr ly eC fun b8 j=>?_
  have j:=((j.pl 17 [1,2,3,4,5,6,7,8,9,10,11,0,13,14,15,16]).cK (hb:=o.1 rfl) 10 (D 20) aX).cK 11 true aX
  exact RL.nil ⟨rfl,(ah,ai,aj,ak,al,an,ao,aq,ar,au,av,b8,ax,ae),hv.pu 21,ha.u,zt,j⟩
 ·rintro D U w hD o ag ⟨⟨ah,ai,aj,ak,al,an,ao,aq,ar,au,av,aw,ax,ae⟩,hv,ha,_,j⟩
  obtain⟨O,rfl⟩:=(ac (hv.at 21 rfl (o.1 rfl)) az).fx
  have j:=j.cJ 11 (o.1 rfl)
  refine RL.bI a8.Y1 11 j cH ?_
  have j:=j.cK (hb:=o.1 rfl) 11 (D 21) aX
  exact RL.nil ⟨rfl,(ah,ai,aj,ak,al,an,ao,aq,ar,au,av,aw,ax,ae),hv.pu 22,ha.u,zt,j⟩
 ·rintro D U w hD o ag ⟨⟨ah,ai,aj,ak,al,an,ao,aq,ar,au,av,aw,ax,ae⟩,hv,ha,_,j⟩
  obtain⟨O,rfl⟩:=(ac (hv.at 5 rfl (o.1 rfl)) (ac (hv.at 9 rfl (o.2.1 rfl)) (ac (hv.at 15 rfl (o.2.2.1 rfl)) (ac (hv.at 22 rfl (o.2.2.2.1 rfl)) az)))).fx
  have j:=((((j.cA 12 hD).sc Int ba).sc Int a7.Y0).sc Int bb).sc Int a8.Y1
  refine RL.build (⟨ba,a7.Y0,bb,a8.Y1⟩:aI) trivial rfl j [(0,vi ba),(1,vi a7.Y0),(2,vi bb),(3,vi a8.Y1)] rfl B7 rfl (fun M hs g=>by have h:=qN M;exact cL.cons (f:=fun(x:aI) y=>{x with X0:=y}) h o7 (g.sat 3 _ rfl).1 fun _ h=>cL.cons (f:=fun(x:aI) y=>{x with Y0:=y}) h rH (g.sat 2 _ rfl).1 fun _ h=>cL.cons (f:=fun(x:aI) y=>{x with X1:=y}) h nA (g.sat 1 _ rfl).1 fun _ h=>cL.cons (f:=fun(x:aI) y=>{x with Y1:=y}) h o8 (g.sat 0 _ rfl).1 fun _ h=>cL.nil h) fun b9 j=>?_
  have j:=(j.pl 21 [5,6,7,8,9,10,11,12,13,14,15,16,0,18,19,20]).cK 12 true aX
  exact RL.nil ⟨rfl,(ah,ai,aj,ak,al,an,ao,aq,ar,au,av,aw,b9,ae),hv.pu 23,ha.u,zt,j⟩
 ·rintro D U w hD o ag ⟨⟨ah,ai,aj,ak,al,an,ao,aq,ar,au,av,aw,ax,ae⟩,hv,ha,_,j⟩
  obtain⟨O,rfl⟩:=(az (U:=U)).fx
  have j:=(j.cA 13 (nh ag hD 25)).cA 13 hD
  refine RL.alloc j mo.z fun bk w j=>?_
  have j:=((j.pl 17 [1,2,3,4,5,6,7,8,9,10,11,12,13,0,15,16]).cK 13 true aX).fu 13 (D 25) (nh ag hD 25) (bx 74 bk (⟨ba,a7.Y0,bb,a8.Y1⟩:aI))
  exact RL.nil ⟨rfl,(ah,ai,aj,ak,al,an,ao,aq,ar,au,av,aw,ax,bk),hv.pu 24,ha.u,zt,j⟩
 ·rintro D U w hD o ag ⟨⟨ah,ai,aj,ak,al,an,ao,aq,ar,au,av,aw,ax,ae⟩,hv,ha,_,j⟩
  obtain⟨O,rfl⟩:=(ac (hv.at 23 rfl (o.2.1 rfl)) (ac (hv.at 24 rfl (o.1 rfl)) az)).fx
  have j:=((j.cJ 12 (o.2.1 rfl)).cA 13 hD).cJ 13 (o.1 rfl)
  refine RL.bA 13 j 12 zr fC fun w j=>?_
  have j:=(j.cK (hb:=o.2.1 rfl) 12 (D 23) aX).cK 13 true (bif D 24 then (raw 74 ae 4) else aX)
  exact RL.nil ⟨rfl,(ah,ai,aj,ak,al,an,ao,aq,ar,au,av,aw,ax,ae),hv.n1,ha,zt,j⟩
 rintro D U w a5 ⟨⟨ah,ai,aj,ak,al,an,ao,aq,ar,au,av,aw,ax,ae⟩,hv,ha,_,j⟩
 have j:=((((((j.cJ 0 (jT a5 1)).cJ 1 (jT a5 2)).cJ 2 (jT a5 3)).cJ 3 (jT a5 4)).cJ 4 (jT a5 7)).cJ 5 (jT a5 8)).cJ 6 (jT a5 11)
 have j:=((((((j.cJ 7 (jT a5 12)).cJ 8 (jT a5 13)).cJ 9 (jT a5 14)).cJ 10 (jT a5 20)).cJ 11 (jT a5 21)).cJ 12 (jT a5 23)).cJ 13 (jT a5 25)
 obtain⟨O,rfl⟩:=(ac (hv.at 24 rfl (jT a5 24)) (ac (ha.at 0 rfl) (ac (ha.at 1 rfl) az))).fx
 refine aG (RC.seq (RC.sr (mv v0 (RL.bB 15 p0 j m5 (mv (vi 0) (RL.nt ?_))))))
 obtain⟨af,hN,hb⟩:=bd hb
 refine RC.fold (fun(bf:Nat) (af:aI)=>SH E V [(2,vp bc 0),(3,vp ae 0),(30,v0),(31,vi p0.length),(32,vi bf)] [raw 74 bc 4,bx 74 ae af,rd v0 p0]) (fun(af:aI)=>SH E V [(2,vp bc 0),(3,vp ae 0)] [raw 74 bc 4,bx 74 ae af,rd v0 p0]) hN ?_ ?_ ?_ ?_
 ·exact j.sp 16 [14,13,15]
 ·rintro hm af _ w ⟨O,rfl,j⟩
  refine RC.sr (ic ((p0.length:Int)) ((p0.length:Int)) (RL.nq (RC.cO l9 (RC.ex ?_))))
  exact⟨rfl,j.sp 3 [0,1,2]⟩
 ·rintro hm bf af s' _ w hk ⟨O,rfl,j⟩ hb
  refine RC.sr (ic ((bf:Int)) ((p0.length:Int)) (RL.nq (RC.cN (l8 hk) (RC.ss (RC.bs ?_)))))
  obtain⟨a9,cb,hb⟩:=bd hb
  refine RL.cC 2 j jW cb fun cc j=>(RL.bO 0 a9 j tV fun cd j=>(RL.alloc j A1.z fun bg w j=>?_))
  refine RL.bA 0 j 1 zr tV fun w j=>?_
  refine RL.nt ?_
  obtain⟨a4,cf,hb⟩:=bd hb
  obtain⟨a6,cg,hb⟩:=bd hb
  refine RC.Ei E V mixed [1,0,1,0,0,0,0,1,0,1,0,1,0,0,1,0,0,0,1,0,1,0] [3,4,10,12,15,19,21] (fun(x:Value×Value×Value×Value×Value)=>(fun ay a0 a1 a2 a3=>[(0,36,(vp ae 0)),(1,37,(vi af.X0)),(2,38,(vp bg 2)),(3,39,ay),(4,40,a0),(5,41,(vi a4)),(6,42,(vi (if a4<af.X0 then a4 else af.X0))),(7,43,(vp ae 2)),(8,44,(vi af.X1)),(9,45,(vp bg 2)),(10,46,a1),(11,47,(vp bg 2)),(12,48,a2),(13,49,(vi a9.Xs.length)),(14,50,(vi (IntKind.wrap .i64 ((a9.Xs.length:Int) - 1)))),(15,51,a3),(16,52,(vi a6)),(17,53,(vi (if af.X1<a6 then a6 else af.X1))),(18,54,(vp ae 0)),(20,55,(vp ae 2))]) x.1 x.2.1 x.2.2.1 x.2.2.2.1 x.2.2.2.2) [(2,vp bc 0),(3,vp ae 0),(5,vp bg 0),(30,v0),(31,vi p0.length),(32,vi bf)] [] (fun(D:Nat->Bool) (x:Value×Value×Value×Value×Value)=>(fun ay a0 a1 a2 a3=>[bif D 0 then (rd ay a9.Xs) else aX,bif D 1 then (pt a0 a4) else aX,bif D 2 then (rd a1 a9.Xs) else aX,bif D 3 then (rd a2 a9.Xs) else aX,bif D 4 then (pt a3 a6) else aX,bx 187 bg a9,rd cd a9,pt cc a9,raw 74 bc 4,bif D 6 then (bx 74 ae {{af with X0:=(if a4<af.X0 then a4 else af.X0)} with X1:=(if af.X1<a6 then a6 else af.X1)}) else (bif D 5 then (bx 74 ae {af with X0:=(if a4<af.X0 then a4 else af.X0)}) else (bx 74 ae af)),rd v0 p0]) x.1 x.2.1 x.2.2.1 x.2.2.2.1 x.2.2.2.2) (fun x=>by kernel_rfl) ?_ ⟨fun _=>mi gn jh,?_,fun _=>mi gn kd,?_,?_,?_,?_,fun _=>mi gn kx,?_,fun _=>mi gn kd,?_,fun _=>mi gn kd,?_,?_,fun _=>Gn gn rfl,?_,?_,?_,fun _=>mi gn jh,?_,fun _=>mi gn kx,?_,trivial⟩ ?_
  ·have j:=(((((j.drew).aX).aX).aX).aX).aX
   exact⟨(undef,undef,undef,undef,undef),eF.none,(CN zr),zt,j⟩
  ·rintro D U w hD o ag ⟨⟨ay,a0,a1,a2,a3⟩,hv,ha,_,j⟩
   obtain⟨O,rfl⟩:=(ac (hv.at 0 rfl (o.1 rfl)) az).fx
   have j:=(j.cA 9 (nh ag hD 21)).cA 9 (nh ag hD 19)
   refine RL.aL 9 j zr eM cH ?_
   have j:=(j.fu 9 (D 19) (nh ag hD 19) (bx 74 ae {af with X0:=(if a4<af.X0 then a4 else af.X0)})).fu 9 (D 21) (nh ag hD 21) (bx 74 ae {{af with X0:=(if a4<af.X0 then a4 else af.X0)} with X1:=(if af.X1<a6 then a6 else af.X1)})
   exact RL.nil ⟨rfl,(ay,a0,a1,a2,a3),hv.pu 1,ha.u,zt,j⟩
  ·rintro D U w hD o ag ⟨⟨ay,a0,a1,a2,a3⟩,hv,ha,_,j⟩
   obtain⟨O,rfl⟩:=(ac (hv.at 2 rfl (o.1 rfl)) az).fx
   have j:=j.cA 0 hD
   refine RL.aS 5 j zr dB fz fun ch j=>?_
   have j:=(j.pl 12 [0,2,3,4,5,6,7,8,9,10,11]).cK 0 true aX
   exact RL.nil ⟨rfl,(ch,a0,a1,a2,a3),hv.pu 3,ha.u,zt,j⟩
  ·rintro D U w hD o ag ⟨⟨ay,a0,a1,a2,a3⟩,hv,ha,_,j⟩
   obtain⟨O,rfl⟩:=(ac (hv.at 3 rfl (o.1 rfl)) az).fx
   have j:=(j.cJ 0 (o.1 rfl)).cA 1 hD
   refine RL.cC 0 j eD cf fun cj j=>?_
   have j:=((j.pl 12 [1,0,3,4,5,6,7,8,9,10,11]).cK (hb:=o.1 rfl) 0 (D 3) aX).cK 1 true aX
   exact RL.nil ⟨rfl,(ay,cj,a1,a2,a3),hv.pu 4,ha.u,zt,j⟩
  ·rintro D U w hD o ag ⟨⟨ay,a0,a1,a2,a3⟩,hv,ha,_,j⟩
   obtain⟨O,rfl⟩:=(ac (hv.at 4 rfl (o.1 rfl)) az).fx
   have j:=j.cJ 1 (o.1 rfl)
   refine RL.bI a4 1 j cH ?_
   have j:=j.cK (hb:=o.1 rfl) 1 (D 4) aX
   exact RL.nil ⟨rfl,(ay,a0,a1,a2,a3),hv.pu 5,ha.u,zt,j⟩
  ·rintro D U w hD o ag ⟨⟨ay,a0,a1,a2,a3⟩,hv,ha,_,j⟩
   obtain⟨O,rfl⟩:=(ac (hv.at 1 rfl (o.1 rfl)) (ac (hv.at 5 rfl (o.2.1 rfl)) az)).fx
   refine RL.min af.X0 a4 ?_
   exact RL.nil ⟨rfl,(ay,a0,a1,a2,a3),hv.pu 6,ha.u,zt,j⟩
  ·rintro D U w hD o ag ⟨⟨ay,a0,a1,a2,a3⟩,hv,ha,_,j⟩
   obtain⟨O,rfl⟩:=(ac (hv.at 7 rfl (o.1 rfl)) az).fx
   have j:=(j.cA 9 (nh ag hD 21)).cA 9 (nh ag hD 19)
   refine RL.aL 9 j zr gk cH ?_
   have j:=(j.fu 9 (D 19) (nh ag hD 19) (bx 74 ae {af with X0:=(if a4<af.X0 then a4 else af.X0)})).fu 9 (D 21) (nh ag hD 21) (bx 74 ae {{af with X0:=(if a4<af.X0 then a4 else af.X0)} with X1:=(if af.X1<a6 then a6 else af.X1)})
   exact RL.nil ⟨rfl,(ay,a0,a1,a2,a3),hv.pu 8,ha.u,zt,j⟩
  ·rintro D U w hD o ag ⟨⟨ay,a0,a1,a2,a3⟩,hv,ha,_,j⟩
   obtain⟨O,rfl⟩:=(ac (hv.at 9 rfl (o.1 rfl)) az).fx
   have j:=j.cA 2 hD
   refine RL.aS 5 j zr dB fz fun ck j=>?_
   have j:=(j.pl 12 [1,2,0,4,5,6,7,8,9,10,11]).cK 2 true aX
   exact RL.nil ⟨rfl,(ay,a0,ck,a2,a3),hv.pu 10,ha.u,zt,j⟩
  ·rintro D U w hD o ag ⟨⟨ay,a0,a1,a2,a3⟩,hv,ha,_,j⟩
   obtain⟨O,rfl⟩:=(ac (hv.at 11 rfl (o.1 rfl)) az).fx
   have j:=j.cA 3 hD
   refine RL.aS 5 j zr dB fz fun cl j=>?_
   have j:=(j.pl 12 [1,2,3,0,5,6,7,8,9,10,11]).cK 3 true aX
   exact RL.nil ⟨rfl,(ay,a0,a1,cl,a3),hv.pu 12,ha.u,zt,j⟩
  ·rintro D U w hD o ag ⟨⟨ay,a0,a1,a2,a3⟩,hv,ha,_,j⟩
   obtain⟨O,rfl⟩:=(ac (hv.at 12 rfl (o.1 rfl)) az).fx
   have j:=j.cJ 3 (o.1 rfl)
   refine RL.bB 3 a9.Xs j lQ ?_
   have j:=j.cK (hb:=o.1 rfl) 3 (D 12) aX
   exact RL.nil ⟨rfl,(ay,a0,a1,a2,a3),hv.pu 13,ha.u,zt,j⟩
  ·rintro D U w hD o ag ⟨⟨ay,a0,a1,a2,a3⟩,hv,ha,_,j⟩
   obtain⟨O,rfl⟩:=(ac (hv.at 10 rfl (o.1 rfl)) (ac (hv.at 14 rfl (o.2.1 rfl)) az)).fx
   have j:=(j.cJ 2 (o.1 rfl)).cA 4 hD
   refine RL.cC 2 j eD cg fun cm j=>?_
   have j:=((j.pl 12 [1,2,3,4,0,6,7,8,9,10,11]).cK (hb:=o.1 rfl) 2 (D 10) aX).cK 4 true aX
   exact RL.nil ⟨rfl,(ay,a0,a1,a2,cm),hv.pu 15,ha.u,zt,j⟩
  ·rintro D U w hD o ag ⟨⟨ay,a0,a1,a2,a3⟩,hv,ha,_,j⟩
   obtain⟨O,rfl⟩:=(ac (hv.at 15 rfl (o.1 rfl)) az).fx
   have j:=j.cJ 4 (o.1 rfl)
   refine RL.bI a6 4 j cH ?_
   have j:=j.cK (hb:=o.1 rfl) 4 (D 15) aX
   exact RL.nil ⟨rfl,(ay,a0,a1,a2,a3),hv.pu 16,ha.u,zt,j⟩
  ·rintro D U w hD o ag ⟨⟨ay,a0,a1,a2,a3⟩,hv,ha,_,j⟩
   obtain⟨O,rfl⟩:=(ac (hv.at 8 rfl (o.1 rfl)) (ac (hv.at 16 rfl (o.2.1 rfl)) az)).fx
   refine RL.max af.X1 a6 ?_
   exact RL.nil ⟨rfl,(ay,a0,a1,a2,a3),hv.pu 17,ha.u,zt,j⟩
  ·rintro D U w hD o ag ⟨⟨ay,a0,a1,a2,a3⟩,hv,ha,_,j⟩
   obtain⟨O,rfl⟩:=(ac (hv.at 6 rfl (o.2.1 rfl)) (ac (hv.at 18 rfl (o.1 rfl)) az)).fx
   have j:=((j.cA 9 (nh ag hD 21)).cA 9 hD).sc Int (if a4<af.X0 then a4 else af.X0)
   refine RL.tC 10 j zr zr zr 0 zr o7 cH fun w j=>?_
   have j:=((j.pl 12 [1,2,3,4,5,6,7,8,9,10,11]).cK 9 true (bx 74 ae af)).fu 9 (D 21) (nh ag hD 21) (bx 74 ae {{af with X0:=(if a4<af.X0 then a4 else af.X0)} with X1:=(if af.X1<a6 then a6 else af.X1)})
   exact RL.nil ⟨rfl,(ay,a0,a1,a2,a3),hv.n1,ha,zt,j⟩
  ·rintro D U w hD o ag ⟨⟨ay,a0,a1,a2,a3⟩,hv,ha,_,j⟩
   obtain⟨O,rfl⟩:=(ac (hv.at 17 rfl (o.2.1 rfl)) (ac (hv.at 19 rfl (o.1 rfl)) az)).fx
   have j:=((j.cA 9 hD).cJ 9 (o.2.2.1 rfl)).sc Int (if af.X1<a6 then a6 else af.X1)
   refine RL.tC 10 j zr zr zr 0 zr nA cH fun w j=>?_
   have j:=(j.pl 12 [1,2,3,4,5,6,7,8,9,10,11]).cK 9 true (bif D 19 then (bx 74 ae {af with X0:=(if a4<af.X0 then a4 else af.X0)}) else (bx 74 ae af))
   exact RL.nil ⟨rfl,(ay,a0,a1,a2,a3),hv.n1,ha,zt,j⟩
  rintro D U w a5 ⟨⟨ay,a0,a1,a2,a3⟩,hv,ha,_,j⟩
  have j:=(((((j.cJ 0 (jT a5 3)).cJ 1 (jT a5 4)).cJ 2 (jT a5 10)).cJ 3 (jT a5 12)).cJ 4 (jT a5 15)).cJ 9 (jT a5 21)
  obtain⟨O,rfl⟩:=(ac (ha.at 0 rfl) (ac (ha.at 1 rfl) (ac (ha.at 2 rfl) (ac (ha.at 3 rfl) (ac (ha.at 4 rfl) (ac (ha.at 5 rfl) az)))))).fx
  refine bL (aG (RC.region (RL.inc hk hm (mv (vi ((bf+1:Nat):Int)) (RL.nil ?_)))))
  obtain rfl:=oi hb
  exact⟨rfl,j.sp 11 [8,9,10]⟩
 rintro _ w ⟨O,rfl,j⟩
 refine aG (RC.sr (RL.aS (f:=(fun x=>x)) 1 j zr Fd.self fC fun cn j=>(RL.bA 1 j 0 zr fC fun w j=>?_)))
 refine RL.nt (RC.ret ?_)
 obtain rfl:=oi hb
 exact Es 1 zr j zr zr fC fun cp j=>(j.pk 5 [0])
theorem ug {p0: (List aA)} {res:Bool} (j:Holds E w V) (h0:V[i0]? =some (rd v0 p0)) (hb:kn N p0=some res):
    Calls bG 108 [v0].toArray w (gH (bF E V res)):=by
 unfold kn at hb
 refine enter Tryz.func108 zr zr ?_
 have j:=j.dup (i0+0) h0
 refine RC.sr (aM (vb false) (RL.nq ?_))
 obtain⟨ad,o,hb⟩:=bd hb
 refine RC.jn (fun(ad:Bool)=>SH E V [(2,vb ad)] []) ad ?_ ?_
 ·refine RC.region (mv v0 (RL.bB 0 p0 j m5 (ic ((p0.length:Int)) 0 (mv (vb ((p0.length:Int)==0)) (fM o (fun aa o=>?_) fun aa o=>?_)))))
  ·refine bJ aa (bJ aa (bJ aa (fI aa (vb true) (aM (vb true) (RL.nil ?_)))))
   obtain rfl:=oi o
   exact⟨rfl,j.sp 1 []⟩
  refine RL.move v0 (cg aa) ?_
  obtain⟨ai,af,o⟩:=bd o
  refine RL.call (cg aa) zr IQ [v0] zr (aF (sd N (i0:=0) j zr af) ?_)
  rintro ag w j
  obtain⟨ae,ah,o⟩:=bd o
  refine RL.call (cg aa) zr IA [ag] zr (aF (ql N (i0:=0) j zr ah) ?_)
  rintro _ w ⟨rfl,j⟩
  refine fI aa (vb ae) (aM (vb ae) (RL.nil ?_))
  obtain rfl:=oi o
  exact⟨rfl,j.sp 2 []⟩
 rintro _ w ⟨O,rfl,j⟩
 refine aG (RC.ret ?_)
 obtain rfl:=oi hb
 exact cF ⟨rfl,j.drop 0⟩
def v9 (E:World) (V:List HP) (res:aI×Int) (v:Value) (w:World):Prop:=∃u0:Value,v = .tuple #[u0,(vi res.2)]/\Holds E w ([rd u0 res.1]++V)
theorem vd {p0:bQ} {res:aI×Int} (j:Holds E w V) (h0:V[i0]? =some (rd v0 p0)) (o:j3 N p0=some res):
    Calls bG 72 [v0].toArray w (gH (v9 E V res)):=by
 unfold j3 at o
 refine enter Tryz.func72 zr zr ?_
 have j:=j.dup (i0+0) h0
 refine RC.sr (RL.cY 0 v0 j zr fun af w j=>?_)
 refine RL.alloc j mo.z fun ag w j=>?_
 refine aM (vi 0) (RL.nq (RC.seq ?_))
 obtain⟨ad,hj,o⟩:=bd o
 refine RC.jn (fun(ad:Bool)=>SH E V [(1,vp af 0),(2,vp ag 0),(14,vb ad)] [bx 117 af p0,raw 74 ag 4]) ad ?_ ?_
 ·refine RC.region (RL.aY zr tW (RL.aL 1 j zr pf cH ?_))
  obtain⟨ah,aj,hj⟩:=bd hj
  refine RL.call zt zr Gs [(vi p0.eU),(vi 1),(vi 10000)] zr (aF (kS N (p0:=p0.eU) (p1:=1) (p2:=10000) j aj) ?_)
  rintro _ w ⟨rfl,j⟩
  refine RL.not ah (mv (vb (!ah)) (fM hj (fun aa hj=>?_) fun aa hj=>?_))
  ·refine bJ aa (bJ aa (bJ aa (bJ aa (fI aa (vb true) (RL.nil ?_)))))
   obtain rfl:=oi hj
   exact⟨rfl,j.sp 3 [1,0]⟩
  refine RL.aY (hg:=(cg aa)) zr zA (RL.aS (hg:=(cg aa)) 1 j zr uZ r5 fun ak j=>?_)
  obtain⟨ai,al,hj⟩:=bd hj
  refine RL.call (cg aa) zr IP [ak] zr (aF (po N (i0:=0) j zr al) ?_)
  rintro _ w ⟨rfl,j⟩
  refine RL.not (hg:=(cg aa)) ai (fI aa (vb (!ai)) (RL.nil ?_))
  obtain rfl:=oi hj
  exact⟨rfl,j.sp 4 [2,1]⟩
 rintro _ w ⟨O,rfl,j⟩
 refine aG (eL o (fun hc o=>?_) fun hc o=>?_)
 ·refine RC.sr (RL.build (⟨0,0,0,0⟩:aI) trivial rfl j [] rfl B7 rfl (fun M hs g=>by have h:=qN M;exact cL.nil h) fun a2 j=>?_)
  refine RL.bA 2 j 0 zr fC fun w j=>?_
  refine aM (vi 1) (RL.nt (RC.rt ?_))
  obtain rfl:=oi o
  exact yp 2 j fC fun an j=>⟨an,zr,j.pk 4 [0]⟩
 refine RC.sx (RL.aS (f:=(fun x=>x)) 0 j zr Fd.self kW fun ao j=>?_)
 obtain⟨aq,ar,o⟩:=bd o
 refine RL.call zt zr DD [ao] zr (aF (gD N (i0:=0) j zr ar) ?_)
 rintro a3 w j
 refine RL.alloc j mo.z fun a4 w j=>?_
 refine RL.bA 0 j 1 zr fC fun w j=>?_
 refine RL.nq (RC.sr (RL.aS (f:=(fun x=>x)) 0 j zr Fd.self fC fun au j=>(RL.eJ ([aq]: (List aI)) j [au] ku mo (fun M hs g=>⟨(g.sat 0 _ zr).1,zt⟩) fun av w j=>?_)))
 have j:=j.freeze 0
 obtain⟨a5,aw,o⟩:=bd o
 refine RL.call zt zr ES [av] zr (aF (kA N (i0:=0) j zr aw) ?_)
 rintro ax w j
 have j:=j.freeze 0
 obtain⟨ay,az,o⟩:=bd o
 refine RL.call zt zr IU [ax] zr (aF (ug N (i0:=0) j zr az) ?_)
 rintro _ w ⟨rfl,j⟩
 refine RL.not ay (RL.nt (eL o (fun hc o=>?_) fun hc o=>?_))
 ·refine RC.sr (RL.build (⟨0,0,0,0⟩:aI) trivial rfl j [] rfl B7 rfl (fun M hs g=>by have h:=qN M;exact cL.nil h) fun a6 j=>?_)
  refine RL.bA 8 j 0 zr fC fun w j=>?_
  refine aM (vi 1) (RL.nt (RC.rt ?_))
  obtain rfl:=oi o
  exact yp 8 j fC fun a0 j=>⟨a0,zr,j.pk 10 [0]⟩
 refine RC.sx (RL.aS (f:=(fun x=>x)) 3 j zr Fd.self fC fun a7 j=>(RL.bA 8 j 0 zr fC fun w j=>?_))
 refine aM (vi 0) (RL.nt (RC.ret ?_))
 obtain rfl:=oi o
 exact yp 8 j fC fun a1 j=>⟨a1,zr,j.pk 10 [0]⟩
def sf (E:World) (V:List HP) (r:Int) (U:Nat->Value) (w:World):Prop:=l6 bG 47 Tryz.f47 (aP E V r) .ret U w
theorem qV {p0:iu} (j:Holds E w V) (h0:V[i0]? =some (rd v0 p0)) (o:i5 N p0=some res):
    Calls bG 47 [v0].toArray w (gH (aP E V res)):=by
 unfold i5 at o
 refine enter Tryz.func47 zr zr ?_
 have j:=j.dup (i0+0) h0
 refine RC.sr (RL.cY 0 v0 j zr fun a0 w j=>?_)
 refine aM (vi 0) (RL.nq (RC.sr (RL.aY zr mq (RL.aS 0 j zr qK u7 fun a1 j=>(RL.bB 0 p0.aT j wY (ic ((p0.aT.length:Int)) 500 (RL.nt (eL o (fun hc o=>?_) fun hc o=>?_))))))))
 ·refine RC.sr (aM (vi 2) (RL.nt (RC.rt ?_)))
  obtain rfl:=oi o
  exact cF ⟨rfl,j.drop 3⟩
 refine RC.sx (RL.aY zr u6 (RL.aS 1 j zr pg DB fun a2 j=>(RL.bB 0 p0.aK j A0 (aM (vi p0.aK.length) (RL.nq (RC.sr (RL.aY zr mq (RL.aS 2 j zr qK u7 fun ag j=>?_))))))))
 refine RL.bB 0 p0.aT j wY (mv (vi 0) (RL.nt ?_))
 obtain⟨a3,hN,o⟩:=bd o
 refine RC.range (fun(ah:Nat) (ai:Unit)=>SH E V [(3,vi p0.aK.length),(16,ag),(17,vi p0.aT.length),(18,vi ah)] [rd ag p0.aT]) (fun(ai:Unit)=>SH E V [] [rd ag p0.aT]) (sf E V) hN ?_ ?_ ?_ ?_ ?_
 ·exact j.sp 5 [0]
 ·rintro hm ai _ w ⟨O,rfl,j⟩
  refine RC.sr (ic ((p0.aT.length:Int)) ((p0.aT.length:Int)) (RL.nq (RC.cO l9 (RC.ex ?_))))
  exact⟨rfl,j.sp 1 [0]⟩
 ·rintro hm ah ai fl _ w hk ⟨O,rfl,j⟩ o
  refine RC.sr (ic ((ah:Int)) ((p0.aT.length:Int)) (RL.nq (RC.cN (l8 hk) (RC.ss (RC.bs ?_)))))
  obtain⟨ad,au,o⟩:=bd o
  refine RL.cC 0 j zz au fun a5 j=>(RL.bO 0 ad j kW fun a6 j=>(RL.alloc j yH.z fun a7 w j=>?_))
  refine RL.bA 0 j 1 zr kW fun w j=>?_
  refine RL.nq (RC.sr (RL.aS (f:=(fun x=>x)) 0 j zr Fd.self kW fun av j=>?_))
  obtain⟨ae,aw,o⟩:=bd o
  refine RL.call zt zr KE [av] zr (aF (vd N (i0:=0) j zr aw) ?_)
  rintro _ w ⟨an,rfl,j⟩
  refine mv (.tuple #[an,(vi ae.2)]) (RL.extract an (RL.extract (vi ae.2) (RL.alloc j mo.z fun a8 w j=>?_)))
  refine RL.bA 0 j 1 zr fC fun w j=>?_
  refine aM (vi ae.2) (RL.ns (mv (vi ae.2) (ic ae.2 0 (RL.nt (eL o (fun hc o=>?_) fun hc o=>?_)))))
  ·refine RC.sr (mv (vi ae.2) (aM (vi ae.2) (RL.nt (RC.rt (jF (bV ?_))))))
   obtain rfl:=oi o
   exact⟨rfl,cF ⟨rfl,j.drop 7⟩⟩
  refine RC.ss ?_
  obtain⟨aj,hj,o⟩:=bd o
  refine RC.jn (fun(aj:Bool)=>SH E V [(3,vi p0.aK.length),(16,ag),(17,vi p0.aT.length),(18,vi ah),(45,vb aj)] [rd ag p0.aT]) aj ?_ ?_
  ·refine RC.region (RL.aY zr pR (RL.aL 3 j zr mj cH (mv (vi p0.aK.length) (RL.jl (p0.aK.length:Int) 1 ?_))))
   obtain⟨ao,ax,hj⟩:=bd hj
   refine RL.call zt zr Gs [(vi ad.bR),(vi 0),(vi (IntKind.wrap .i64 ((p0.aK.length:Int) - 1)))] zr (aF (kS N (p0:=ad.bR) (p1:=0) (p2:=(IntKind.wrap .i64 ((p0.aK.length:Int) - 1))) j ax) ?_)
   rintro _ w ⟨rfl,j⟩
   refine RL.not ao (mv (vb (!ao)) (fM hj (fun aa hj=>?_) fun aa hj=>?_))
   ·refine bJ aa (bJ aa (bJ aa (bJ aa (bJ aa (bJ aa (bJ aa (bJ aa (fI aa (vb true) ?_))))))))
    refine RL.nil ?_
    obtain rfl:=oi hj
    exact⟨rfl,j.sp 7 [6]⟩
   refine RL.aY (hg:=(cg aa)) zr rL (RL.aL (hg:=(cg aa)) 3 j zr nB cH (RL.aY (hg:=(cg aa)) zr pR (RL.aL (hg:=(cg aa)) 3 j zr mj cH (RL.move (vi p0.aK.length) (cg aa) (RL.jl (hg:=(cg aa)) (p0.aK.length:Int) 1 ?_)))))
   obtain⟨aq,ay,hj⟩:=bd hj
   refine RL.call (cg aa) zr Gs [(vi ad.To),(vi ad.bR),(vi (IntKind.wrap .i64 ((p0.aK.length:Int) - 1)))] zr (aF (kS N (p0:=ad.To) (p1:=ad.bR) (p2:=(IntKind.wrap .i64 ((p0.aK.length:Int) - 1))) j ay) ?_)
   rintro _ w ⟨rfl,j⟩
   refine RL.not (hg:=(cg aa)) aq (fI aa (vb (!aq)) (RL.nil ?_))
   obtain rfl:=oi hj
   exact⟨rfl,j.sp 7 [6]⟩
  rintro _ w ⟨O,rfl,j⟩
  refine aG (eL o (fun hc o=>?_) fun hc o=>?_)
  rotate_left
  ·refine RC.skip (bL (aG (RC.region (RL.inc hk hm (mv (vi ((ah+1:Nat):Int)) (RL.nil ?_))))))
   obtain rfl:=oi o
   exact⟨rfl,j.sp 1 [0]⟩
  refine RC.sr (aM (vi 1) (RL.nt (RC.rb (bV ?_))))
  obtain rfl:=oi o
  exact⟨rfl,cF ⟨rfl,j.drop 1⟩⟩
 ·intro r U w e hK
  subst e
  refine bV ?_
  obtain rfl:=oi o
  exact hK
 rintro ai _ w rfl ⟨O,rfl,j⟩
 rw [Fo.f0] at o
 refine aG (RC.sr (aM (vi 0) (RL.nt (RC.ret ?_))))
 obtain rfl:=oi o
 exact cF ⟨rfl,j.drop 1⟩
theorem ld {p0:dD} (o:Holds E w V) (j:gu N p0 p1=some res):
    Calls bG 134 [(str p0),(.int .u8 p1)].toArray w (gH (aP E V res)):=by
 unfold gu at j
 refine enter Tryz.func134 zr zr (RC.sr (aM (vi 0) (RL.ns (mv (str p0) (mv (.int .u8 p1) (RL.wG (vi (Lib.indexByte p0.cM (Int.toNat p1).toUInt8)) zr [(str p0),(.int .u8 p1)] zr (KH p0 p1 w) (aM (vi (Lib.indexByte p0.cM (Int.toNat p1).toUInt8)) (RL.nt ?_))))))))
 refine RC.ret ?_
 obtain rfl:=oi j
 exact cF ⟨rfl,o.drop 0⟩
theorem qW {p0 p1:dD} (o:Holds E w V) (j:i6 N p0 p1=some res):
    Calls bG 196 [(str p0),(str p1)].toArray w (gH (aP E V res)):=by
 unfold i6 at j
 refine enter Tryz.func196 zr zr (RC.sr (aM (vi 0) (RL.ns (mv (str p1) (RL.lens p1 A2 (aM (vi p1.cM.length) (RL.nq (RC.bs ?_))))))))
 refine mv (vi p1.cM.length) (ic ((p1.cM.length:Int)) 0 (mv (vb ((p1.cM.length:Int)==0)) (RL.gs true ((p1.cM.length:Int)==0) (str p1) rfl rfl rfl dR (RL.gs true ((p1.cM.length:Int)==0) (str p0) rfl rfl rfl dR (RL.gs true ((p1.cM.length:Int)==0) (vb (p1.BQ p0)) rfl rfl rfl (Gb (bop:= .eql) (a:=p1) (b:=p0) rfl (fun h=>by exact(cT h:cv (true&&(((p1.cM.length:Int)==0)==false)) (str p1)= (str p1))) (fun h=>by exact(cT h:cv (true&&(((p1.cM.length:Int)==0)==false)) (str p0)= (str p0))) rfl) (RL.pick ((p1.cM.length:Int)==0) (vb (((p1.cM.length:Int)==0)||(p1.BQ p0))) (nE true rfl) (aM (vb (((p1.cM.length:Int)==0)||(p1.BQ p0))) (RL.nt ?_))))))))
 refine eL j (fun hc j=>?_) fun hc j=>?_
 ·refine RC.sr (aM (vi 0) (RL.nt (RC.rb (bV ?_))))
  obtain rfl:=oi j
  exact cF ⟨rfl,o.drop 0⟩
 refine RC.sr (mv (vi p1.cM.length) (ic ((p1.cM.length:Int)) 1 (aM (vb ((p1.cM.length:Int)==1)) (RL.nt (eL j (fun hc j=>?_) fun hc j=>?_)))))
 ·refine RC.sr (mv (str p0) (mv (str p1) ?_))
  obtain⟨ab,ad,j⟩:=bd j
  refine RL.idxs p1 0 ab zr zr zr A2 ad ?_
  obtain⟨ae,af,j⟩:=bd j
  refine RL.call zt zr G7 [(str p0),(.int .u8 (ab.toNat:Int))] zr (aF (ld N (p0:=p0) (p1:=(ab.toNat:Int)) o af) ?_)
  rintro _ w ⟨rfl,o⟩
  refine aM (vi ae) (RL.nt (RC.rb (bV ?_)))
  obtain rfl:=oi j
  exact cF ⟨rfl,o.drop 0⟩
 refine RC.sr (mv (vi p1.cM.length) (mv (str p0) (RL.lens p0 A2 (ic ((p1.cM.length:Int)) ((p0.cM.length:Int)) (aM (vb (decide ((p1.cM.length:Int)>=(p0.cM.length:Int)))) (RL.nt (eL j (fun hc j=>?_) fun hc j=>?_)))))))
 rotate_left
 ·cases j
 refine RC.sr (aM (vi (-1)) (RL.nt (RC.rb (bV ?_))))
 obtain rfl:=oi j
 exact cF ⟨rfl,o.drop 0⟩
theorem pq {p0 p1:dD} (o:Holds E w V) (j:j4 N p0 p1=some res):
    Calls bG 170 [(str p0),(str p1)].toArray w (gH (aP E V res)):=by
 unfold j4 at j
 refine enter Tryz.func170 zr zr (RC.sr (aM (vi 0) (RL.ns (mv (str p0) (mv (str p1) ?_)))))
 obtain⟨aa,ab,j⟩:=bd j
 refine RL.call zt zr IV [(str p0),(str p1)] zr (aF (qW N (p0:=p0) (p1:=p1) o ab) ?_)
 rintro _ w ⟨rfl,o⟩
 refine aM (vi aa) (RL.nt (RC.ret ?_))
 obtain rfl:=oi j
 exact cF ⟨rfl,o.drop 0⟩
def wc (E:World) (V:List HP) (r:Int) (U:Nat->Value) (w:World):Prop:=l6 bG 34 Tryz.f169 (aP E V r) .ret U w
theorem ve {p0 p1:dD} (hw:Holds E w V) (j:k6 N p0 p1=some res):
    Calls bG 169 [(str p0),(str p1)].toArray w (gH (aP E V res)):=by
 unfold k6 at j
 refine enter Tryz.func169 zr zr (RC.sr (aM (vi 0) (RL.nq (RC.sr (mv (str p1) (RL.lens p1 A2 (ic ((p1.cM.length:Int)) 0 (RL.nt ?_))))))))
 refine eL j (fun hc j=>?_) fun hc j=>?_
 ·cases j
 refine RC.ss (RC.sr (mv (str p1) (RL.lens p1 A2 (ic ((p1.cM.length:Int)) 1 (RL.nt (eL j (fun hc j=>?_) fun hc j=>?_))))))
 ·refine RC.sr (mv (str p0) (mv (str p1) ?_))
  obtain⟨ad,af,j⟩:=bd j
  refine RL.idxs p1 0 ad zr zr zr A2 af (RL.wG (vi ((Lib.countByte p0.cM (Int.toNat (ad.toNat:Int)).toUInt8:Nat):Int)) zr [(str p0),(.int .u8 (ad.toNat:Int))] zr (KG p0 (ad.toNat:Int) w) (aM (vi ((Lib.countByte p0.cM (Int.toNat (ad.toNat:Int)).toUInt8:Nat):Int)) (RL.nt (RC.rt ?_))))
  obtain rfl:=oi j
  exact cF ⟨rfl,hw.drop 0⟩
 refine RC.sx (aM (vi 0) (RL.nt ?_))
 obtain⟨al,hN,j⟩:=bd j
 refine RC.iter (fun(o:dD×Int)=>SH E V [(0,(str o.1)),(1,(str p1)),(4,vi 0),(5,vi o.2)] []) (fun(o:dD×Int)=>SH E V [(4,vi 0)] []) (wc E V) hN ?_ ?_ ?_ ?_
 ·exact hw.sp 0 []
 ·rintro o fl _ w ⟨O,rfl,hw⟩ j
  refine RC.bs (mv (str o.1) (mv (str p1) ?_))
  obtain⟨ae,ah,j⟩:=bd j
  refine RL.call zt zr G8 [(str o.1),(str p1)] zr (aF (pq N (p0:=o.1) (p1:=p1) hw ah) ?_)
  rintro _ w ⟨rfl,hw⟩
  refine aM (vi ae) (RL.nq (RC.sr (mv (vi ae) (ic ae ((-1)) (RL.nt (eL j (fun hc j=>?_) fun hc j=>?_))))))
  ·refine RC.sr (mv (vi o.2) (aM (vi o.2) (RL.nt (RC.rt (jF ?_)))))
   obtain rfl:=oi j
   exact⟨rfl,cF ⟨rfl,hw.drop 0⟩⟩
  refine RC.sx (mv (vi o.2) (RL.jl o.2 1 (aM (vi (IntKind.wrap .i64 (o.2+1))) (RL.nt (RC.region (mv (str o.1) (mv (vi ae) (mv (str p1) ?_))))))))
  refine RL.lens p1 A2 (RL.jl ae (p1.cM.length:Int) ?_)
  obtain⟨ai,aj,j⟩:=bd j
  refine RL.sO o.1 zr zr A2 (.inl zr) (.inr ⟨rfl,zr⟩) aj (aM (str ai) (RL.nil (bL ?_)))
  obtain rfl:=oi j
  exact⟨rfl,hw.sp 0 []⟩
 ·intro r U w e hK
  subst e
  obtain rfl:=oi j
  exact hK
 rintro o _ w rfl ⟨O,rfl,hw⟩
 rw [Fo.f0] at j
 obtain rfl:=oi j
 refine yn ?_
 exact cF ⟨rfl,hw.drop 0⟩
theorem sg {p0 p1:dD} {res: (List dD)} (o:Holds E w V) (j:kO N p0 p1 p2 p3=some res):
    Calls bG 133 [(str p0),(str p1),(vi p2),(vi p3)].toArray w (gH (nN E V res)):=by
 unfold kO at j
 refine enter Tryz.func133 zr zr (RC.sr (aM (.slice none 0 0) (RL.nq (RC.sr (mv (vi p3) (ic p3 0 (RL.nt (eL j (fun hc j=>?_) fun hc j=>?_))))))))
 ·refine RC.sr (aM (.slice none 0 0) (RL.nt (RC.rt ?_)))
  obtain rfl:=oi j
  have o:=o.cS dD 9
  exact cF (o.pk 1 [0])
 refine RC.ss (RC.sr (mv (str p1) (RL.Dj (a:=p1) (b:=⟨[]⟩) zt zr zr zr zr (RL.nt (eL j (fun hc j=>?_) fun hc j=>?_)))))
 ·cases j
 refine RC.ss (RC.sr (mv (vi p3) (ic p3 0 (RL.nt ?_))))
 obtain⟨ab,hj,j⟩:=bd j
 refine RC.jn (fun(ab:Int)=>SH E V [(0,(str p0)),(1,(str p1)),(2,vi p2),(3,vi ab)] []) ab ?_ ?_
 ·refine eL hj (fun hc hj=>?_) fun hc hj=>?_
  rotate_left
  ·refine RC.skip ?_
   obtain rfl:=oi hj
   exact⟨rfl,o.sp 0 []⟩
  refine RC.region (mv (str p0) (mv (str p1) ?_))
  obtain⟨aj,ak,hj⟩:=bd hj
  refine RL.call zt zr IW [(str p0),(str p1)] zr (aF (ve N (p0:=p0) (p1:=p1) o ak) ?_)
  rintro _ w ⟨rfl,o⟩
  refine RL.jl aj 1 (aM (vi (IntKind.wrap .i64 (aj+1))) (RL.nil ?_))
  obtain rfl:=oi hj
  exact⟨rfl,o.sp 0 []⟩
 rintro _ w ⟨O,rfl,o⟩
 refine aG (RC.sr (mv (vi ab) (mv (str p0) (RL.lens p0 A2 (RL.jl (p0.cM.length:Int) 1 (RL.min ab (IntKind.wrap .i64 ((p0.cM.length:Int)+1)) (aM (vi (if (IntKind.wrap .i64 ((p0.cM.length:Int)+1))<ab then (IntKind.wrap .i64 ((p0.cM.length:Int)+1)) else ab)) (RL.ns ?_))))))))
 refine mv (vi (if (IntKind.wrap .i64 ((p0.cM.length:Int)+1))<ab then (IntKind.wrap .i64 ((p0.cM.length:Int)+1)) else ab)) ?_
 obtain⟨ay,al,j⟩:=bd j
 refine RL.mk (if (IntKind.wrap .i64 ((p0.cM.length:Int)+1))<ab then (IntKind.wrap .i64 ((p0.cM.length:Int)+1)) else ab) o IX LH al fun ae w o=>?_
 refine aM ae (RL.ns (mv (vi (if (IntKind.wrap .i64 ((p0.cM.length:Int)+1))<ab then (IntKind.wrap .i64 ((p0.cM.length:Int)+1)) else ab)) (RL.jl (if (IntKind.wrap .i64 ((p0.cM.length:Int)+1))<ab then (IntKind.wrap .i64 ((p0.cM.length:Int)+1)) else ab) 1 (aM (vi (IntKind.wrap .i64 ((if (IntKind.wrap .i64 ((p0.cM.length:Int)+1))<ab then (IntKind.wrap .i64 ((p0.cM.length:Int)+1)) else ab) - 1))) (RL.ns (aM (vi 0) (RL.nq ?_)))))))
 obtain⟨az,hN,j⟩:=bd j
 refine RC.iter (fun(aa:dD×(List dD)×Int)=>SH E V [(0,(str aa.1)),(1,(str p1)),(2,vi p2),(3,(vi (IntKind.wrap .i64 ((if (IntKind.wrap .i64 ((p0.cM.length:Int)+1))<ab then (IntKind.wrap .i64 ((p0.cM.length:Int)+1)) else ab) - 1)))),(9,ae),(10,vi aa.2.2)] [own 9 ae aa.2.1]) (fun(aa:dD×(List dD)×Int)=>SH E V [(0,(str aa.1)),(9,ae),(10,vi aa.2.2)] [own 9 ae aa.2.1]) (fun(r:Empty) _ _=>r.elim) hN ?_ ?_ ?_ ?_
 ·exact o.sp 1 [0]
 ·rintro aa fl _ w ⟨O,rfl,o⟩ j
  refine RC.seq (RC.sr (mv (vi aa.2.2) (mv (vi (IntKind.wrap .i64 ((if (IntKind.wrap .i64 ((p0.cM.length:Int)+1))<ab then (IntKind.wrap .i64 ((p0.cM.length:Int)+1)) else ab) - 1))) (ic aa.2.2 ((IntKind.wrap .i64 ((if (IntKind.wrap .i64 ((p0.cM.length:Int)+1))<ab then (IntKind.wrap .i64 ((p0.cM.length:Int)+1)) else ab) - 1))) (RL.nt (eL j (fun hc j=>?_) fun hc j=>?_))))))
  rotate_left
  ·refine RC.ex ?_
   obtain rfl:=oi j
   exact⟨rfl,o.sp 1 [0]⟩
  refine RC.sn (RC.bs (mv (str aa.1) (mv (str p1) ?_)))
  obtain⟨ag,ao,j⟩:=bd j
  refine RL.call zt zr G8 [(str aa.1),(str p1)] zr (aF (pq N (p0:=aa.1) (p1:=p1) o ao) ?_)
  rintro _ w ⟨rfl,o⟩
  refine aM (vi ag) (RL.nq (RC.sr (mv (vi ag) (ic ag 0 (RL.nt (eL j (fun hc j=>?_) fun hc j=>?_))))))
  ·refine RC.ex (Hx (by decide) ?_)
   obtain rfl:=oi j
   exact⟨rfl,o.sp 1 [0]⟩
  refine RC.sx (mv ae (mv (vi aa.2.2) (mv (str aa.1) (mv (vi ag) (mv (vi p2) (RL.jl ag p2 ?_))))))
  obtain⟨aq,ar,j⟩:=bd j
  refine RL.sO aa.1 zr zr A2 (.inr ⟨rfl,zr⟩) (.inl zr) ar ?_
  obtain⟨a1,ah,j⟩:=bd j
  refine RL.bY 0 o zr zr CO ah ?_
  have o:=o.sc dD aq
  refine RL.gr (f:=(fun _ y=>y)) 1 0 o (jZ 1 o ah 0) (bC ah).2.1 zr Fs.self EV fun w o=>?_
  refine RL.ns (mv (str aa.1) (mv (vi ag) (mv (str p1) (RL.lens p1 A2 (RL.jl ag (p1.cM.length:Int) ?_)))))
  obtain⟨au,av,j⟩:=bd j
  refine RL.sO aa.1 zr zr A2 (.inl zr) (.inr ⟨rfl,zr⟩) av (aM (str au) (RL.nt (RC.region (mv (vi aa.2.2) (RL.jl aa.2.2 1 (aM (vi (IntKind.wrap .i64 (aa.2.2+1))) (RL.nil (bL ?_))))))))
  obtain rfl:=oi j
  exact⟨rfl,o.sp 2 [1]⟩
 ·intro r _ _ _ _
  exact r.elim
 rintro aa _ w rfl ⟨O,rfl,o⟩
 rw [Fo.f0] at j
 refine aG (RC.sr (mv ae (mv (vi aa.2.2) (mv (str aa.1) ?_))))
 obtain⟨a2,ai,j⟩:=bd j
 refine RL.bY 0 o zr zr CO ai ?_
 have o:=o.sc dD aa.1
 refine RL.gr (f:=(fun _ y=>y)) 1 0 o (jZ 1 o ai 0) (bC ai).2.1 zr Fs.self EV fun w o=>?_
 refine RL.ns (mv ae (mv (vi aa.2.2) (RL.jl aa.2.2 1 ?_)))
 obtain⟨a3,aw,j⟩:=bd j
 refine RL.zh 1 zr o zr zr CO (.inr ⟨rfl,zr⟩) aw fun ax o=>(aM ax (RL.nt (RC.ret ?_)))
 obtain rfl:=oi j
 exact cF (o.pk 2 [1])
theorem vf {p0 p1:dD} {res: (List dD)} (o:Holds E w V) (j:k7 N p0 p1=some res):
    Calls bG 110 [(str p0),(str p1)].toArray w (gH (nN E V res)):=by
 unfold k7 at j
 refine enter Tryz.func110 zr zr (RC.sr (aM (.slice none 0 0) (RL.ns (mv (str p0) (mv (str p1) ?_)))))
 obtain⟨ad,aa,j⟩:=bd j
 refine RL.call zt zr IY [(str p0),(str p1),(vi 0),(vi (-1))] zr (aF (sg N (p0:=p0) (p1:=p1) (p2:=0) (p3:=(-1)) o aa) ?_)
 rintro ab w o
 refine aM ab (RL.nt (RC.ret ?_))
 obtain rfl:=oi j
 exact cF (o.pk 1 [0])
def oq (E:World) (V:List HP) (r:Int) (U:Nat->Value) (w:World):Prop:=l6 bG 19 Tryz.f132 (aP E V r) .ret U w
theorem nQ {p0: (List dD)} {p1:dD->Option Bool} (j:Holds E w V) (h0:V[i0]? =some (rd v0 p0)) (h1:F4 bG E V v1 p1 (fun(r:Bool)=>Value.bool r)) (o:ju N p0 p1=some res):
    Calls bG 132 [v0,v1].toArray w (gH (aP E V res)):=by
 unfold ju at o
 refine enter Tryz.func132 zr zr ?_
 have j:=j.dup (i0+0) h0
 refine RC.sr (aM (vi 0) (RL.nq (RC.sr (mv v0 (RL.bB 0 p0 j I0 (mv (vi 0) (RL.nt ?_)))))))
 obtain⟨al,hN,o⟩:=bd o
 refine RC.range (fun(aa:Nat) (ab:Unit)=>SH E V [(0,v0),(1,v1),(7,vi p0.length),(8,vi aa)] [rd v0 p0]) (fun(ab:Unit)=>SH E V [] [rd v0 p0]) (oq E V) hN ?_ ?_ ?_ ?_ ?_
 ·exact j.sp 1 [0]
 ·rintro hm ab _ w ⟨O,rfl,j⟩
  refine RC.sr (ic ((p0.length:Int)) ((p0.length:Int)) (RL.nq (RC.cO l9 (RC.ex ?_))))
  exact⟨rfl,j.sp 1 [0]⟩
 ·rintro hm aa ab fl _ w hk ⟨O,rfl,j⟩ o
  refine RC.sr (ic ((aa:Int)) ((p0.length:Int)) (RL.nq (RC.cN (l8 hk) (RC.ss (RC.bs (mv (vi aa) (aM (vi aa) (RL.ns ?_))))))))
  refine mv v1 (mv v0 (mv (vi aa) ?_))
  obtain⟨af,ah,o⟩:=bd o
  refine RL.cC 0 j CO ah fun ao j=>(RL.bI af 0 j EV ?_)
  have j:=j.sc dD af
  obtain⟨aq,ai,o⟩:=bd o
  refine RL.zg 0 zr j zr h1 3 zr zr zr ai fun w j=>(RL.nt (eL o (fun hc o=>?_) fun hc o=>?_))
  rotate_left
  ·refine RC.skip (bL (aG (RC.region (RL.inc hk hm (mv (vi ((aa+1:Nat):Int)) (RL.nil ?_))))))
   obtain rfl:=oi o
   exact⟨rfl,j.sp 3 [2]⟩
  refine RC.sr (mv (vi aa) (aM (vi aa) (RL.nt (RC.rb (bV ?_)))))
  obtain rfl:=oi o
  exact⟨rfl,cF ⟨rfl,j.drop 3⟩⟩
 ·intro r U w e hK
  subst e
  refine bV ?_
  obtain rfl:=oi o
  exact hK
 rintro ab _ w rfl ⟨O,rfl,j⟩
 rw [Fo.f0] at o
 refine aG (RC.sr (aM (vi (-1)) (RL.nt (RC.ret ?_))))
 obtain rfl:=oi o
 exact cF ⟨rfl,j.drop 1⟩
theorem mL {p0: (List dD)} {p1:dD->Option Bool} {res:Bool} (j:Holds E w V) (h0:V[i0]? =some (rd v0 p0)) (h1:F4 bG E V v1 p1 (fun(r:Bool)=>Value.bool r)) (o:ga N p0 p1=some res):
    Calls bG 109 [v0,v1].toArray w (gH (bF E V res)):=by
 unfold ga at o
 refine enter Tryz.func109 zr zr ?_
 have j:=j.dup (i0+0) h0
 refine RC.sr (aM (vb false) (RL.ns (mv v0 (mv v1 ?_))))
 obtain⟨aa,ab,o⟩:=bd o
 refine RL.call zt zr I1 [v0,v1] zr (aF (nQ N (i0:=0) j zr (h1.lift 1 zr) ab) ?_)
 rintro _ w ⟨rfl,j⟩
 refine ic aa 0 (aM (vb (decide (aa>=0))) (RL.nt (RC.ret ?_)))
 obtain rfl:=oi o
 exact cF ⟨rfl,j.drop 1⟩
theorem qX {p0:dD} (o:Holds E w V) (j:gV N p0 p1=some res):
    Calls bG 112 [(str p0),(.int .u8 p1)].toArray w (gH (aP E V res)):=by
 unfold gV at j
 refine enter Tryz.func112 zr zr (RC.sr (aM (vi 0) (RL.ns (mv (str p0) (mv (.int .u8 p1) ?_)))))
 obtain⟨aa,ab,j⟩:=bd j
 refine RL.call zt zr G7 [(str p0),(.int .u8 p1)] zr (aF (ld N (p0:=p0) (p1:=p1) o ab) ?_)
 rintro _ w ⟨rfl,o⟩
 refine aM (vi aa) (RL.nt (RC.ret ?_))
 obtain rfl:=oi j
 exact cF ⟨rfl,o.drop 0⟩
def vg (E:World) (V:List HP) (r:Bool) (U:Nat->Value) (w:World):Prop:=l6 bG 49 Tryz.f75 (bF E V r) .ret U w
theorem oE {p0:dD} {res:Bool} (hw:Holds E w V) (o:gO N p0=some res):
    Calls bG 75 [(str p0)].toArray w (gH (bF E V res)):=by
 unfold gO at o
 refine enter Tryz.func75 zr zr (RC.sr (aM (vb false) (RL.nq (RC.sr (mv (str p0) (RL.lens p0 A2 (mv (vi 0) (RL.nt ?_))))))))
 obtain⟨ar,hN,o⟩:=bd o
 refine RC.range (fun(ab:Nat) (af:Unit)=>SH E V [(0,(str p0)),(6,vi p0.cM.length),(7,vi ab)] []) (fun(af:Unit)=>SH E V [(0,(str p0))] []) (vg E V) hN ?_ ?_ ?_ ?_ ?_
 ·exact hw.sp 0 []
 ·rintro hm af _ w ⟨O,rfl,hw⟩
  refine RC.sr (ic ((p0.cM.length:Int)) ((p0.cM.length:Int)) (RL.nq (RC.cO l9 (RC.ex ?_))))
  exact⟨rfl,hw.sp 0 []⟩
 ·rintro hm ab af fl _ w hk ⟨O,rfl,hw⟩ o
  refine RC.sr (ic ((ab:Int)) ((p0.cM.length:Int)) (RL.nq (RC.cN (l8 hk) (RC.ss (RC.bs (mv (vi ab) (aM (vi ab) (RL.ns ?_))))))))
  refine mv (str p0) (mv (vi ab) ?_)
  obtain⟨j,al,o⟩:=bd o
  refine RL.idxs p0 (ab:Int) j zr zr zr A2 al (aM (.int .u8 (j.toNat:Int)) (RL.nq ?_))
  obtain⟨ag,hj,o⟩:=bd o
  refine RC.jn (fun(ag:Bool)=>SH E V [(0,(str p0)),(6,vi p0.cM.length),(7,vi ab),(39,vb ag)] []) ag ?_ ?_
  ·refine RC.region (mv (.int .u8 (j.toNat:Int)) (ic ((j.toNat:Int)) 65 (mv (vb (decide ((j.toNat:Int)<65))) (RL.gs true (decide ((j.toNat:Int)<65)) (.int .u8 (j.toNat:Int)) rfl rfl rfl dR (RL.gs true (decide ((j.toNat:Int)<65)) (vb (decide ((j.toNat:Int)>90))) rfl rfl rfl (dY .gtr .u8 (j.toNat:Int) 90 rfl (fun h=>by exact(cT h:cv (true&&((decide ((j.toNat:Int)<65))==false)) (.int .u8 (j.toNat:Int))= (.int .u8 (j.toNat:Int)))) (fun _=>rfl) rfl) (RL.pick (decide ((j.toNat:Int)<65)) (vb ((decide ((j.toNat:Int)<65))||(decide ((j.toNat:Int)>90)))) (nE true rfl) (mv (vb ((decide ((j.toNat:Int)<65))||(decide ((j.toNat:Int)>90)))) (RL.gs true ((decide ((j.toNat:Int)<65))||(decide ((j.toNat:Int)>90))) (.int .u8 (j.toNat:Int)) rfl rfl rfl dR ?_))))))))
   refine RL.gs true ((decide ((j.toNat:Int)<65))||(decide ((j.toNat:Int)>90))) (vb (decide ((j.toNat:Int)<97))) rfl rfl rfl (dY .lss .u8 (j.toNat:Int) 97 rfl (fun h=>by exact(cT h:cv (true&&(((decide ((j.toNat:Int)<65))||(decide ((j.toNat:Int)>90)))==true)) (.int .u8 (j.toNat:Int))= (.int .u8 (j.toNat:Int)))) (fun _=>rfl) rfl) (RL.gs true ((decide ((j.toNat:Int)<65))||(decide ((j.toNat:Int)>90))) (vb (decide ((j.toNat:Int)<97))) rfl rfl rfl (dR (hx:=fun h=>by exact(cT h:cv (true&&(((decide ((j.toNat:Int)<65))||(decide ((j.toNat:Int)>90)))==true)) (vb (decide ((j.toNat:Int)<97)))= (vb (decide ((j.toNat:Int)<97)))))) (RL.gs (true&&(((decide ((j.toNat:Int)<65))||(decide ((j.toNat:Int)>90)))==true)) (decide ((j.toNat:Int)<97)) (.int .u8 (j.toNat:Int)) rfl rfl rfl dR (RL.gs (true&&(((decide ((j.toNat:Int)<65))||(decide ((j.toNat:Int)>90)))==true)) (decide ((j.toNat:Int)<97)) (vb (decide ((j.toNat:Int)>122))) rfl rfl rfl (dY .gtr .u8 (j.toNat:Int) 122 rfl (fun h=>by exact(cT h:cv ((true&&(((decide ((j.toNat:Int)<65))||(decide ((j.toNat:Int)>90)))==true))&&((decide ((j.toNat:Int)<97))==false)) (.int .u8 (j.toNat:Int))= (.int .u8 (j.toNat:Int)))) (fun _=>rfl) rfl) (RL.gs true ((decide ((j.toNat:Int)<65))||(decide ((j.toNat:Int)>90))) (vb ((decide ((j.toNat:Int)<97))||(decide ((j.toNat:Int)>122)))) rfl rfl rfl (oy (decide ((j.toNat:Int)<97)) rfl (fun h=>by exact(cT h:cv (true&&(((decide ((j.toNat:Int)<65))||(decide ((j.toNat:Int)>90)))==true)) (vb (decide ((j.toNat:Int)<97)))= (vb (decide ((j.toNat:Int)<97))))) (fun h=>by exact nE (true&&(((decide ((j.toNat:Int)<65))||(decide ((j.toNat:Int)>90)))==true)) h)) (RL.pick ((decide ((j.toNat:Int)<65))||(decide ((j.toNat:Int)>90))) (vb (((decide ((j.toNat:Int)<65))||(decide ((j.toNat:Int)>90)))&&((decide ((j.toNat:Int)<97))||(decide ((j.toNat:Int)>122))))) (je true) (mv (vb (((decide ((j.toNat:Int)<65))||(decide ((j.toNat:Int)>90)))&&((decide ((j.toNat:Int)<97))||(decide ((j.toNat:Int)>122))))) (RL.gs true (((decide ((j.toNat:Int)<65))||(decide ((j.toNat:Int)>90)))&&((decide ((j.toNat:Int)<97))||(decide ((j.toNat:Int)>122)))) (.int .u8 (j.toNat:Int)) rfl rfl rfl dR (RL.gs true (((decide ((j.toNat:Int)<65))||(decide ((j.toNat:Int)>90)))&&((decide ((j.toNat:Int)<97))||(decide ((j.toNat:Int)>122)))) (vb (decide ((j.toNat:Int)<48))) rfl rfl rfl (dY .lss .u8 (j.toNat:Int) 48 rfl (fun h=>by exact(cT h:cv (true&&((((decide ((j.toNat:Int)<65))||(decide ((j.toNat:Int)>90)))&&((decide ((j.toNat:Int)<97))||(decide ((j.toNat:Int)>122))))==true)) (.int .u8 (j.toNat:Int))= (.int .u8 (j.toNat:Int)))) (fun _=>rfl) rfl) ?_))))))))
   refine RL.gs true (((decide ((j.toNat:Int)<65))||(decide ((j.toNat:Int)>90)))&&((decide ((j.toNat:Int)<97))||(decide ((j.toNat:Int)>122)))) (vb (decide ((j.toNat:Int)<48))) rfl rfl rfl (dR (hx:=fun h=>by exact(cT h:cv (true&&((((decide ((j.toNat:Int)<65))||(decide ((j.toNat:Int)>90)))&&((decide ((j.toNat:Int)<97))||(decide ((j.toNat:Int)>122))))==true)) (vb (decide ((j.toNat:Int)<48)))= (vb (decide ((j.toNat:Int)<48)))))) (RL.gs (true&&((((decide ((j.toNat:Int)<65))||(decide ((j.toNat:Int)>90)))&&((decide ((j.toNat:Int)<97))||(decide ((j.toNat:Int)>122))))==true)) (decide ((j.toNat:Int)<48)) (.int .u8 (j.toNat:Int)) rfl rfl rfl dR (RL.gs (true&&((((decide ((j.toNat:Int)<65))||(decide ((j.toNat:Int)>90)))&&((decide ((j.toNat:Int)<97))||(decide ((j.toNat:Int)>122))))==true)) (decide ((j.toNat:Int)<48)) (vb (decide ((j.toNat:Int)>57))) rfl rfl rfl (dY .gtr .u8 (j.toNat:Int) 57 rfl (fun h=>by exact(cT h:cv ((true&&((((decide ((j.toNat:Int)<65))||(decide ((j.toNat:Int)>90)))&&((decide ((j.toNat:Int)<97))||(decide ((j.toNat:Int)>122))))==true))&&((decide ((j.toNat:Int)<48))==false)) (.int .u8 (j.toNat:Int))= (.int .u8 (j.toNat:Int)))) (fun _=>rfl) rfl) (RL.gs true (((decide ((j.toNat:Int)<65))||(decide ((j.toNat:Int)>90)))&&((decide ((j.toNat:Int)<97))||(decide ((j.toNat:Int)>122)))) (vb ((decide ((j.toNat:Int)<48))||(decide ((j.toNat:Int)>57)))) rfl rfl rfl (oy (decide ((j.toNat:Int)<48)) rfl (fun h=>by exact(cT h:cv (true&&((((decide ((j.toNat:Int)<65))||(decide ((j.toNat:Int)>90)))&&((decide ((j.toNat:Int)<97))||(decide ((j.toNat:Int)>122))))==true)) (vb (decide ((j.toNat:Int)<48)))= (vb (decide ((j.toNat:Int)<48))))) (fun h=>by exact nE (true&&((((decide ((j.toNat:Int)<65))||(decide ((j.toNat:Int)>90)))&&((decide ((j.toNat:Int)<97))||(decide ((j.toNat:Int)>122))))==true)) h)) (RL.pick (((decide ((j.toNat:Int)<65))||(decide ((j.toNat:Int)>90)))&&((decide ((j.toNat:Int)<97))||(decide ((j.toNat:Int)>122)))) (vb ((((decide ((j.toNat:Int)<65))||(decide ((j.toNat:Int)>90)))&&((decide ((j.toNat:Int)<97))||(decide ((j.toNat:Int)>122))))&&((decide ((j.toNat:Int)<48))||(decide ((j.toNat:Int)>57))))) (je true) (mv (vb ((((decide ((j.toNat:Int)<65))||(decide ((j.toNat:Int)>90)))&&((decide ((j.toNat:Int)<97))||(decide ((j.toNat:Int)>122))))&&((decide ((j.toNat:Int)<48))||(decide ((j.toNat:Int)>57))))) (fM hj (fun ad hj=>?_) fun ad hj=>?_))))))
   rotate_left
   ·refine bJ ad (bJ ad (bJ ad (fI ad (vb false) (RL.nil ?_))))
    obtain rfl:=oi hj
    exact⟨rfl,hw.sp 0 []⟩
   refine RL.move (.int .u8 (j.toNat:Int)) (cg ad) ?_
   obtain⟨aj,an,hj⟩:=bd hj
   refine RL.call (cg ad) zr I2 [(str ⟨[95,43,45,35]⟩),(.int .u8 (j.toNat:Int))] zr (aF (qX N (p0:=⟨[95,43,45,35]⟩) (p1:=(j.toNat:Int)) hw an) ?_)
   rintro _ w ⟨rfl,hw⟩
   refine RL.jk aj 0 (cg ad) (fI ad (vb (decide (aj<0))) (RL.nil ?_))
   obtain rfl:=oi hj
   exact⟨rfl,hw.sp 0 []⟩
  rintro _ w ⟨O,rfl,hw⟩
  refine aG (eL o (fun hc o=>?_) fun hc o=>?_)
  rotate_left
  ·refine RC.skip (bL (aG (RC.region (RL.inc hk hm (mv (vi ((ab+1:Nat):Int)) (RL.nil ?_))))))
   obtain rfl:=oi o
   exact⟨rfl,hw.sp 0 []⟩
  refine RC.sr (aM (vb false) (RL.nt (RC.rb (bV ?_))))
  obtain rfl:=oi o
  exact⟨rfl,cF ⟨rfl,hw.drop 0⟩⟩
 ·intro r U w e hK
  subst e
  refine bV ?_
  obtain rfl:=oi o
  exact hK
 rintro af _ w rfl ⟨O,rfl,hw⟩
 rw [Fo.f0] at o
 refine aG (RC.sr (mv (str p0) (RL.lens p0 A2 (ic ((p0.cM.length:Int)) 1 (mv (vb (decide ((p0.cM.length:Int)>=1))) (RL.gs true (decide ((p0.cM.length:Int)>=1)) (str p0) rfl rfl rfl dR (RL.gs true (decide ((p0.cM.length:Int)>=1)) (vi p0.cM.length) rfl rfl rfl (Gc (s:=p0) rfl (fun h=>by exact(cT h:cv (true&&((decide ((p0.cM.length:Int)>=1))==true)) (str p0)= (str p0))) A2) (RL.gs true (decide ((p0.cM.length:Int)>=1)) (vb (decide ((p0.cM.length:Int)<=40))) rfl rfl rfl (dY .leq .i64 (p0.cM.length:Int) 40 rfl (fun h=>by exact(cT h:cv (true&&((decide ((p0.cM.length:Int)>=1))==true)) (vi p0.cM.length)= (vi p0.cM.length))) (fun _=>rfl) rfl) ?_))))))))
 refine RL.pick (decide ((p0.cM.length:Int)>=1)) (vb ((decide ((p0.cM.length:Int)>=1))&&(decide ((p0.cM.length:Int)<=40)))) (je true) (aM (vb ((decide ((p0.cM.length:Int)>=1))&&(decide ((p0.cM.length:Int)<=40)))) (RL.nt (RC.ret ?_)))
 obtain rfl:=oi o
 exact cF ⟨rfl,hw.drop 0⟩
theorem qY {p0:dD} {res:Bool} (o:Holds E w V) (j:gh N p0=some res):
    Calls bG 111 [(str p0)].toArray w (gH (bF E V res)):=by
 unfold gh at j
 refine enter Tryz.func111 zr zr (RC.sr (aM (vb false) (RL.ns (mv (str p0) ?_))))
 obtain⟨aa,ab,j⟩:=bd j
 refine RL.call zt zr I3 [(str p0)] zr (aF (oE N (p0:=p0) o ab) ?_)
 rintro _ w ⟨rfl,o⟩
 refine RL.not aa (aM (vb (!aa)) (RL.nt (RC.ret ?_)))
 obtain rfl:=oi j
 exact cF ⟨rfl,o.drop 0⟩
theorem uh {p0:dD} {res:Bool} (j:Holds E w V) (hb:ko N p0=some res):
    Calls bG 74 [(str p0)].toArray w (gH (bF E V res)):=by
 unfold ko at hb
 refine enter Tryz.func74 zr zr (RC.sr (aM (vb false) (RL.nq ?_)))
 obtain⟨ad,hj,hb⟩:=bd hb
 refine RC.jn (fun(ad:Bool)=>SH E V [(2,vb ad)] []) ad ?_ ?_
 ·refine RC.region (mv (str p0) (RL.lens p0 A2 (ic ((p0.cM.length:Int)) 200 (mv (vb (decide ((p0.cM.length:Int)<=200))) (fM hj (fun o hj=>?_) fun o hj=>?_)))))
  rotate_left
  ·refine bJ o (bJ o (bJ o (bJ o (fI o (vb false) (aM (vb false) (RL.nil ?_))))))
   obtain rfl:=oi hj
   exact⟨rfl,j.sp 0 []⟩
  refine RL.move (str p0) (cg o) ?_
  obtain⟨ai,af,hj⟩:=bd hj
  refine RL.call (cg o) zr IZ [(str p0),(str ⟨[47]⟩)] zr (aF (vf N (p0:=p0) (p1:=⟨[47]⟩) j af) ?_)
  rintro ag w j
  have j:=j.freeze 0
  obtain⟨ae,ah,hj⟩:=bd hj
  refine RL.call (cg o) rfl I5 [ag,(.func (.func 111) #[] #[])] rfl (aF (mL N (i0:=0) j rfl ⟨111,[],rfl,I4,fun w Γl v y0 r i j hi hr=>by obtain rfl:=j.zd (γ:=dD) hi;exact aF (qY N (p0:=y0) j hr) fun _ _ h=>h⟩ ah) ?_)
  rintro _ w ⟨rfl,j⟩
  refine RL.not (hg:=(cg o)) ae (fI o (vb (!ae)) (aM (vb (!ae)) (RL.nil ?_)))
  obtain rfl:=oi hj
  exact⟨rfl,j.sp 1 []⟩
 rintro _ w ⟨O,rfl,j⟩
 refine aG (RC.ret ?_)
 obtain rfl:=oi hb
 exact cF ⟨rfl,j.drop 0⟩
def w7 (E:World) (V:List HP) (res:fN) (v:Value) (w:World):Prop:=Holds E w ([rd v res]++V)
theorem lA {p0:cQ} {res:fN} (j:Holds E w V) (h0:V[i0]? =some (rd v0 p0)) (o:jJ N p0=some res):
    Calls bG 77 [v0].toArray w (gH (w7 E V res)):=by
 unfold jJ at o
 refine enter Tryz.func77 zr zr ?_
 have j:=j.dup (i0+0) h0
 refine RC.sr (RL.cY 0 v0 j zr fun aa w j=>?_)
 refine RL.alloc j I6.z fun ab w j=>?_
 refine RL.ns (RL.aY zr EU (RL.aL 1 j zr yD EV (RL.aY zr EW (RL.aL 1 j zr yE EV ?_))))
 have j:=(j.sc dD p0.Part).sc dD p0.fN
 refine RL.build (⟨p0.Part,p0.fN⟩:fN) trivial rfl j [(0,(str p0.Part)),(1,(str p0.fN))] rfl HQ rfl (fun M hs g=>by have h:=EP M;exact cL.cons (f:=fun(x:fN) y=>{x with Part:=y}) h wQ (g.sat 1 _ rfl).1 fun _ h=>cL.cons (f:=fun(x:fN) y=>{x with fN:=y}) h wR (g.sat 0 _ rfl).1 fun _ h=>cL.nil h) fun ad j=>?_
 refine RL.bA 3 j 0 zr oh fun w j=>?_
 refine RL.nt (RC.ret ?_)
 obtain rfl:=oi o
 exact Es 3 zr j zr zr oh fun ae j=>(j.pk 7 [0])
theorem oT {p0 p1:dD} (o:Holds E w V) (j:j7 N p0 p1=some res):
    Calls bG 119 [(str p0),(str p1)].toArray w (gH (aP E V res)):=by
 unfold j7 at j
 refine enter Tryz.func119 zr zr (RC.sr (aM (vi 0) (RL.ns (mv (str p0) (mv (str p1) (RL.wG (vi (Lib.compareBytes p0.cM p1.cM)) zr [(str p0),(str p1)] zr (eG p0 p1 w) (aM (vi (Lib.compareBytes p0.cM p1.cM)) (RL.nt ?_))))))))
 refine RC.ret ?_
 obtain rfl:=oi j
 exact cF ⟨rfl,o.drop 0⟩
theorem nR {p0 p1:dD} (o:Holds E w V) (j:lx N p0 p1=some res):
    Calls bG 93 [(str p0),(str p1)].toArray w (gH (aP E V res)):=by
 unfold lx at j
 refine enter Tryz.func93 zr zr (RC.sr (aM (vi 0) (RL.ns (mv (str p0) (mv (str p1) ?_)))))
 obtain⟨aa,ab,j⟩:=bd j
 refine RL.call zt zr I7 [(str p0),(str p1)] zr (aF (oT N (p0:=p0) (p1:=p1) o ab) ?_)
 rintro _ w ⟨rfl,o⟩
 refine aM (vi aa) (RL.nt (RC.ret ?_))
 obtain rfl:=oi j
 exact cF ⟨rfl,o.drop 0⟩
theorem eZ {p0 p1:fN} (j:Holds E w V) (h0:V[i0]? =some (rd v0 p0)) (h1:V[i1]? =some (rd v1 p1)) (o:dG N p0 p1=some res):
    Calls bG 57 [v0,v1].toArray w (gH (aP E V res)):=by
 unfold dG at o
 refine enter Tryz.func57 zr zr ?_
 have j:=(j.dup (i0+0) h0).dup (i1+1) h1
 refine RC.sr (RL.cY 1 v0 j zr fun ag w j=>?_)
 refine RL.cY 1 v1 j zr fun ah w j=>?_
 refine aM (vi 0) (RL.nq (RC.sr (RL.aY zr EX (RL.aL 1 j zr AX EV (RL.aY zr EX (RL.aL 0 j zr AX EV ?_))))))
 obtain⟨aa,ab,o⟩:=bd o
 refine RL.call zt zr I8 [(str p0.Part),(str p1.Part)] zr (aF (nR N (p0:=p0.Part) (p1:=p1.Part) j ab) ?_)
 rintro _ w ⟨rfl,j⟩
 refine aM (vi aa) (RL.ns (mv (vi aa) (ic aa 0 (RL.nt (eL o (fun hc o=>?_) fun hc o=>?_)))))
 ·refine RC.sr (mv (vi aa) (aM (vi aa) (RL.nt (RC.rt ?_))))
  obtain rfl:=oi o
  exact cF ⟨rfl,j.drop 4⟩
 refine RC.sx (RL.aY zr EY (RL.aL 1 j zr AY EV (RL.aY zr EY (RL.aL 0 j zr AY EV ?_))))
 obtain⟨ae,af,o⟩:=bd o
 refine RL.call zt zr I8 [(str p0.fN),(str p1.fN)] zr (aF (nR N (p0:=p0.fN) (p1:=p1.fN) j af) ?_)
 rintro _ w ⟨rfl,j⟩
 refine aM (vi ae) (RL.nt (RC.ret ?_))
 obtain rfl:=oi o
 exact cF ⟨rfl,j.drop 4⟩
def si (E:World) (V:List HP) (r:Int) (U:Nat->Value) (w:World):Prop:=l6 bG 60 Tryz.f48 (aP E V r) .ret U w
theorem qZ {p0:iu} (j:Holds E w V) (h0:V[i0]? =some (rd v0 p0)) (hb:i7 N p0=some res):
    Calls bG 48 [v0].toArray w (gH (aP E V res)):=by
 unfold i7 at hb
 refine enter Tryz.func48 zr zr ?_
 have j:=j.dup (i0+0) h0
 refine RC.sr (RL.cY 0 v0 j zr fun ag w j=>?_)
 have j:=j.gx (i:=0) rfl
 refine aM (vi 0) (RL.nq (RC.sr (RL.ig 0 j zr u9 qL fun bk j=>(RL.bO 0 p0.bD j DE fun bl j=>(RL.bB 0 p0.bD j ET (ic ((p0.bD.length:Int)) 1000 (RL.nt (eL hb (fun hc hb=>?_) fun hc hb=>?_))))))))
 ·refine RC.sr (aM (vi 2) (RL.nt (RC.rt ?_)))
  obtain rfl:=oi hb
  exact cF ⟨rfl,j.drop 4⟩
 refine RC.ss (RC.sr (RL.ig 2 j zr u9 qL fun bm j=>(RL.bO 0 p0.bD j DE fun ah j=>(RL.bB 0 p0.bD j ET (mv (vi 0) (RL.nt ?_))))))
 obtain⟨bn,hN,hb⟩:=bd hb
 refine RC.range (fun(ad:Nat) (ak:Unit)=>SH E V [(1,vp ag 0),(10,ah),(11,vi p0.bD.length),(12,vi ad)] [pt (vp ag 0) p0,rd ah p0.bD]) (fun(ak:Unit)=>SH E V [] [pt (vp ag 0) p0,rd ah p0.bD]) (si E V) hN ?_ ?_ ?_ ?_ ?_
 ·exact j.sp 6 [4,0]
 ·rintro hm ak _ w ⟨O,rfl,j⟩
  refine RC.sr (ic ((p0.bD.length:Int)) ((p0.bD.length:Int)) (RL.nq (RC.cO l9 (RC.ex ?_))))
  exact⟨rfl,j.sp 2 [0,1]⟩
 ·rintro hm ad ak fl _ w hk ⟨O,rfl,j⟩ hb
  refine RC.sr (ic ((ad:Int)) ((p0.bD.length:Int)) (RL.nq (RC.cN (l8 hk) (RC.ss (RC.bs (mv (vi ad) ?_))))))
  obtain⟨ai,a1,hb⟩:=bd hb
  refine RL.cC 1 j DF a1 fun bp j=>(RL.bO 0 ai j wZ fun bq j=>(RL.alloc j HO.z fun al w j=>?_))
  refine aM (vi ad) (RL.bA 0 j 1 zr wZ fun w j=>?_)
  refine RL.nt (RC.block (RC.seq ?_))
  obtain⟨an,o,hb⟩:=bd hb
  refine RC.jn (fun(an:Bool)=>SH E V [(1,vp ag 0),(3,vi ad),(4,vp al 0),(10,ah),(11,vi p0.bD.length),(12,vi ad),(17,vb an)] [pt (vp ag 0) p0,bx 78 al ai,rd ah p0.bD]) an ?_ ?_
  ·refine RC.region (RL.aY zr EU (RL.aL 0 j zr yD EV ?_))
   obtain⟨ay,a2,o⟩:=bd o
   refine RL.call zt zr KI [(str ai.Part)] zr (aF (uh N (p0:=ai.Part) j a2) ?_)
   rintro _ w ⟨rfl,j⟩
   refine RL.not ay (mv (vb (!ay)) (fM o (fun ae o=>?_) fun ae o=>?_))
   ·refine bJ ae (bJ ae (bJ ae (bJ ae (fI ae (vb true) (aM (vb true) (RL.nil ?_))))))
    obtain rfl:=oi o
    exact⟨rfl,j.sp 5 [3,0,4]⟩
   refine RL.aY (hg:=(cg ae)) zr EW (RL.aL (hg:=(cg ae)) 0 j zr yE EV ?_)
   obtain⟨ao,a3,o⟩:=bd o
   refine RL.call (cg ae) zr I3 [(str ai.fN)] zr (aF (oE N (p0:=ai.fN) j a3) ?_)
   rintro _ w ⟨rfl,j⟩
   refine RL.not (hg:=(cg ae)) ao (fI ae (vb (!ao)) (aM (vb (!ao)) (RL.nil ?_)))
   obtain rfl:=oi o
   exact⟨rfl,j.sp 5 [3,0,4]⟩
  rintro _ w ⟨O,rfl,j⟩
  refine aG (eL hb (fun hc hb=>?_) fun hc hb=>?_)
  ·refine RC.sr (aM (vi 5) (RL.nt (RC.rb (jF (bV ?_)))))
   obtain rfl:=oi hb
   exact⟨rfl,cF ⟨rfl,j.drop 3⟩⟩
  refine RC.seq ?_
  obtain⟨aq,o,hb⟩:=bd hb
  refine RC.jn (fun(aq:Bool)=>SH E V [(1,vp ag 0),(3,vi ad),(4,vp al 0),(10,ah),(11,vi p0.bD.length),(12,vi ad),(28,vb aq)] [pt (vp ag 0) p0,bx 78 al ai,rd ah p0.bD]) aq ?_ ?_
  ·refine RC.region (RL.aY zr B8 (RL.aL 1 j zr u4 cH (RL.ig 0 j zr u6 pg fun br j=>(RL.bO 0 p0.aK j DB fun bt j=>(RL.bB 0 p0.aK j A0 (RL.jl (p0.aK.length:Int) 1 ?_))))))
   obtain⟨az,a4,o⟩:=bd o
   refine RL.call zt zr Gs [(vi ai.cU),(vi 0),(vi (IntKind.wrap .i64 ((p0.aK.length:Int) - 1)))] zr (aF (kS N (p0:=ai.cU) (p1:=0) (p2:=(IntKind.wrap .i64 ((p0.aK.length:Int) - 1))) j a4) ?_)
   rintro _ w ⟨rfl,j⟩
   refine RL.not az (mv (vb (!az)) (fM o (fun af o=>?_) fun af o=>?_))
   ·refine bJ af (bJ af (bJ af (bJ af (fI af (vb true) (aM (vb true) (RL.nil ?_))))))
    obtain rfl:=oi o
    exact⟨rfl,j.sp 5 [2,3,4]⟩
   refine RL.aY (hg:=(cg af)) zr B9 (RL.aS (hg:=(cg af)) 3 j zr u5 r5 fun a5 j=>?_)
   obtain⟨ar,a6,o⟩:=bd o
   refine RL.call (cg af) zr IP [a5] zr (aF (po N (i0:=0) j zr a6) ?_)
   rintro _ w ⟨rfl,j⟩
   refine RL.not (hg:=(cg af)) ar (fI af (vb (!ar)) (aM (vb (!ar)) (RL.nil ?_)))
   obtain rfl:=oi o
   exact⟨rfl,j.sp 6 [3,4,5]⟩
  rintro _ w ⟨O,rfl,j⟩
  refine aG (eL hb (fun hc hb=>?_) fun hc hb=>?_)
  ·refine RC.sr (aM (vi 1) (RL.nt (RC.rb (jF (bV ?_)))))
   obtain rfl:=oi hb
   exact⟨rfl,cF ⟨rfl,j.drop 3⟩⟩
  refine RC.seq ?_
  obtain⟨au,o,hb⟩:=bd hb
  refine RC.jn (fun(au:Bool)=>SH E V [(1,vp ag 0),(10,ah),(11,vi p0.bD.length),(12,vi ad),(43,vb au)] [pt (vp ag 0) p0,rd ah p0.bD]) au ?_ ?_
  ·refine RC.wk mixed [0,0,0,0,2,1,1,1,1,1,1,2,2,0,0,0] [0,1,2,3,5,6,7,8,9,10,4,11,12,13,14,15] ?_
   have j:=j.drew
   refine DP.e0 zr (mv (vi ad) (bU zr (ic ((ad:Int)) 0 (bU zr (mv (vb (decide ((ad:Int)>0))) (DP.d0 (fM o (fun ab o=>?_) fun ab o=>?_)))))))
   rotate_left
   ·refine DP.e0 zr (bJ ab (DP.d0 (DP.e1 undef zr (fun w=>bJ ab DP.d1) (DP.e1 undef zr (fun w=>bJ ab DP.d1) (DP.e1 undef zr (fun w=>bJ ab DP.d1) (DP.e1 undef zr (fun w=>bJ ab DP.d1) (DP.e1 undef zr (fun w=>bJ ab DP.d1) (DP.e1 undef zr (fun w=>bJ ab DP.d1) ?_))))))))
    refine DP.e2 zr (bJ ab (Gp zr (bJ ab (Gp zr (bJ ab (wm zr (bJ ab (bU zr ?_))))))))
    refine fI ab (vb false) (bU zr (aM (vb false) (DP.d0 (DP.z ?_))))
    obtain rfl:=oi o
    exact⟨rfl,j.sp 3 [0,2]⟩
   refine DP.e0 zr (RL.aS (hg:=(cg ab)) (f:=(fun x=>x)) 1 j zr Fd.self wZ fun a7 j=>(DP.d0 (DP.Gq 1 zr zr (cg ab) zr j zr zr u9 qL fun bu j=>(DP.vY (hg:=(cg ab)) p0.bD 0 zr j DE fun bw a378 bz j=>(DP.e1 (vi ad) zr (fun w=>RL.move (vi ad) (cg ab) DP.d1) (DP.e1 (vi (IntKind.wrap .i64 ((ad:Int) - 1))) zr (fun w=>RL.jl (hg:=(cg ab)) (ad:Int) 1 DP.d1) ?_))))))
   obtain⟨a8,a9,o⟩:=bd o
   refine DP.HL 1 zr zr (cg ab) zr j zr zr zr DF a9 fun b0 j=>(DP.vY (hg:=(cg ab)) a8 0 zr j wZ fun ba a383 b1 j=>(DP.e2 zr ?_))
   obtain⟨b2,bb,o⟩:=bd o
   refine RL.call (cg ab) zr Gt [a7] zr (aF (lA N (i0:=6) j zr bb) ?_)
   rintro bc w j
   refine DP.d2 (⟨⟨zt,j.jV 4⟩,j.jV 1⟩) (DP.e2 zr ?_)
   obtain⟨b3,bf,o⟩:=bd o
   refine RL.call (cg ab) zr Gt [ba] zr (aF (lA N (i0:=2) j zr bf) ?_)
   rintro bg w j
   refine DP.d2 (⟨⟨zt,j.jV 5⟩,j.jV 2⟩) (DP.e2 zr ?_)
   obtain⟨av,bh,o⟩:=bd o
   refine RL.call (cg ab) zr DG [bc,bg] zr (aF (eZ N (i0:=1) (i1:=0) j zr zr bh) ?_)
   rintro _ w ⟨rfl,j⟩
   refine DP.d2 (⟨⟨zt,j.jV 5⟩,j.jV 2⟩) (DP.e0 zr (RL.jk av 0 (cg ab) (bU zr (fI ab (vb (decide (av<=0))) (bU zr (aM (vb (decide (av<=0))) (DP.d0 ?_)))))))
   have j:=j.pl 12 [0,1,3,4,6,7,8,9,10,11]
   refine DP.z ?_
   obtain rfl:=oi o
   exact⟨rfl,j.sp 10 [7,9]⟩
  rintro _ w ⟨O,rfl,j⟩
  refine aG (eL hb (fun hc hb=>?_) fun hc hb=>?_)
  rotate_left
  ·refine RC.skip (bL (bL (aG (RC.region (RL.inc hk hm (mv (vi ((ad+1:Nat):Int)) (RL.nil ?_)))))))
   obtain rfl:=oi hb
   exact⟨rfl,j.sp 2 [0,1]⟩
  refine RC.sr (aM (vi 8) (RL.nt (RC.rb (jF (bV ?_)))))
  obtain rfl:=oi hb
  exact⟨rfl,cF ⟨rfl,j.drop 2⟩⟩
 ·intro r U w e hK
  subst e
  refine bV ?_
  obtain rfl:=oi hb
  exact hK
 rintro ak _ w rfl ⟨O,rfl,j⟩
 rw [Fo.f0] at hb
 refine aG (RC.sr (aM (vi 0) (RL.nt (RC.ret ?_))))
 obtain rfl:=oi hb
 exact cF ⟨rfl,j.drop 2⟩
theorem pr (o:Holds E w V) (j:iw N p0 p1 p2 p3=some res):
    Calls bG 78 [(vi p0),(vi p1),(vi p2),(vi p3)].toArray w (gH (aP E V res)):=by
 unfold iw at j
 refine enter Tryz.func78 zr zr (RC.sr (aM (vi 0) (RL.ns (mv (vi p2) (mv (vi p1) (RL.jl p2 p1 (RL.jl (IntKind.wrap .i64 (p2 - p1)) 1 (mv (vi p0) ?_))))))))
 refine mv (vi p3) (RL.jl p0 p3 (RL.jl (IntKind.wrap .i64 (p0 - p3)) 1 (RL.Ku (a:=0) (b:=(IntKind.wrap .i64 ((IntKind.wrap .i64 (p2 - p1))+1))) (c:=(IntKind.wrap .i64 ((IntKind.wrap .i64 (p0 - p3))+1))) zt zr zr zr zr (aM (vi (if (if 0< (IntKind.wrap .i64 ((IntKind.wrap .i64 (p2 - p1))+1)) then (IntKind.wrap .i64 ((IntKind.wrap .i64 (p2 - p1))+1)) else 0)< (IntKind.wrap .i64 ((IntKind.wrap .i64 (p0 - p3))+1)) then (IntKind.wrap .i64 ((IntKind.wrap .i64 (p0 - p3))+1)) else (if 0< (IntKind.wrap .i64 ((IntKind.wrap .i64 (p2 - p1))+1)) then (IntKind.wrap .i64 ((IntKind.wrap .i64 (p2 - p1))+1)) else 0))) (RL.nt (RC.ret ?_))))))
 obtain rfl:=oi j
 exact cF ⟨rfl,o.drop 0⟩
theorem nr {p0 p1:aI} (j:Holds E w V) (h0:V[i0]? =some (rd v0 p0)) (h1:V[i1]? =some (rd v1 p1)) (o:jv N p0 p1=some res):
    Calls bG 49 [v0,v1].toArray w (gH (aP E V res)):=by
 unfold jv at o
 refine enter Tryz.func49 zr zr ?_
 have j:=(j.dup (i0+0) h0).dup (i1+1) h1
 refine RC.sr (RL.cY 1 v0 j zr fun aa w j=>?_)
 refine RL.cY 1 v1 j zr fun ab w j=>?_
 refine aM (vi 0) (RL.nq ?_)
 have j:=j.drew
 refine RC.EH (fun w=>Holds E w ([bx 74 ab p1,bx 74 aa p0]++V)) mixed zr [0,0,0,0,0,0,0,0,2,1,1,1,1,1,1,1,1,2,0,0] [0,1,2,3,4,5,6,7,9,10,11,12,13,14,15,16,8,17,18,19] (j.pk 4 [0,1]) (DP.e0 zr (RL.aY zr jh (bU zr (RL.aL 1 j zr eM cH (bU zr (RL.aY zr kx (bU zr (RL.aL 1 j zr gk cH ?_))))))))
 refine bU zr (RL.aY zr jh (bU zr (RL.aL 0 j zr eM cH (bU zr (RL.aY zr kx (bU zr (RL.aL 0 j zr gk cH (DP.d0 ?_))))))))
 refine DP.e1 (vp aa 1) zr (fun w=>RL.aY zr jM DP.d1) (DP.HJ (vi p0.Y0) zr (fun w j=>RL.aL 1 j zr eY cH DP.d1) (DP.e1 (vp aa 3) zr (fun w=>RL.aY zr nM DP.d1) (DP.HJ (vi p0.Y1) zr (fun w j=>RL.aL 1 j zr jA cH DP.d1) (DP.e1 (vp ab 1) zr (fun w=>RL.aY zr jM DP.d1) (DP.HJ (vi p1.Y0) zr (fun w j=>RL.aL 0 j zr eY cH DP.d1) (DP.e1 (vp ab 3) zr (fun w=>RL.aY zr nM DP.d1) (DP.HJ (vi p1.Y1) zr (fun w j=>RL.aL 0 j zr jA cH DP.d1) (DP.e2 zr ?_))))))))
 obtain⟨ad,af,o⟩:=bd o
 refine RL.call zt zr I9 [(vi p0.X0),(vi p0.X1),(vi p1.X0),(vi p1.X1)] zr (aF (pr N (p0:=p0.X0) (p1:=p0.X1) (p2:=p1.X0) (p3:=p1.X1) j af) ?_)
 rintro _ w ⟨rfl,j⟩
 refine DP.d2 (j.pk 4 [0,1]) (DP.e2 zr ?_)
 obtain⟨ae,ag,o⟩:=bd o
 refine RL.call zt zr I9 [(vi p0.Y0),(vi p0.Y1),(vi p1.Y0),(vi p1.Y1)] zr (aF (pr N (p0:=p0.Y0) (p1:=p0.Y1) (p2:=p1.Y0) (p3:=p1.Y1) j ag) ?_)
 rintro _ w ⟨rfl,j⟩
 refine DP.d2 (j.pk 4 [0,1]) (DP.e0 zr (RL.max ad ae (bU zr (aM (vi (if ad<ae then ae else ad)) (DP.d0 (DP.z (aG (RC.ret ?_))))))))
 obtain rfl:=oi o
 exact cF ⟨rfl,j.drop 4⟩
end Go.Gk
