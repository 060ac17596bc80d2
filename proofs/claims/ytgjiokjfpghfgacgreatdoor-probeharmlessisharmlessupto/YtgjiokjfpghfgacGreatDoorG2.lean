/-
  Printed texts: Go functions as plain functions, and that they are. No statement of the seed is proved here.
-/
import Derived.Test.YtgjiokjfpghfgacGreatDoorG1
import Derived.Test.YtgjiokjfpghfgacGreatDoorA2
set_option linter.unusedVariables false
set_option linter.unusedSimpArgs false
set_option linter.unusedSectionVars false
set_option maxRecDepth 100000
set_option maxHeartbeats 4000000
namespace Go.Gk
open Go Go.Proofs
variable (N:Nat) {E w:World} {i0 i1:Nat} {p0 p1 p2 p3 res:Int} {v0 v1:Value} {V:List HP}
theorem gq {p0:bU} {res:aI} (j:Holds E w V) (h0:V[i0]? =some (rd v0 p0)) (o:eM N p0=some res):
    Calls bF 17 [v0].toArray w (gT (nW E V res)):=by
 unfold eM at o
 refine enter Tryz.func17 zr zr ?_
 have j:=j.dup (i0+0) h0
 refine RC.sr (RL.dD 0 v0 j zr fun aa w j=>?_)
 refine RL.alloc j lU.z fun ab w j=>?_
 refine RL.nq (RC.xf mixed ?_)
 have j:=j.drew
 refine RO.go (RL.aZ zr A4 (RO.nx (RL.aZ zr qj (RO.nx (RL.aK (f:=(fun x=>x.At.X)) 1 j zr (Fd.comp (f:=fun(x:bU)=>x.At) (fun(x:eF)=>x.X) uv kc) cG (RO.nx (RL.aZ zr wh (RO.nx ?_))))))))
 refine RL.aK 1 j zr oK cG (RO.nx (RL.quo p0.eN 2 zr zr zr zr (RO.nx (RL.jo p0.At.X (IntKind.wrap .i64 (Int.tdiv p0.eN 2)) (RO.nx (RL.aZ zr A4 (RO.nx (RL.aZ zr oh ?_))))))))
 refine RO.nx (RL.aK (f:=(fun x=>x.At.Y)) 1 j zr (Fd.comp (f:=fun(x:bU)=>x.At) (fun(x:eF)=>x.Y) uv iW) cG (RO.nx (RL.aZ zr wh (RO.nx (RL.aK 1 j zr oK cG (RO.nx (RL.quo p0.eN 2 zr zr zr zr (RO.nx ?_))))))))
 refine RL.jo p0.At.Y (IntKind.wrap .i64 (Int.tdiv p0.eN 2)) (RO.nx (aP (vi (IntKind.wrap .i64 (p0.At.X - (IntKind.wrap .i64 (Int.tdiv p0.eN 2))))) (RO.nx (aP (vi (IntKind.wrap .i64 (p0.At.Y - (IntKind.wrap .i64 (Int.tdiv p0.eN 2))))) (RO.last (aG (RC.sr (mv (vi (IntKind.wrap .i64 (p0.At.X - (IntKind.wrap .i64 (Int.tdiv p0.eN 2))))) ?_))))))))
 refine mv (vi (IntKind.wrap .i64 (p0.At.Y - (IntKind.wrap .i64 (Int.tdiv p0.eN 2))))) (mv (vi (IntKind.wrap .i64 (p0.At.X - (IntKind.wrap .i64 (Int.tdiv p0.eN 2))))) (RL.aZ zr wh (RL.aK 1 j zr oK cG (RL.jo (IntKind.wrap .i64 (p0.At.X - (IntKind.wrap .i64 (Int.tdiv p0.eN 2)))) p0.eN (mv (vi (IntKind.wrap .i64 (p0.At.Y - (IntKind.wrap .i64 (Int.tdiv p0.eN 2))))) (RL.aZ zr wh (RL.aK 1 j zr oK cG (RL.jo (IntKind.wrap .i64 (p0.At.Y - (IntKind.wrap .i64 (Int.tdiv p0.eN 2)))) p0.eN ?_))))))))
 have j:=((j.sc Int (IntKind.wrap .i64 (p0.At.X - (IntKind.wrap .i64 (Int.tdiv p0.eN 2))))).sc Int (IntKind.wrap .i64 (p0.At.Y - (IntKind.wrap .i64 (Int.tdiv p0.eN 2))))).sc Int (IntKind.wrap .i64 ((IntKind.wrap .i64 (p0.At.X - (IntKind.wrap .i64 (Int.tdiv p0.eN 2))))+p0.eN))
 have j:=j.sc Int (IntKind.wrap .i64 ((IntKind.wrap .i64 (p0.At.Y - (IntKind.wrap .i64 (Int.tdiv p0.eN 2))))+p0.eN))
 refine RL.build (⟨(IntKind.wrap .i64 (p0.At.X - (IntKind.wrap .i64 (Int.tdiv p0.eN 2)))),(IntKind.wrap .i64 (p0.At.Y - (IntKind.wrap .i64 (Int.tdiv p0.eN 2)))),(IntKind.wrap .i64 ((IntKind.wrap .i64 (p0.At.X - (IntKind.wrap .i64 (Int.tdiv p0.eN 2))))+p0.eN)),(IntKind.wrap .i64 ((IntKind.wrap .i64 (p0.At.Y - (IntKind.wrap .i64 (Int.tdiv p0.eN 2))))+p0.eN))⟩:aI) trivial rfl j [(0,(vi (IntKind.wrap .i64 (p0.At.X - (IntKind.wrap .i64 (Int.tdiv p0.eN 2)))))),(1,(vi (IntKind.wrap .i64 (p0.At.Y - (IntKind.wrap .i64 (Int.tdiv p0.eN 2)))))),(2,(vi (IntKind.wrap .i64 ((IntKind.wrap .i64 (p0.At.X - (IntKind.wrap .i64 (Int.tdiv p0.eN 2))))+p0.eN)))),(3,(vi (IntKind.wrap .i64 ((IntKind.wrap .i64 (p0.At.Y - (IntKind.wrap .i64 (Int.tdiv p0.eN 2))))+p0.eN))))] rfl A3 rfl (fun M hs g=>by have h:=qg M;exact cH.cons (f:=fun(x:aI) y=>{x with X0:=y}) h oG (g.sat 3 _ rfl).1 fun _ h=>cH.cons (f:=fun(x:aI) y=>{x with Y0:=y}) h qT (g.sat 2 _ rfl).1 fun _ h=>cH.cons (f:=fun(x:aI) y=>{x with X1:=y}) h mZ (g.sat 1 _ rfl).1 fun _ h=>cH.cons (f:=fun(x:aI) y=>{x with Y1:=y}) h oH (g.sat 0 _ rfl).1 fun _ h=>cH.nil h) fun ad j=>?_
 refine RL.bA 5 j 0 zr eZ fun w j=>?_
 refine RL.nt (RC.ret ?_)
 obtain rfl:=oi o
 exact Dl 5 zr j zr zr eZ fun ae j=>(j.pk 9 [0])
theorem rA {p0: (List aA)} {res:aI} (j:Holds E w V) (h0:V[i0]? =some (rd v0 p0)) (hb:ky N p0=some res):
    Calls bF 86 [v0].toArray w (gT (nW E V res)):=by
 unfold ky at hb
 refine enter Tryz.func86 zr zr ?_
 have j:=j.dup (i0+0) h0
 refine RC.sr (RL.alloc j lU.z fun bb w j=>?_)
 refine RL.nq ?_
 obtain⟨bg,bm,hb⟩:=bd hb
 obtain⟨a9,bn,hb⟩:=bd hb
 obtain⟨a6,bo,hb⟩:=bd hb
 obtain⟨bh,bp,hb⟩:=bd hb
 obtain⟨ba,bq,hb⟩:=bd hb
 obtain⟨a7,br,hb⟩:=bd hb
 refine RC.DA E V mixed [1,0,0,0,0,0,1,0,0,0,1,0,0,0,0,0,1,1,0,1,0,0,0,0,0,0] [1,2,3,4,7,8,11,12,13,14,20,21,23,24,25] (fun(x:Value×Value×Value×Value×Value×Value×Value×Value×Value×Value×Value×Value×Value×Nat)=>(fun ah ai aj ak al an ao aq ar au av aw ax ae=>[(0,6,v0),(1,7,ah),(2,8,ai),(3,9,aj),(4,10,ak),(5,11,(vi a9)),(6,12,v0),(7,13,al),(8,14,an),(9,15,(vi a6.Y0)),(10,16,v0),(11,17,ao),(12,18,aq),(13,19,ar),(14,20,au),(15,21,(vi ba)),(16,22,v0),(17,23,v0),(18,24,(vi p0.length)),(19,25,(vi (IntKind.wrap .i64 ((p0.length:Int) - 1)))),(20,26,av),(21,27,aw),(22,28,(vi a7.Y1)),(23,29,ax),(24,3,(vp ae 0))]) x.1 x.2.1 x.2.2.1 x.2.2.2.1 x.2.2.2.2.1 x.2.2.2.2.2.1 x.2.2.2.2.2.2.1 x.2.2.2.2.2.2.2.1 x.2.2.2.2.2.2.2.2.1 x.2.2.2.2.2.2.2.2.2.1 x.2.2.2.2.2.2.2.2.2.2.1 x.2.2.2.2.2.2.2.2.2.2.2.1 x.2.2.2.2.2.2.2.2.2.2.2.2.1 x.2.2.2.2.2.2.2.2.2.2.2.2.2) [(0,v0),(2,vp bb 0)] [] (fun(D:Nat->Bool) (x:Value×Value×Value×Value×Value×Value×Value×Value×Value×Value×Value×Value×Value×Nat)=>(fun ah ai aj ak al an ao aq ar au av aw ax ae=>[bif D 0 then (pt ah bg) else aY,bif D 1 then (pt ai bg.Xs) else aY,bif D 2 then (rd aj bg.Xs) else aY,bif D 3 then (pt ak a9) else aY,bif D 4 then (pt al a6) else aY,bif D 5 then (pt an a6.Y0) else aY,bif D 6 then (pt ao bh) else aY,bif D 7 then (pt aq bh.Xs) else aY,bif D 8 then (rd ar bh.Xs) else aY,bif D 9 then (pt au ba) else aY,bif D 10 then (pt av a7) else aY,bif D 11 then (pt aw a7.Y1) else aY,bif D 12 then (rd ax (⟨a9,a6.Y0,ba,a7.Y1⟩:aI)) else aY,bif D 14 then (bx 50 ae (⟨a9,a6.Y0,ba,a7.Y1⟩:aI)) else (bif D 13 then (raw 50 ae 4) else aY),raw 50 bb 4,rd v0 p0]) x.1 x.2.1 x.2.2.1 x.2.2.2.1 x.2.2.2.2.1 x.2.2.2.2.2.1 x.2.2.2.2.2.2.1 x.2.2.2.2.2.2.2.1 x.2.2.2.2.2.2.2.2.1 x.2.2.2.2.2.2.2.2.2.1 x.2.2.2.2.2.2.2.2.2.2.1 x.2.2.2.2.2.2.2.2.2.2.2.1 x.2.2.2.2.2.2.2.2.2.2.2.2.1 x.2.2.2.2.2.2.2.2.2.2.2.2.2) (fun x=>by kernel_rfl) ?_ ⟨fun _=>jF gn,?_,?_,?_,?_,?_,fun _=>jF gn,?_,?_,?_,fun _=>jF gn,?_,?_,?_,?_,?_,fun _=>jF gn,fun _=>jF gn,?_,fun _=>Fg gn rfl,?_,?_,?_,?_,?_,?_,trivial⟩ ?_
 ·have j:=((((((((((((j.drew).aY).aY).aY).aY).aY).aY).aY).aY).aY).aY).aY).aY
  have j:=(j.aY).aY
  exact⟨(undef,undef,undef,undef,undef,undef,undef,undef,undef,undef,undef,undef,undef,0),eC.none,(Cq zr),zt,j⟩
 ·rintro D U w hD o ag ⟨⟨ah,ai,aj,ak,al,an,ao,aq,ar,au,av,aw,ax,ae⟩,hv,ha,_,j⟩
  obtain⟨O,rfl⟩:=(ac (hv.at 0 rfl (o.1 rfl)) az).fC
  have j:=j.bX 0 hD
  refine RL.cB 15 j mC bm fun bt j=>?_
  have j:=(j.pl 17 [0,2,3,4,5,6,7,8,9,10,11,12,13,14,15,16]).cO 0 true aY
  exact RL.nil ⟨rfl,(bt,ai,aj,ak,al,an,ao,aq,ar,au,av,aw,ax,ae),hv.pu 1,ha.u,zt,j⟩
 ·rintro D U w hD o ag ⟨⟨ah,ai,aj,ak,al,an,ao,aq,ar,au,av,aw,ax,ae⟩,hv,ha,_,j⟩
  obtain⟨O,rfl⟩:=(ac (hv.at 1 rfl (o.1 rfl)) az).fC
  have j:=(j.cN 0 (o.1 rfl)).bX 1 hD
  refine RL.ig 0 j zr jW cZ fun bu j=>?_
  have j:=((j.pl 17 [1,0,3,4,5,6,7,8,9,10,11,12,13,14,15,16]).cO (hb:=o.1 rfl) 0 (D 1) aY).cO 1 true aY
  exact RL.nil ⟨rfl,(ah,bu,aj,ak,al,an,ao,aq,ar,au,av,aw,ax,ae),hv.pu 2,ha.u,zt,j⟩
 ·rintro D U w hD o ag ⟨⟨ah,ai,aj,ak,al,an,ao,aq,ar,au,av,aw,ax,ae⟩,hv,ha,_,j⟩
  obtain⟨O,rfl⟩:=(ac (hv.at 2 rfl (o.1 rfl)) az).fC
  have j:=(j.cN 1 (o.1 rfl)).bX 2 hD
  refine RL.bP 1 bg.Xs j eU fun bw j=>?_
  have j:=((j.pl 17 [1,2,0,4,5,6,7,8,9,10,11,12,13,14,15,16]).cO (hb:=o.1 rfl) 1 (D 2) aY).cO 2 true aY
  exact RL.nil ⟨rfl,(ah,ai,bw,ak,al,an,ao,aq,ar,au,av,aw,ax,ae),hv.pu 3,ha.u,zt,j⟩
 ·rintro D U w hD o ag ⟨⟨ah,ai,aj,ak,al,an,ao,aq,ar,au,av,aw,ax,ae⟩,hv,ha,_,j⟩
  obtain⟨O,rfl⟩:=(ac (hv.at 3 rfl (o.1 rfl)) az).fC
  have j:=(j.cN 2 (o.1 rfl)).bX 3 hD
  refine RL.cB 2 j eE bn fun bz j=>?_
  have j:=((j.pl 17 [1,2,3,0,5,6,7,8,9,10,11,12,13,14,15,16]).cO (hb:=o.1 rfl) 2 (D 3) aY).cO 3 true aY
  exact RL.nil ⟨rfl,(ah,ai,aj,bz,al,an,ao,aq,ar,au,av,aw,ax,ae),hv.pu 4,ha.u,zt,j⟩
 ·rintro D U w hD o ag ⟨⟨ah,ai,aj,ak,al,an,ao,aq,ar,au,av,aw,ax,ae⟩,hv,ha,_,j⟩
  obtain⟨O,rfl⟩:=(ac (hv.at 4 rfl (o.1 rfl)) az).fC
  have j:=j.cN 3 (o.1 rfl)
  refine RL.bG a9 3 j cG ?_
  have j:=j.cO (hb:=o.1 rfl) 3 (D 4) aY
  exact RL.nil ⟨rfl,(ah,ai,aj,ak,al,an,ao,aq,ar,au,av,aw,ax,ae),hv.pu 5,ha.u,zt,j⟩
 ·rintro D U w hD o ag ⟨⟨ah,ai,aj,ak,al,an,ao,aq,ar,au,av,aw,ax,ae⟩,hv,ha,_,j⟩
  obtain⟨O,rfl⟩:=(ac (hv.at 6 rfl (o.1 rfl)) az).fC
  have j:=j.bX 4 hD
  refine RL.cB 15 j mC bo fun b0 j=>?_
  have j:=(j.pl 17 [1,2,3,4,0,6,7,8,9,10,11,12,13,14,15,16]).cO 4 true aY
  exact RL.nil ⟨rfl,(ah,ai,aj,ak,b0,an,ao,aq,ar,au,av,aw,ax,ae),hv.pu 7,ha.u,zt,j⟩
 ·rintro D U w hD o ag ⟨⟨ah,ai,aj,ak,al,an,ao,aq,ar,au,av,aw,ax,ae⟩,hv,ha,_,j⟩
  obtain⟨O,rfl⟩:=(ac (hv.at 7 rfl (o.1 rfl)) az).fC
  have j:=(j.cN 4 (o.1 rfl)).bX 5 hD
  refine RL.ig 4 j zr mQ fB fun b1 j=>?_
  have j:=((j.pl 17 [1,2,3,4,5,0,7,8,9,10,11,12,13,14,15,16]).cO (hb:=o.1 rfl) 4 (D 7) aY).cO 5 true aY
  exact RL.nil ⟨rfl,(ah,ai,aj,ak,al,b1,ao,aq,ar,au,av,aw,ax,ae),hv.pu 8,ha.u,zt,j⟩
 ·rintro D U w hD o ag ⟨⟨ah,ai,aj,ak,al,an,ao,aq,ar,au,av,aw,ax,ae⟩,hv,ha,_,j⟩
  obtain⟨O,rfl⟩:=(ac (hv.at 8 rfl (o.1 rfl)) az).fC
  have j:=j.cN 5 (o.1 rfl)
  refine RL.bG a6.Y0 5 j cG ?_
  have j:=j.cO (hb:=o.1 rfl) 5 (D 8) aY
  exact RL.nil ⟨rfl,(ah,ai,aj,ak,al,an,ao,aq,ar,au,av,aw,ax,ae),hv.pu 9,ha.u,zt,j⟩
 ·rintro D U w hD o ag ⟨⟨ah,ai,aj,ak,al,an,ao,aq,ar,au,av,aw,ax,ae⟩,hv,ha,_,j⟩
  obtain⟨O,rfl⟩:=(ac (hv.at 10 rfl (o.1 rfl)) az).fC
  have j:=j.bX 6 hD
  refine RL.cB 15 j mC bp fun b2 j=>?_
  have j:=(j.pl 17 [1,2,3,4,5,6,0,8,9,10,11,12,13,14,15,16]).cO 6 true aY
  exact RL.nil ⟨rfl,(ah,ai,aj,ak,al,an,b2,aq,ar,au,av,aw,ax,ae),hv.pu 11,ha.u,zt,j⟩
 ·rintro D U w hD o ag ⟨⟨ah,ai,aj,ak,al,an,ao,aq,ar,au,av,aw,ax,ae⟩,hv,ha,_,j⟩
  obtain⟨O,rfl⟩:=(ac (hv.at 11 rfl (o.1 rfl)) az).fC
  have j:=(j.cN 6 (o.1 rfl)).bX 7 hD
  refine RL.ig 6 j zr jW cZ fun b3 j=>?_
  have j:=((j.pl 17 [1,2,3,4,5,6,7,0,9,10,11,12,13,14,15,16]).cO (hb:=o.1 rfl) 6 (D 11) aY).cO 7 true aY
  exact RL.nil ⟨rfl,(ah,ai,aj,ak,al,an,ao,b3,ar,au,av,aw,ax,ae),hv.pu 12,ha.u,zt,j⟩
 ·rintro D U w hD o ag ⟨⟨ah,ai,aj,ak,al,an,ao,aq,ar,au,av,aw,ax,ae⟩,hv,ha,_,j⟩
  obtain⟨O,rfl⟩:=(ac (hv.at 12 rfl (o.1 rfl)) az).fC
  have j:=(j.cN 7 (o.1 rfl)).bX 8 hD
  refine RL.bP 7 bh.Xs j eU fun b4 j=>?_
  have j:=((j.pl 17 [1,2,3,4,5,6,7,8,0,10,11,12,13,14,15,16]).cO (hb:=o.1 rfl) 7 (D 12) aY).cO 8 true aY
  exact RL.nil ⟨rfl,(ah,ai,aj,ak,al,an,ao,aq,b4,au,av,aw,ax,ae),hv.pu 13,ha.u,zt,j⟩
 ·rintro D U w hD o ag ⟨⟨ah,ai,aj,ak,al,an,ao,aq,ar,au,av,aw,ax,ae⟩,hv,ha,_,j⟩
  obtain⟨O,rfl⟩:=(ac (hv.at 13 rfl (o.1 rfl)) az).fC
  have j:=(j.cN 8 (o.1 rfl)).bX 9 hD
  refine RL.cB 8 j eE bq fun b5 j=>?_
  have j:=((j.pl 17 [1,2,3,4,5,6,7,8,9,0,11,12,13,14,15,16]).cO (hb:=o.1 rfl) 8 (D 13) aY).cO 9 true aY
  exact RL.nil ⟨rfl,(ah,ai,aj,ak,al,an,ao,aq,ar,b5,av,aw,ax,ae),hv.pu 14,ha.u,zt,j⟩
 ·rintro D U w hD o ag ⟨⟨ah,ai,aj,ak,al,an,ao,aq,ar,au,av,aw,ax,ae⟩,hv,ha,_,j⟩
  obtain⟨O,rfl⟩:=(ac (hv.at 14 rfl (o.1 rfl)) az).fC
  have j:=j.cN 9 (o.1 rfl)
  refine RL.bG ba 9 j cG ?_
  have j:=j.cO (hb:=o.1 rfl) 9 (D 14) aY
  exact RL.nil ⟨rfl,(ah,ai,aj,ak,al,an,ao,aq,ar,au,av,aw,ax,ae),hv.pu 15,ha.u,zt,j⟩
 ·rintro D U w hD o ag ⟨⟨ah,ai,aj,ak,al,an,ao,aq,ar,au,av,aw,ax,ae⟩,hv,ha,_,j⟩
  obtain⟨O,rfl⟩:=(ac (hv.at 17 rfl (o.1 rfl)) az).fC
  refine RL.bE 15 p0 j rn ?_
  exact RL.nil ⟨rfl,(ah,ai,aj,ak,al,an,ao,aq,ar,au,av,aw,ax,ae),hv.pu 18,ha.u,zt,j⟩
 ·rintro D U w hD o ag ⟨⟨ah,ai,aj,ak,al,an,ao,aq,ar,au,av,aw,ax,ae⟩,hv,ha,_,j⟩
  obtain⟨O,rfl⟩:=(ac (hv.at 16 rfl (o.1 rfl)) (ac (hv.at 19 rfl (o.2.1 rfl)) az)).fC
  have j:=j.bX 10 hD
  refine RL.cB 15 j mC br fun b6 j=>?_
  have j:=(j.pl 17 [1,2,3,4,5,6,7,8,9,10,0,12,13,14,15,16]).cO 10 true aY
  exact RL.nil ⟨rfl,(ah,ai,aj,ak,al,an,ao,aq,ar,au,b6,aw,ax,ae),hv.pu 20,ha.u,zt,j⟩
 ·rintro D U w hD o ag ⟨⟨ah,ai,aj,ak,al,an,ao,aq,ar,au,av,aw,ax,ae⟩,hv,ha,_,j⟩
  obtain⟨O,rfl⟩:=(ac (hv.at 20 rfl (o.1 rfl)) az).fC
  have j:=(j.cN 10 (o.1 rfl)).bX 11 hD
  refine RL.ig 10 j zr kZ dZ fun b7 j=>?_
  have j:=((j.pl 17 [1,2,3,4,5,6,7,8,9,10,11,0,13,14,15,16]).cO (hb:=o.1 rfl) 10 (D 20) aY).cO 11 true aY
  exact RL.nil ⟨rfl,(ah,ai,aj,ak,al,an,ao,aq,ar,au,av,b7,ax,ae),hv.pu 21,ha.u,zt,j⟩
 ·rintro D U w hD o ag ⟨⟨ah,ai,aj,ak,al,an,ao,aq,ar,au,av,aw,ax,ae⟩,hv,ha,_,j⟩
  obtain⟨O,rfl⟩:=(ac (hv.at 21 rfl (o.1 rfl)) az).fC
  have j:=j.cN 11 (o.1 rfl)
  refine RL.bG a7.Y1 11 j cG ?_
  have j:=j.cO (hb:=o.1 rfl) 11 (D 21) aY
  exact RL.nil ⟨rfl,(ah,ai,aj,ak,al,an,ao,aq,ar,au,av,aw,ax,ae),hv.pu 22,ha.u,zt,j⟩
 ·rintro D U w hD o ag ⟨⟨ah,ai,aj,ak,al,an,ao,aq,ar,au,av,aw,ax,ae⟩,hv,ha,_,j⟩
  obtain⟨O,rfl⟩:=(ac (hv.at 5 rfl (o.1 rfl)) (ac (hv.at 9 rfl (o.2.1 rfl)) (ac (hv.at 15 rfl (o.2.2.1 rfl)) (ac (hv.at 22 rfl (o.2.2.2.1 rfl)) az)))).fC
  have j:=((((j.bX 12 hD).sc Int a9).sc Int a6.Y0).sc Int ba).sc Int a7.Y1
  refine RL.build (⟨a9,a6.Y0,ba,a7.Y1⟩:aI) trivial rfl j [(0,vi a9),(1,vi a6.Y0),(2,vi ba),(3,vi a7.Y1)] rfl A3 rfl (fun M hs g=>by have h:=qg M;exact cH.cons (f:=fun(x:aI) y=>{x with X0:=y}) h oG (g.sat 3 _ rfl).1 fun _ h=>cH.cons (f:=fun(x:aI) y=>{x with Y0:=y}) h qT (g.sat 2 _ rfl).1 fun _ h=>cH.cons (f:=fun(x:aI) y=>{x with X1:=y}) h mZ (g.sat 1 _ rfl).1 fun _ h=>cH.cons (f:=fun(x:aI) y=>{x with Y1:=y}) h oH (g.sat 0 _ rfl).1 fun _ h=>cH.nil h) fun b8 j=>?_
  have j:=(j.pl 21 [5,6,7,8,9,10,11,12,13,14,15,16,0,18,19,20]).cO 12 true aY
  exact RL.nil ⟨rfl,(ah,ai,aj,ak,al,an,ao,aq,ar,au,av,aw,b8,ae),hv.pu 23,ha.u,zt,j⟩
 ·rintro D U w hD o ag ⟨⟨ah,ai,aj,ak,al,an,ao,aq,ar,au,av,aw,ax,ae⟩,hv,ha,_,j⟩
  obtain⟨O,rfl⟩:=(az (U:=U)).fC
  have j:=(j.bX 13 (nh ag hD 25)).bX 13 hD
  refine RL.alloc j lU.z fun bj w j=>?_
  have j:=((j.pl 17 [1,2,3,4,5,6,7,8,9,10,11,12,13,0,15,16]).cO 13 true aY).eR 13 (D 25) (nh ag hD 25) (bx 50 bj (⟨a9,a6.Y0,ba,a7.Y1⟩:aI))
  exact RL.nil ⟨rfl,(ah,ai,aj,ak,al,an,ao,aq,ar,au,av,aw,ax,bj),hv.pu 24,ha.u,zt,j⟩
 ·rintro D U w hD o ag ⟨⟨ah,ai,aj,ak,al,an,ao,aq,ar,au,av,aw,ax,ae⟩,hv,ha,_,j⟩
  obtain⟨O,rfl⟩:=(ac (hv.at 23 rfl (o.2.1 rfl)) (ac (hv.at 24 rfl (o.1 rfl)) az)).fC
  have j:=((j.cN 12 (o.2.1 rfl)).bX 13 hD).cN 13 (o.1 rfl)
  refine RL.bA 13 j 12 zr eZ fun w j=>?_
  have j:=(j.cO (hb:=o.2.1 rfl) 12 (D 23) aY).cO 13 true (bif D 24 then (raw 50 ae 4) else aY)
  exact RL.nil ⟨rfl,(ah,ai,aj,ak,al,an,ao,aq,ar,au,av,aw,ax,ae),hv.n1,ha,zt,j⟩
 rintro D U w a4 ⟨⟨ah,ai,aj,ak,al,an,ao,aq,ar,au,av,aw,ax,ae⟩,hv,ha,_,j⟩
 have j:=((((((j.cN 0 (jS a4 1)).cN 1 (jS a4 2)).cN 2 (jS a4 3)).cN 3 (jS a4 4)).cN 4 (jS a4 7)).cN 5 (jS a4 8)).cN 6 (jS a4 11)
 have j:=((((((j.cN 7 (jS a4 12)).cN 8 (jS a4 13)).cN 9 (jS a4 14)).cN 10 (jS a4 20)).cN 11 (jS a4 21)).cN 12 (jS a4 23)).cN 13 (jS a4 25)
 obtain⟨O,rfl⟩:=(ac (hv.at 24 rfl (jS a4 24)) (ac (ha.at 0 rfl) (ac (ha.at 1 rfl) az))).fC
 refine aG (RC.seq (RC.sr (mv v0 (RL.bE 15 p0 j rn (mv (vi 0) (RL.nt ?_))))))
 obtain⟨af,hN,hb⟩:=bd hb
 refine RC.fold (fun(bc:Nat) (af:aI)=>SH E V [(2,vp bb 0),(3,vp ae 0),(30,v0),(31,vi p0.length),(32,vi bc)] [raw 50 bb 4,bx 50 ae af,rd v0 p0]) (fun(af:aI)=>SH E V [(2,vp bb 0),(3,vp ae 0)] [raw 50 bb 4,bx 50 ae af,rd v0 p0]) hN ?_ ?_ ?_ ?_
 ·exact j.sp 16 [14,13,15]
 ·rintro hm af _ w ⟨O,rfl,j⟩
  refine RC.sr (ic ((p0.length:Int)) ((p0.length:Int)) (RL.nq (RC.cT mc (RC.ex ?_))))
  exact⟨rfl,j.sp 3 [0,1,2]⟩
 ·rintro hm bc af s' _ w hk ⟨O,rfl,j⟩ hb
  refine RC.sr (ic ((bc:Int)) ((p0.length:Int)) (RL.nq (RC.cS (mb hk) (RC.ss (RC.bs ?_)))))
  obtain⟨a8,ca,hb⟩:=bd hb
  refine RL.cB 2 j mC ca fun cb j=>(RL.bP 0 a8 j tq fun cc j=>(RL.alloc j z6.z fun bf w j=>?_))
  refine RL.bA 0 j 1 zr tq fun w j=>?_
  refine RL.nt ?_
  obtain⟨dH,cd,hb⟩:=bd hb
  obtain⟨a5,cf,hb⟩:=bd hb
  refine RC.DA E V mixed [1,0,1,0,0,0,0,1,0,1,0,1,0,0,1,0,0,0,1,0,1,0] [3,4,10,12,15,19,21] (fun(x:Value×Value×Value×Value×Value)=>(fun ay a0 a1 a2 a3=>[(0,36,(vp ae 0)),(1,37,(vi af.X0)),(2,38,(vp bf 2)),(3,39,ay),(4,40,a0),(5,41,(vi dH)),(6,42,(vi (if dH<af.X0 then dH else af.X0))),(7,43,(vp ae 2)),(8,44,(vi af.X1)),(9,45,(vp bf 2)),(10,46,a1),(11,47,(vp bf 2)),(12,48,a2),(13,49,(vi a8.Xs.length)),(14,50,(vi (IntKind.wrap .i64 ((a8.Xs.length:Int) - 1)))),(15,51,a3),(16,52,(vi a5)),(17,53,(vi (if af.X1<a5 then a5 else af.X1))),(18,54,(vp ae 0)),(20,55,(vp ae 2))]) x.1 x.2.1 x.2.2.1 x.2.2.2.1 x.2.2.2.2) [(2,vp bb 0),(3,vp ae 0),(5,vp bf 0),(30,v0),(31,vi p0.length),(32,vi bc)] [] (fun(D:Nat->Bool) (x:Value×Value×Value×Value×Value)=>(fun ay a0 a1 a2 a3=>[bif D 0 then (rd ay a8.Xs) else aY,bif D 1 then (pt a0 dH) else aY,bif D 2 then (rd a1 a8.Xs) else aY,bif D 3 then (rd a2 a8.Xs) else aY,bif D 4 then (pt a3 a5) else aY,bx 129 bf a8,rd cc a8,pt cb a8,raw 50 bb 4,bif D 6 then (bx 50 ae {{af with X0:=(if dH<af.X0 then dH else af.X0)} with X1:=(if af.X1<a5 then a5 else af.X1)}) else (bif D 5 then (bx 50 ae {af with X0:=(if dH<af.X0 then dH else af.X0)}) else (bx 50 ae af)),rd v0 p0]) x.1 x.2.1 x.2.2.1 x.2.2.2.1 x.2.2.2.2) (fun x=>by kernel_rfl) ?_ ⟨fun _=>nb gn iX,?_,fun _=>nb gn jW,?_,?_,?_,?_,fun _=>nb gn ke,?_,fun _=>nb gn jW,?_,fun _=>nb gn jW,?_,?_,fun _=>Fg gn rfl,?_,?_,?_,fun _=>nb gn iX,?_,fun _=>nb gn ke,?_,trivial⟩ ?_
  ·have j:=(((((j.drew).aY).aY).aY).aY).aY
   exact⟨(undef,undef,undef,undef,undef),eC.none,(Cq zr),zt,j⟩
  ·rintro D U w hD o ag ⟨⟨ay,a0,a1,a2,a3⟩,hv,ha,_,j⟩
   obtain⟨O,rfl⟩:=(ac (hv.at 0 rfl (o.1 rfl)) az).fC
   have j:=(j.bX 9 (nh ag hD 21)).bX 9 (nh ag hD 19)
   refine RL.aK 9 j zr eG cG ?_
   have j:=(j.eR 9 (D 19) (nh ag hD 19) (bx 50 ae {af with X0:=(if dH<af.X0 then dH else af.X0)})).eR 9 (D 21) (nh ag hD 21) (bx 50 ae {{af with X0:=(if dH<af.X0 then dH else af.X0)} with X1:=(if af.X1<a5 then a5 else af.X1)})
   exact RL.nil ⟨rfl,(ay,a0,a1,a2,a3),hv.pu 1,ha.u,zt,j⟩
  ·rintro D U w hD o ag ⟨⟨ay,a0,a1,a2,a3⟩,hv,ha,_,j⟩
   obtain⟨O,rfl⟩:=(ac (hv.at 2 rfl (o.1 rfl)) az).fC
   have j:=j.bX 0 hD
   refine RL.aX 5 j zr cZ eU fun cg j=>?_
   have j:=(j.pl 12 [0,2,3,4,5,6,7,8,9,10,11]).cO 0 true aY
   exact RL.nil ⟨rfl,(cg,a0,a1,a2,a3),hv.pu 3,ha.u,zt,j⟩
  ·rintro D U w hD o ag ⟨⟨ay,a0,a1,a2,a3⟩,hv,ha,_,j⟩
   obtain⟨O,rfl⟩:=(ac (hv.at 3 rfl (o.1 rfl)) az).fC
   have j:=(j.cN 0 (o.1 rfl)).bX 1 hD
   refine RL.cB 0 j eE cd fun ch j=>?_
   have j:=((j.pl 12 [1,0,3,4,5,6,7,8,9,10,11]).cO (hb:=o.1 rfl) 0 (D 3) aY).cO 1 true aY
   exact RL.nil ⟨rfl,(ay,ch,a1,a2,a3),hv.pu 4,ha.u,zt,j⟩
  ·rintro D U w hD o ag ⟨⟨ay,a0,a1,a2,a3⟩,hv,ha,_,j⟩
   obtain⟨O,rfl⟩:=(ac (hv.at 4 rfl (o.1 rfl)) az).fC
   have j:=j.cN 1 (o.1 rfl)
   refine RL.bG dH 1 j cG ?_
   have j:=j.cO (hb:=o.1 rfl) 1 (D 4) aY
   exact RL.nil ⟨rfl,(ay,a0,a1,a2,a3),hv.pu 5,ha.u,zt,j⟩
  ·rintro D U w hD o ag ⟨⟨ay,a0,a1,a2,a3⟩,hv,ha,_,j⟩
   obtain⟨O,rfl⟩:=(ac (hv.at 1 rfl (o.1 rfl)) (ac (hv.at 5 rfl (o.2.1 rfl)) az)).fC
   refine RL.min af.X0 dH ?_
   exact RL.nil ⟨rfl,(ay,a0,a1,a2,a3),hv.pu 6,ha.u,zt,j⟩
  ·rintro D U w hD o ag ⟨⟨ay,a0,a1,a2,a3⟩,hv,ha,_,j⟩
   obtain⟨O,rfl⟩:=(ac (hv.at 7 rfl (o.1 rfl)) az).fC
   have j:=(j.bX 9 (nh ag hD 21)).bX 9 (nh ag hD 19)
   refine RL.aK 9 j zr fW cG ?_
   have j:=(j.eR 9 (D 19) (nh ag hD 19) (bx 50 ae {af with X0:=(if dH<af.X0 then dH else af.X0)})).eR 9 (D 21) (nh ag hD 21) (bx 50 ae {{af with X0:=(if dH<af.X0 then dH else af.X0)} with X1:=(if af.X1<a5 then a5 else af.X1)})
   exact RL.nil ⟨rfl,(ay,a0,a1,a2,a3),hv.pu 8,ha.u,zt,j⟩
  ·rintro D U w hD o ag ⟨⟨ay,a0,a1,a2,a3⟩,hv,ha,_,j⟩
   obtain⟨O,rfl⟩:=(ac (hv.at 9 rfl (o.1 rfl)) az).fC
   have j:=j.bX 2 hD
   refine RL.aX 5 j zr cZ eU fun cj j=>?_
   have j:=(j.pl 12 [1,2,0,4,5,6,7,8,9,10,11]).cO 2 true aY
   exact RL.nil ⟨rfl,(ay,a0,cj,a2,a3),hv.pu 10,ha.u,zt,j⟩
  ·rintro D U w hD o ag ⟨⟨ay,a0,a1,a2,a3⟩,hv,ha,_,j⟩
   obtain⟨O,rfl⟩:=(ac (hv.at 11 rfl (o.1 rfl)) az).fC
   have j:=j.bX 3 hD
   refine RL.aX 5 j zr cZ eU fun ck j=>?_
   have j:=(j.pl 12 [1,2,3,0,5,6,7,8,9,10,11]).cO 3 true aY
   exact RL.nil ⟨rfl,(ay,a0,a1,ck,a3),hv.pu 12,ha.u,zt,j⟩
  ·rintro D U w hD o ag ⟨⟨ay,a0,a1,a2,a3⟩,hv,ha,_,j⟩
   obtain⟨O,rfl⟩:=(ac (hv.at 12 rfl (o.1 rfl)) az).fC
   have j:=j.cN 3 (o.1 rfl)
   refine RL.bE 3 a8.Xs j lx ?_
   have j:=j.cO (hb:=o.1 rfl) 3 (D 12) aY
   exact RL.nil ⟨rfl,(ay,a0,a1,a2,a3),hv.pu 13,ha.u,zt,j⟩
  ·rintro D U w hD o ag ⟨⟨ay,a0,a1,a2,a3⟩,hv,ha,_,j⟩
   obtain⟨O,rfl⟩:=(ac (hv.at 10 rfl (o.1 rfl)) (ac (hv.at 14 rfl (o.2.1 rfl)) az)).fC
   have j:=(j.cN 2 (o.1 rfl)).bX 4 hD
   refine RL.cB 2 j eE cf fun cl j=>?_
   have j:=((j.pl 12 [1,2,3,4,0,6,7,8,9,10,11]).cO (hb:=o.1 rfl) 2 (D 10) aY).cO 4 true aY
   exact RL.nil ⟨rfl,(ay,a0,a1,a2,cl),hv.pu 15,ha.u,zt,j⟩
  ·rintro D U w hD o ag ⟨⟨ay,a0,a1,a2,a3⟩,hv,ha,_,j⟩
   obtain⟨O,rfl⟩:=(ac (hv.at 15 rfl (o.1 rfl)) az).fC
   have j:=j.cN 4 (o.1 rfl)
   refine RL.bG a5 4 j cG ?_
   have j:=j.cO (hb:=o.1 rfl) 4 (D 15) aY
   exact RL.nil ⟨rfl,(ay,a0,a1,a2,a3),hv.pu 16,ha.u,zt,j⟩
  ·rintro D U w hD o ag ⟨⟨ay,a0,a1,a2,a3⟩,hv,ha,_,j⟩
   obtain⟨O,rfl⟩:=(ac (hv.at 8 rfl (o.1 rfl)) (ac (hv.at 16 rfl (o.2.1 rfl)) az)).fC
   refine RL.max af.X1 a5 ?_
   exact RL.nil ⟨rfl,(ay,a0,a1,a2,a3),hv.pu 17,ha.u,zt,j⟩
  ·rintro D U w hD o ag ⟨⟨ay,a0,a1,a2,a3⟩,hv,ha,_,j⟩
   obtain⟨O,rfl⟩:=(ac (hv.at 6 rfl (o.2.1 rfl)) (ac (hv.at 18 rfl (o.1 rfl)) az)).fC
   have j:=((j.bX 9 (nh ag hD 21)).bX 9 hD).sc Int (if dH<af.X0 then dH else af.X0)
   refine RL.sW 10 j zr zr zr 0 zr oG cG fun w j=>?_
   have j:=((j.pl 12 [1,2,3,4,5,6,7,8,9,10,11]).cO 9 true (bx 50 ae af)).eR 9 (D 21) (nh ag hD 21) (bx 50 ae {{af with X0:=(if dH<af.X0 then dH else af.X0)} with X1:=(if af.X1<a5 then a5 else af.X1)})
   exact RL.nil ⟨rfl,(ay,a0,a1,a2,a3),hv.n1,ha,zt,j⟩
  ·rintro D U w hD o ag ⟨⟨ay,a0,a1,a2,a3⟩,hv,ha,_,j⟩
   obtain⟨O,rfl⟩:=(ac (hv.at 17 rfl (o.2.1 rfl)) (ac (hv.at 19 rfl (o.1 rfl)) az)).fC
   have j:=((j.bX 9 hD).cN 9 (o.2.2.1 rfl)).sc Int (if af.X1<a5 then a5 else af.X1)
   refine RL.sW 10 j zr zr zr 0 zr mZ cG fun w j=>?_
   have j:=(j.pl 12 [1,2,3,4,5,6,7,8,9,10,11]).cO 9 true (bif D 19 then (bx 50 ae {af with X0:=(if dH<af.X0 then dH else af.X0)}) else (bx 50 ae af))
   exact RL.nil ⟨rfl,(ay,a0,a1,a2,a3),hv.n1,ha,zt,j⟩
  rintro D U w a4 ⟨⟨ay,a0,a1,a2,a3⟩,hv,ha,_,j⟩
  have j:=(((((j.cN 0 (jS a4 3)).cN 1 (jS a4 4)).cN 2 (jS a4 10)).cN 3 (jS a4 12)).cN 4 (jS a4 15)).cN 9 (jS a4 21)
  obtain⟨O,rfl⟩:=(ac (ha.at 0 rfl) (ac (ha.at 1 rfl) (ac (ha.at 2 rfl) (ac (ha.at 3 rfl) (ac (ha.at 4 rfl) (ac (ha.at 5 rfl) az)))))).fC
  refine bT (aG (RC.region (RL.inc hk hm (mv (vi ((bc+1:Nat):Int)) (RL.nil ?_)))))
  obtain rfl:=oi hb
  exact⟨rfl,j.sp 11 [8,9,10]⟩
 rintro _ w ⟨O,rfl,j⟩
 refine aG (RC.sr (RL.aX (f:=(fun x=>x)) 1 j zr Fd.self eZ fun cm j=>(RL.bA 1 j 0 zr eZ fun w j=>?_)))
 refine RL.nt (RC.ret ?_)
 obtain rfl:=oi hb
 exact Dl 1 zr j zr zr eZ fun cn j=>(j.pk 5 [0])
theorem tA {p0: (List aA)} {res:Bool} (j:Holds E w V) (h0:V[i0]? =some (rd v0 p0)) (hb:j9 N p0=some res):
    Calls bF 69 [v0].toArray w (gT (bD E V res)):=by
 unfold j9 at hb
 refine enter Tryz.func69 zr zr ?_
 have j:=j.dup (i0+0) h0
 refine RC.sr (aP (vb false) (RL.nq ?_))
 obtain⟨ad,o,hb⟩:=bd hb
 refine RC.jn (fun(ad:Bool)=>SH E V [(2,vb ad)] []) ad ?_ ?_
 ·refine RC.region (mv v0 (RL.bE 0 p0 j rn (ic ((p0.length:Int)) 0 (mv (vb ((p0.length:Int)==0)) (fY o (fun aa o=>?_) fun aa o=>?_)))))
  ·refine bR aa (bR aa (bR aa (fV aa (vb true) (aP (vb true) (RL.nil ?_)))))
   obtain rfl:=oi o
   exact⟨rfl,j.sp 1 []⟩
  refine RL.move v0 (cg aa) ?_
  obtain⟨ai,af,o⟩:=bd o
  refine RL.call (cg aa) zr IZ [v0] zr (aF (rA N (i0:=0) j zr af) ?_)
  rintro ag w j
  obtain⟨ae,ah,o⟩:=bd o
  refine RL.call (cg aa) zr Hg [ag] zr (aF (pE N (i0:=0) j zr ah) ?_)
  rintro _ w ⟨rfl,j⟩
  refine fV aa (vb ae) (aP (vb ae) (RL.nil ?_))
  obtain rfl:=oi o
  exact⟨rfl,j.sp 2 []⟩
 rintro _ w ⟨O,rfl,j⟩
 refine aG (RC.ret ?_)
 obtain rfl:=oi hb
 exact cI ⟨rfl,j.drop 0⟩
def vv (E:World) (V:List HP) (res:aI×Int) (v:Value) (w:World):Prop:=∃u0:Value,v = .tuple #[u0,(vi res.2)]/\Holds E w ([rd u0 res.1]++V)
theorem uH {p0:bU} {res:aI×Int} (j:Holds E w V) (h0:V[i0]? =some (rd v0 p0)) (o:jI N p0=some res):
    Calls bF 39 [v0].toArray w (gT (vv E V res)):=by
 unfold jI at o
 refine enter Tryz.func39 zr zr ?_
 have j:=j.dup (i0+0) h0
 refine RC.sr (RL.dD 0 v0 j zr fun af w j=>?_)
 refine RL.alloc j lU.z fun ag w j=>?_
 refine aP (vi 0) (RL.nq (RC.seq ?_))
 obtain⟨ad,hj,o⟩:=bd o
 refine RC.jn (fun(ad:Bool)=>SH E V [(1,vp af 0),(2,vp ag 0),(14,vb ad)] [bx 60 af p0,raw 50 ag 4]) ad ?_ ?_
 ·refine RC.region (RL.aZ zr wh (RL.aK 1 j zr oK cG ?_))
  obtain⟨ah,aj,hj⟩:=bd hj
  refine RL.call zt zr Fi [(vi p0.eN),(vi 1),(vi 10000)] zr (aF (kD N (p0:=p0.eN) (p1:=1) (p2:=10000) j aj) ?_)
  rintro _ w ⟨rfl,j⟩
  refine RL.not ah (mv (vb (!ah)) (fY hj (fun aa hj=>?_) fun aa hj=>?_))
  ·refine bR aa (bR aa (bR aa (bR aa (fV aa (vb true) (RL.nil ?_)))))
   obtain rfl:=oi hj
   exact⟨rfl,j.sp 3 [1,0]⟩
  refine RL.aZ (hg:=(cg aa)) zr A4 (RL.aX (hg:=(cg aa)) 1 j zr uv rp fun ak j=>?_)
  obtain⟨ai,al,hj⟩:=bd hj
  refine RL.call (cg aa) zr Hn [ak] zr (aF (oO N (i0:=0) j zr al) ?_)
  rintro _ w ⟨rfl,j⟩
  refine RL.not (hg:=(cg aa)) ai (fV aa (vb (!ai)) (RL.nil ?_))
  obtain rfl:=oi hj
  exact⟨rfl,j.sp 4 [2,1]⟩
 rintro _ w ⟨O,rfl,j⟩
 refine aG (fH o (fun hc o=>?_) fun hc o=>?_)
 ·refine RC.sr (RL.build (⟨0,0,0,0⟩:aI) trivial rfl j [] rfl A3 rfl (fun M hs g=>by have h:=qg M;exact cH.nil h) fun a2 j=>?_)
  refine RL.bA 2 j 0 zr eZ fun w j=>?_
  refine aP (vi 1) (RL.nt (RC.rt ?_))
  obtain rfl:=oi o
  exact xI 2 j eZ fun an j=>⟨an,zr,j.pk 4 [0]⟩
 refine RC.sx (RL.aX (f:=(fun x=>x)) 0 j zr Fd.self nM fun ao j=>?_)
 obtain⟨aq,ar,o⟩:=bd o
 refine RL.call zt zr CC [ao] zr (aF (gq N (i0:=0) j zr ar) ?_)
 rintro a3 w j
 refine RL.alloc j lU.z fun a4 w j=>?_
 refine RL.bA 0 j 1 zr eZ fun w j=>?_
 refine RL.nq (RC.sr (RL.aX (f:=(fun x=>x)) 0 j zr Fd.self eZ fun au j=>(RL.eP ([aq]: (List aI)) j [au] kd lU (fun M hs g=>⟨(g.sat 0 _ zr).1,zt⟩) fun av w j=>?_)))
 have j:=j.freeze 0
 obtain⟨a5,aw,o⟩:=bd o
 refine RL.call zt zr DQ [av] zr (aF (kh N (i0:=0) j zr aw) ?_)
 rintro ax w j
 have j:=j.freeze 0
 obtain⟨ay,az,o⟩:=bd o
 refine RL.call zt zr I0 [ax] zr (aF (tA N (i0:=0) j zr az) ?_)
 rintro _ w ⟨rfl,j⟩
 refine RL.not ay (RL.nt (fH o (fun hc o=>?_) fun hc o=>?_))
 ·refine RC.sr (RL.build (⟨0,0,0,0⟩:aI) trivial rfl j [] rfl A3 rfl (fun M hs g=>by have h:=qg M;exact cH.nil h) fun a6 j=>?_)
  refine RL.bA 8 j 0 zr eZ fun w j=>?_
  refine aP (vi 1) (RL.nt (RC.rt ?_))
  obtain rfl:=oi o
  exact xI 8 j eZ fun a0 j=>⟨a0,zr,j.pk 10 [0]⟩
 refine RC.sx (RL.aX (f:=(fun x=>x)) 3 j zr Fd.self eZ fun a7 j=>(RL.bA 8 j 0 zr eZ fun w j=>?_))
 refine aP (vi 0) (RL.nt (RC.ret ?_))
 obtain rfl:=oi o
 exact xI 8 j eZ fun a1 j=>⟨a1,zr,j.pk 10 [0]⟩
def rB (E:World) (V:List HP) (r:Int) (U:Nat->Value) (w:World):Prop:=mx bF 47 Tryz.f14 (aQ E V r) .ret U w
theorem qq {p0:jT} (j:Holds E w V) (h0:V[i0]? =some (rd v0 p0)) (o:iN N p0=some res):
    Calls bF 14 [v0].toArray w (gT (aQ E V res)):=by
 unfold iN at o
 refine enter Tryz.func14 zr zr ?_
 have j:=j.dup (i0+0) h0
 refine RC.sr (RL.dD 0 v0 j zr fun a0 w j=>?_)
 refine aP (vi 0) (RL.nq (RC.sr (RL.aZ zr lV (RL.aX 0 j zr qd uz fun a1 j=>(RL.bE 0 p0.aV j wg (ic ((p0.aV.length:Int)) 500 (RL.nt (fH o (fun hc o=>?_) fun hc o=>?_))))))))
 ·refine RC.sr (aP (vi 2) (RL.nt (RC.rt ?_)))
  obtain rfl:=oi o
  exact cI ⟨rfl,j.drop 3⟩
 refine RC.sx (RL.aZ zr uy (RL.aX 1 j zr oL Cy fun a2 j=>(RL.bE 0 p0.aL j z5 (aP (vi p0.aL.length) (RL.nq (RC.sr (RL.aZ zr lV (RL.aX 2 j zr qd uz fun ag j=>?_))))))))
 refine RL.bE 0 p0.aV j wg (mv (vi 0) (RL.nt ?_))
 obtain⟨a3,hN,o⟩:=bd o
 refine RC.range (fun(ah:Nat) (ai:Unit)=>SH E V [(3,vi p0.aL.length),(16,ag),(17,vi p0.aV.length),(18,vi ah)] [rd ag p0.aV]) (fun(ai:Unit)=>SH E V [] [rd ag p0.aV]) (rB E V) hN ?_ ?_ ?_ ?_ ?_
 ·exact j.sp 5 [0]
 ·rintro hm ai _ w ⟨O,rfl,j⟩
  refine RC.sr (ic ((p0.aV.length:Int)) ((p0.aV.length:Int)) (RL.nq (RC.cT mc (RC.ex ?_))))
  exact⟨rfl,j.sp 1 [0]⟩
 ·rintro hm ah ai fl _ w hk ⟨O,rfl,j⟩ o
  refine RC.sr (ic ((ah:Int)) ((p0.aV.length:Int)) (RL.nq (RC.cS (mb hk) (RC.ss (RC.bs ?_)))))
  obtain⟨ad,au,o⟩:=bd o
  refine RL.cB 0 j yF au fun a5 j=>(RL.bP 0 ad j nM fun a6 j=>(RL.alloc j CB.z fun a7 w j=>?_))
  refine RL.bA 0 j 1 zr nM fun w j=>?_
  refine RL.nq (RC.sr (RL.aX (f:=(fun x=>x)) 0 j zr Fd.self nM fun av j=>?_))
  obtain⟨ae,aw,o⟩:=bd o
  refine RL.call zt zr I1 [av] zr (aF (uH N (i0:=0) j zr aw) ?_)
  rintro _ w ⟨an,rfl,j⟩
  refine mv (.tuple #[an,(vi ae.2)]) (RL.extract an (RL.extract (vi ae.2) (RL.alloc j lU.z fun a8 w j=>?_)))
  refine RL.bA 0 j 1 zr eZ fun w j=>?_
  refine aP (vi ae.2) (RL.ns (mv (vi ae.2) (ic ae.2 0 (RL.nt (fH o (fun hc o=>?_) fun hc o=>?_)))))
  ·refine RC.sr (mv (vi ae.2) (aP (vi ae.2) (RL.nt (RC.rt (lR (cC ?_))))))
   obtain rfl:=oi o
   exact⟨rfl,cI ⟨rfl,j.drop 7⟩⟩
  refine RC.ss ?_
  obtain⟨aj,hj,o⟩:=bd o
  refine RC.jn (fun(aj:Bool)=>SH E V [(3,vi p0.aL.length),(16,ag),(17,vi p0.aV.length),(18,vi ah),(45,vb aj)] [rd ag p0.aV]) aj ?_ ?_
  ·refine RC.region (RL.aZ zr sd (RL.aK 3 j zr lS cG (mv (vi p0.aL.length) (RL.jo (p0.aL.length:Int) 1 ?_))))
   obtain⟨ao,ax,hj⟩:=bd hj
   refine RL.call zt zr Fi [(vi ad.bM),(vi 0),(vi (IntKind.wrap .i64 ((p0.aL.length:Int) - 1)))] zr (aF (kD N (p0:=ad.bM) (p1:=0) (p2:=(IntKind.wrap .i64 ((p0.aL.length:Int) - 1))) j ax) ?_)
   rintro _ w ⟨rfl,j⟩
   refine RL.not ao (mv (vb (!ao)) (fY hj (fun aa hj=>?_) fun aa hj=>?_))
   ·refine bR aa (bR aa (bR aa (bR aa (bR aa (bR aa (bR aa (bR aa (fV aa (vb true) ?_))))))))
    refine RL.nil ?_
    obtain rfl:=oi hj
    exact⟨rfl,j.sp 7 [6]⟩
   refine RL.aZ (hg:=(cg aa)) zr uA (RL.aK (hg:=(cg aa)) 3 j zr m0 cG (RL.aZ (hg:=(cg aa)) zr sd (RL.aK (hg:=(cg aa)) 3 j zr lS cG (RL.move (vi p0.aL.length) (cg aa) (RL.jo (hg:=(cg aa)) (p0.aL.length:Int) 1 ?_)))))
   obtain⟨aq,ay,hj⟩:=bd hj
   refine RL.call (cg aa) zr Fi [(vi ad.To),(vi ad.bM),(vi (IntKind.wrap .i64 ((p0.aL.length:Int) - 1)))] zr (aF (kD N (p0:=ad.To) (p1:=ad.bM) (p2:=(IntKind.wrap .i64 ((p0.aL.length:Int) - 1))) j ay) ?_)
   rintro _ w ⟨rfl,j⟩
   refine RL.not (hg:=(cg aa)) aq (fV aa (vb (!aq)) (RL.nil ?_))
   obtain rfl:=oi hj
   exact⟨rfl,j.sp 7 [6]⟩
  rintro _ w ⟨O,rfl,j⟩
  refine aG (fH o (fun hc o=>?_) fun hc o=>?_)
  rotate_left
  ·refine RC.skip (bT (aG (RC.region (RL.inc hk hm (mv (vi ((ah+1:Nat):Int)) (RL.nil ?_))))))
   obtain rfl:=oi o
   exact⟨rfl,j.sp 1 [0]⟩
  refine RC.sr (aP (vi 1) (RL.nt (RC.rb (cC ?_))))
  obtain rfl:=oi o
  exact⟨rfl,cI ⟨rfl,j.drop 1⟩⟩
 ·intro r U w e hK
  subst e
  refine cC ?_
  obtain rfl:=oi o
  exact hK
 rintro ai _ w rfl ⟨O,rfl,j⟩
 rw [Fo.gx] at o
 refine aG (RC.sr (aP (vi 0) (RL.nt (RC.ret ?_))))
 obtain rfl:=oi o
 exact cI ⟨rfl,j.drop 1⟩
theorem kN {p0:dC} (o:Holds E w V) (j:gh N p0 p1=some res):
    Calls bF 89 [(str p0),(.int .u8 p1)].toArray w (gT (aQ E V res)):=by
 unfold gh at j
 refine enter Tryz.func89 zr zr (RC.sr (aP (vi 0) (RL.ns (mv (str p0) (mv (.int .u8 p1) (RL.vN (vi (Lib.indexByte p0.cK (Int.toNat p1).toUInt8)) zr [(str p0),(.int .u8 p1)] zr (dH p0 p1 w) (aP (vi (Lib.indexByte p0.cK (Int.toNat p1).toUInt8)) (RL.nt ?_))))))))
 refine RC.ret ?_
 obtain rfl:=oi j
 exact cI ⟨rfl,o.drop 0⟩
theorem qs {p0 p1:dC} (o:Holds E w V) (j:iO N p0 p1=some res):
    Calls bF 130 [(str p0),(str p1)].toArray w (gT (aQ E V res)):=by
 unfold iO at j
 refine enter Tryz.func130 zr zr (RC.sr (aP (vi 0) (RL.ns (mv (str p1) (RL.lens p1 yG (aP (vi p1.cK.length) (RL.nq (RC.bs ?_))))))))
 refine mv (vi p1.cK.length) (ic ((p1.cK.length:Int)) 0 (mv (vb ((p1.cK.length:Int)==0)) (RL.gs true ((p1.cK.length:Int)==0) (str p1) rfl rfl rfl dQ (RL.gs true ((p1.cK.length:Int)==0) (str p0) rfl rfl rfl dQ (RL.gs true ((p1.cK.length:Int)==0) (vb (p1.AO p0)) rfl rfl rfl (E2 (bop:= .eql) (a:=p1) (b:=p0) rfl (fun h=>by exact(cQ h:cv (true&&(((p1.cK.length:Int)==0)==false)) (str p1)= (str p1))) (fun h=>by exact(cQ h:cv (true&&(((p1.cK.length:Int)==0)==false)) (str p0)= (str p0))) rfl) (RL.pick ((p1.cK.length:Int)==0) (vb (((p1.cK.length:Int)==0)||(p1.AO p0))) (m7 true rfl) (aP (vb (((p1.cK.length:Int)==0)||(p1.AO p0))) (RL.nt ?_))))))))
 refine fH j (fun hc j=>?_) fun hc j=>?_
 ·refine RC.sr (aP (vi 0) (RL.nt (RC.rb (cC ?_))))
  obtain rfl:=oi j
  exact cI ⟨rfl,o.drop 0⟩
 refine RC.sr (mv (vi p1.cK.length) (ic ((p1.cK.length:Int)) 1 (aP (vb ((p1.cK.length:Int)==1)) (RL.nt (fH j (fun hc j=>?_) fun hc j=>?_)))))
 ·refine RC.sr (mv (str p0) (mv (str p1) ?_))
  obtain⟨ab,ad,j⟩:=bd j
  refine RL.idxs p1 0 ab zr zr zr yG ad ?_
  obtain⟨ae,af,j⟩:=bd j
  refine RL.call zt zr Ho [(str p0),(.int .u8 (ab.toNat:Int))] zr (aF (kN N (p0:=p0) (p1:=(ab.toNat:Int)) o af) ?_)
  rintro _ w ⟨rfl,o⟩
  refine aP (vi ae) (RL.nt (RC.rb (cC ?_)))
  obtain rfl:=oi j
  exact cI ⟨rfl,o.drop 0⟩
 refine RC.sr (mv (vi p1.cK.length) (mv (str p0) (RL.lens p0 yG (ic ((p1.cK.length:Int)) ((p0.cK.length:Int)) (aP (vb (decide ((p1.cK.length:Int)>=(p0.cK.length:Int)))) (RL.nt (fH j (fun hc j=>?_) fun hc j=>?_)))))))
 rotate_left
 ·cases j
 refine RC.sr (aP (vi (-1)) (RL.nt (RC.rb (cC ?_))))
 obtain rfl:=oi j
 exact cI ⟨rfl,o.drop 0⟩
theorem oQ {p0 p1:dC} (o:Holds E w V) (j:jJ N p0 p1=some res):
    Calls bF 116 [(str p0),(str p1)].toArray w (gT (aQ E V res)):=by
 unfold jJ at j
 refine enter Tryz.func116 zr zr (RC.sr (aP (vi 0) (RL.ns (mv (str p0) (mv (str p1) ?_)))))
 obtain⟨aa,ab,j⟩:=bd j
 refine RL.call zt zr Hp [(str p0),(str p1)] zr (aF (qs N (p0:=p0) (p1:=p1) o ab) ?_)
 rintro _ w ⟨rfl,o⟩
 refine aP (vi aa) (RL.nt (RC.ret ?_))
 obtain rfl:=oi j
 exact cI ⟨rfl,o.drop 0⟩
def vx (E:World) (V:List HP) (r:Int) (U:Nat->Value) (w:World):Prop:=mx bF 34 Tryz.f115 (aQ E V r) .ret U w
theorem uI {p0 p1:dC} (hw:Holds E w V) (j:kJ N p0 p1=some res):
    Calls bF 115 [(str p0),(str p1)].toArray w (gT (aQ E V res)):=by
 unfold kJ at j
 refine enter Tryz.func115 zr zr (RC.sr (aP (vi 0) (RL.nq (RC.sr (mv (str p1) (RL.lens p1 yG (ic ((p1.cK.length:Int)) 0 (RL.nt ?_))))))))
 refine fH j (fun hc j=>?_) fun hc j=>?_
 ·cases j
 refine RC.ss (RC.sr (mv (str p1) (RL.lens p1 yG (ic ((p1.cK.length:Int)) 1 (RL.nt (fH j (fun hc j=>?_) fun hc j=>?_))))))
 ·refine RC.sr (mv (str p0) (mv (str p1) ?_))
  obtain⟨ad,af,j⟩:=bd j
  refine RL.idxs p1 0 ad zr zr zr yG af (RL.vN (vi ((Lib.countByte p0.cK (Int.toNat (ad.toNat:Int)).toUInt8:Nat):Int)) zr [(str p0),(.int .u8 (ad.toNat:Int))] zr (I3 p0 (ad.toNat:Int) w) (aP (vi ((Lib.countByte p0.cK (Int.toNat (ad.toNat:Int)).toUInt8:Nat):Int)) (RL.nt (RC.rt ?_))))
  obtain rfl:=oi j
  exact cI ⟨rfl,hw.drop 0⟩
 refine RC.sx (aP (vi 0) (RL.nt ?_))
 obtain⟨al,hN,j⟩:=bd j
 refine RC.iter (fun(o:dC×Int)=>SH E V [(0,(str o.1)),(1,(str p1)),(4,vi 0),(5,vi o.2)] []) (fun(o:dC×Int)=>SH E V [(4,vi 0)] []) (vx E V) hN ?_ ?_ ?_ ?_
 ·exact hw.sp 0 []
 ·rintro o fl _ w ⟨O,rfl,hw⟩ j
  refine RC.bs (mv (str o.1) (mv (str p1) ?_))
  obtain⟨ae,ah,j⟩:=bd j
  refine RL.call zt zr F2 [(str o.1),(str p1)] zr (aF (oQ N (p0:=o.1) (p1:=p1) hw ah) ?_)
  rintro _ w ⟨rfl,hw⟩
  refine aP (vi ae) (RL.nq (RC.sr (mv (vi ae) (ic ae ((-1)) (RL.nt (fH j (fun hc j=>?_) fun hc j=>?_))))))
  ·refine RC.sr (mv (vi o.2) (aP (vi o.2) (RL.nt (RC.rt (lR ?_)))))
   obtain rfl:=oi j
   exact⟨rfl,cI ⟨rfl,hw.drop 0⟩⟩
  refine RC.sx (mv (vi o.2) (RL.jo o.2 1 (aP (vi (IntKind.wrap .i64 (o.2+1))) (RL.nt (RC.region (mv (str o.1) (mv (vi ae) (mv (str p1) ?_))))))))
  refine RL.lens p1 yG (RL.jo ae (p1.cK.length:Int) ?_)
  obtain⟨ai,aj,j⟩:=bd j
  refine RL.r6 o.1 zr zr yG (.inl zr) (.inr ⟨rfl,zr⟩) aj (aP (str ai) (RL.nil (bT ?_)))
  obtain rfl:=oi j
  exact⟨rfl,hw.sp 0 []⟩
 ·intro r U w e hK
  subst e
  obtain rfl:=oi j
  exact hK
 rintro o _ w rfl ⟨O,rfl,hw⟩
 rw [Fo.gx] at j
 obtain rfl:=oi j
 refine xG ?_
 exact cI ⟨rfl,hw.drop 0⟩
theorem rC {p0 p1:dC} {res: (List dC)} (o:Holds E w V) (j:kz N p0 p1 p2 p3=some res):
    Calls bF 88 [(str p0),(str p1),(vi p2),(vi p3)].toArray w (gT (nn E V res)):=by
 unfold kz at j
 refine enter Tryz.func88 zr zr (RC.sr (aP (.slice none 0 0) (RL.nq (RC.sr (mv (vi p3) (ic p3 0 (RL.nt (fH j (fun hc j=>?_) fun hc j=>?_))))))))
 ·refine RC.sr (aP (.slice none 0 0) (RL.nt (RC.rt ?_)))
  obtain rfl:=oi j
  have o:=o.dB dC 9
  exact cI (o.pk 1 [0])
 refine RC.ss (RC.sr (mv (str p1) (RL.Cj (a:=p1) (b:=⟨[]⟩) zt zr zr zr zr (RL.nt (fH j (fun hc j=>?_) fun hc j=>?_)))))
 ·cases j
 refine RC.ss (RC.sr (mv (vi p3) (ic p3 0 (RL.nt ?_))))
 obtain⟨ab,hj,j⟩:=bd j
 refine RC.jn (fun(ab:Int)=>SH E V [(0,(str p0)),(1,(str p1)),(2,vi p2),(3,vi ab)] []) ab ?_ ?_
 ·refine fH hj (fun hc hj=>?_) fun hc hj=>?_
  rotate_left
  ·refine RC.skip ?_
   obtain rfl:=oi hj
   exact⟨rfl,o.sp 0 []⟩
  refine RC.region (mv (str p0) (mv (str p1) ?_))
  obtain⟨aj,ak,hj⟩:=bd hj
  refine RL.call zt zr Hq [(str p0),(str p1)] zr (aF (uI N (p0:=p0) (p1:=p1) o ak) ?_)
  rintro _ w ⟨rfl,o⟩
  refine RL.jo aj 1 (aP (vi (IntKind.wrap .i64 (aj+1))) (RL.nil ?_))
  obtain rfl:=oi hj
  exact⟨rfl,o.sp 0 []⟩
 rintro _ w ⟨O,rfl,o⟩
 refine aG (RC.sr (mv (vi ab) (mv (str p0) (RL.lens p0 yG (RL.jo (p0.cK.length:Int) 1 (RL.min ab (IntKind.wrap .i64 ((p0.cK.length:Int)+1)) (aP (vi (if (IntKind.wrap .i64 ((p0.cK.length:Int)+1))<ab then (IntKind.wrap .i64 ((p0.cK.length:Int)+1)) else ab)) (RL.ns ?_))))))))
 refine mv (vi (if (IntKind.wrap .i64 ((p0.cK.length:Int)+1))<ab then (IntKind.wrap .i64 ((p0.cK.length:Int)+1)) else ab)) ?_
 obtain⟨ay,al,j⟩:=bd j
 refine RL.mk (if (IntKind.wrap .i64 ((p0.cK.length:Int)+1))<ab then (IntKind.wrap .i64 ((p0.cK.length:Int)+1)) else ab) o Hr Kt al fun ae w o=>?_
 refine aP ae (RL.ns (mv (vi (if (IntKind.wrap .i64 ((p0.cK.length:Int)+1))<ab then (IntKind.wrap .i64 ((p0.cK.length:Int)+1)) else ab)) (RL.jo (if (IntKind.wrap .i64 ((p0.cK.length:Int)+1))<ab then (IntKind.wrap .i64 ((p0.cK.length:Int)+1)) else ab) 1 (aP (vi (IntKind.wrap .i64 ((if (IntKind.wrap .i64 ((p0.cK.length:Int)+1))<ab then (IntKind.wrap .i64 ((p0.cK.length:Int)+1)) else ab) - 1))) (RL.ns (aP (vi 0) (RL.nq ?_)))))))
 obtain⟨az,hN,j⟩:=bd j
 refine RC.iter (fun(aa:dC×(List dC)×Int)=>SH E V [(0,(str aa.1)),(1,(str p1)),(2,vi p2),(3,(vi (IntKind.wrap .i64 ((if (IntKind.wrap .i64 ((p0.cK.length:Int)+1))<ab then (IntKind.wrap .i64 ((p0.cK.length:Int)+1)) else ab) - 1)))),(9,ae),(10,vi aa.2.2)] [own 9 ae aa.2.1]) (fun(aa:dC×(List dC)×Int)=>SH E V [(0,(str aa.1)),(9,ae),(10,vi aa.2.2)] [own 9 ae aa.2.1]) (fun(r:Empty) _ _=>r.elim) hN ?_ ?_ ?_ ?_
 ·exact o.sp 1 [0]
 ·rintro aa fl _ w ⟨O,rfl,o⟩ j
  refine RC.seq (RC.sr (mv (vi aa.2.2) (mv (vi (IntKind.wrap .i64 ((if (IntKind.wrap .i64 ((p0.cK.length:Int)+1))<ab then (IntKind.wrap .i64 ((p0.cK.length:Int)+1)) else ab) - 1))) (ic aa.2.2 ((IntKind.wrap .i64 ((if (IntKind.wrap .i64 ((p0.cK.length:Int)+1))<ab then (IntKind.wrap .i64 ((p0.cK.length:Int)+1)) else ab) - 1))) (RL.nt (fH j (fun hc j=>?_) fun hc j=>?_))))))
  rotate_left
  ·refine RC.ex ?_
   obtain rfl:=oi j
   exact⟨rfl,o.sp 1 [0]⟩
  refine RC.sn (RC.bs (mv (str aa.1) (mv (str p1) ?_)))
  obtain⟨ag,ao,j⟩:=bd j
  refine RL.call zt zr F2 [(str aa.1),(str p1)] zr (aF (oQ N (p0:=aa.1) (p1:=p1) o ao) ?_)
  rintro _ w ⟨rfl,o⟩
  refine aP (vi ag) (RL.nq (RC.sr (mv (vi ag) (ic ag 0 (RL.nt (fH j (fun hc j=>?_) fun hc j=>?_))))))
  ·refine RC.ex (Gf (by decide) ?_)
   obtain rfl:=oi j
   exact⟨rfl,o.sp 1 [0]⟩
  refine RC.sx (mv ae (mv (vi aa.2.2) (mv (str aa.1) (mv (vi ag) (mv (vi p2) (RL.jo ag p2 ?_))))))
  obtain⟨aq,ar,j⟩:=bd j
  refine RL.r6 aa.1 zr zr yG (.inr ⟨rfl,zr⟩) (.inl zr) ar ?_
  obtain⟨a1,ah,j⟩:=bd j
  refine RL.bV 0 o zr zr BX ah ?_
  have o:=o.sc dC aq
  refine RL.ga (f:=(fun _ y=>y)) 1 0 o (jQ 1 o ah 0) (bB ah).2.1 zr Fs.self A5 fun w o=>?_
  refine RL.ns (mv (str aa.1) (mv (vi ag) (mv (str p1) (RL.lens p1 yG (RL.jo ag (p1.cK.length:Int) ?_)))))
  obtain⟨au,av,j⟩:=bd j
  refine RL.r6 aa.1 zr zr yG (.inl zr) (.inr ⟨rfl,zr⟩) av (aP (str au) (RL.nt (RC.region (mv (vi aa.2.2) (RL.jo aa.2.2 1 (aP (vi (IntKind.wrap .i64 (aa.2.2+1))) (RL.nil (bT ?_))))))))
  obtain rfl:=oi j
  exact⟨rfl,o.sp 2 [1]⟩
 ·intro r _ _ _ _
  exact r.elim
 rintro aa _ w rfl ⟨O,rfl,o⟩
 rw [Fo.gx] at j
 refine aG (RC.sr (mv ae (mv (vi aa.2.2) (mv (str aa.1) ?_))))
 obtain⟨a2,ai,j⟩:=bd j
 refine RL.bV 0 o zr zr BX ai ?_
 have o:=o.sc dC aa.1
 refine RL.ga (f:=(fun _ y=>y)) 1 0 o (jQ 1 o ai 0) (bB ai).2.1 zr Fs.self A5 fun w o=>?_
 refine RL.ns (mv ae (mv (vi aa.2.2) (RL.jo aa.2.2 1 ?_)))
 obtain⟨a3,aw,j⟩:=bd j
 refine RL.yq 1 zr o zr zr BX (.inr ⟨rfl,zr⟩) aw fun ax o=>(aP ax (RL.nt (RC.ret ?_)))
 obtain rfl:=oi j
 exact cI (o.pk 2 [1])
theorem uJ {p0 p1:dC} {res: (List dC)} (o:Holds E w V) (j:kK N p0 p1=some res):
    Calls bF 71 [(str p0),(str p1)].toArray w (gT (nn E V res)):=by
 unfold kK at j
 refine enter Tryz.func71 zr zr (RC.sr (aP (.slice none 0 0) (RL.ns (mv (str p0) (mv (str p1) ?_)))))
 obtain⟨ad,aa,j⟩:=bd j
 refine RL.call zt zr I4 [(str p0),(str p1),(vi 0),(vi (-1))] zr (aF (rC N (p0:=p0) (p1:=p1) (p2:=0) (p3:=(-1)) o aa) ?_)
 rintro ab w o
 refine aP ab (RL.nt (RC.ret ?_))
 obtain rfl:=oi j
 exact cI (o.pk 1 [0])
def nO (E:World) (V:List HP) (r:Int) (U:Nat->Value) (w:World):Prop:=mx bF 19 Tryz.f87 (aQ E V r) .ret U w
theorem nr {p0: (List dC)} {p1:dC->Option Bool} (j:Holds E w V) (h0:V[i0]? =some (rd v0 p0)) (h1:EU bF E V v1 p1 (fun(r:Bool)=>Value.bool r)) (o:jd N p0 p1=some res):
    Calls bF 87 [v0,v1].toArray w (gT (aQ E V res)):=by
 unfold jd at o
 refine enter Tryz.func87 zr zr ?_
 have j:=j.dup (i0+0) h0
 refine RC.sr (aP (vi 0) (RL.nq (RC.sr (mv v0 (RL.bE 0 p0 j Hs (mv (vi 0) (RL.nt ?_)))))))
 obtain⟨al,hN,o⟩:=bd o
 refine RC.range (fun(aa:Nat) (ab:Unit)=>SH E V [(0,v0),(1,v1),(7,vi p0.length),(8,vi aa)] [rd v0 p0]) (fun(ab:Unit)=>SH E V [] [rd v0 p0]) (nO E V) hN ?_ ?_ ?_ ?_ ?_
 ·exact j.sp 1 [0]
 ·rintro hm ab _ w ⟨O,rfl,j⟩
  refine RC.sr (ic ((p0.length:Int)) ((p0.length:Int)) (RL.nq (RC.cT mc (RC.ex ?_))))
  exact⟨rfl,j.sp 1 [0]⟩
 ·rintro hm aa ab fl _ w hk ⟨O,rfl,j⟩ o
  refine RC.sr (ic ((aa:Int)) ((p0.length:Int)) (RL.nq (RC.cS (mb hk) (RC.ss (RC.bs (mv (vi aa) (aP (vi aa) (RL.ns ?_))))))))
  refine mv v1 (mv v0 (mv (vi aa) ?_))
  obtain⟨af,ah,o⟩:=bd o
  refine RL.cB 0 j BX ah fun ao j=>(RL.bG af 0 j A5 ?_)
  have j:=j.sc dC af
  obtain⟨aq,ai,o⟩:=bd o
  refine RL.yp 0 zr j zr h1 3 zr zr zr ai fun w j=>(RL.nt (fH o (fun hc o=>?_) fun hc o=>?_))
  rotate_left
  ·refine RC.skip (bT (aG (RC.region (RL.inc hk hm (mv (vi ((aa+1:Nat):Int)) (RL.nil ?_))))))
   obtain rfl:=oi o
   exact⟨rfl,j.sp 3 [2]⟩
  refine RC.sr (mv (vi aa) (aP (vi aa) (RL.nt (RC.rb (cC ?_)))))
  obtain rfl:=oi o
  exact⟨rfl,cI ⟨rfl,j.drop 3⟩⟩
 ·intro r U w e hK
  subst e
  refine cC ?_
  obtain rfl:=oi o
  exact hK
 rintro ab _ w rfl ⟨O,rfl,j⟩
 rw [Fo.gx] at o
 refine aG (RC.sr (aP (vi (-1)) (RL.nt (RC.ret ?_))))
 obtain rfl:=oi o
 exact cI ⟨rfl,j.drop 1⟩
theorem ml {p0: (List dC)} {p1:dC->Option Bool} {res:Bool} (j:Holds E w V) (h0:V[i0]? =some (rd v0 p0)) (h1:EU bF E V v1 p1 (fun(r:Bool)=>Value.bool r)) (o:fR N p0 p1=some res):
    Calls bF 70 [v0,v1].toArray w (gT (bD E V res)):=by
 unfold fR at o
 refine enter Tryz.func70 zr zr ?_
 have j:=j.dup (i0+0) h0
 refine RC.sr (aP (vb false) (RL.ns (mv v0 (mv v1 ?_))))
 obtain⟨aa,ab,o⟩:=bd o
 refine RL.call zt zr I6 [v0,v1] zr (aF (nr N (i0:=0) j zr (h1.lift 1 zr) ab) ?_)
 rintro _ w ⟨rfl,j⟩
 refine ic aa 0 (aP (vb (decide (aa>=0))) (RL.nt (RC.ret ?_)))
 obtain rfl:=oi o
 exact cI ⟨rfl,j.drop 1⟩
theorem qt {p0:dC} (o:Holds E w V) (j:gL N p0 p1=some res):
    Calls bF 73 [(str p0),(.int .u8 p1)].toArray w (gT (aQ E V res)):=by
 unfold gL at j
 refine enter Tryz.func73 zr zr (RC.sr (aP (vi 0) (RL.ns (mv (str p0) (mv (.int .u8 p1) ?_)))))
 obtain⟨aa,ab,j⟩:=bd j
 refine RL.call zt zr Ho [(str p0),(.int .u8 p1)] zr (aF (kN N (p0:=p0) (p1:=p1) o ab) ?_)
 rintro _ w ⟨rfl,o⟩
 refine aP (vi aa) (RL.nt (RC.ret ?_))
 obtain rfl:=oi j
 exact cI ⟨rfl,o.drop 0⟩
def uK (E:World) (V:List HP) (r:Bool) (U:Nat->Value) (w:World):Prop:=mx bF 49 Tryz.f42 (bD E V r) .ret U w
theorem nY {p0:dC} {res:Bool} (hw:Holds E w V) (o:gE N p0=some res):
    Calls bF 42 [(str p0)].toArray w (gT (bD E V res)):=by
 unfold gE at o
 refine enter Tryz.func42 zr zr (RC.sr (aP (vb false) (RL.nq (RC.sr (mv (str p0) (RL.lens p0 yG (mv (vi 0) (RL.nt ?_))))))))
 obtain⟨ar,hN,o⟩:=bd o
 refine RC.range (fun(ab:Nat) (af:Unit)=>SH E V [(0,(str p0)),(6,vi p0.cK.length),(7,vi ab)] []) (fun(af:Unit)=>SH E V [(0,(str p0))] []) (uK E V) hN ?_ ?_ ?_ ?_ ?_
 ·exact hw.sp 0 []
 ·rintro hm af _ w ⟨O,rfl,hw⟩
  refine RC.sr (ic ((p0.cK.length:Int)) ((p0.cK.length:Int)) (RL.nq (RC.cT mc (RC.ex ?_))))
  exact⟨rfl,hw.sp 0 []⟩
 ·rintro hm ab af fl _ w hk ⟨O,rfl,hw⟩ o
  refine RC.sr (ic ((ab:Int)) ((p0.cK.length:Int)) (RL.nq (RC.cS (mb hk) (RC.ss (RC.bs (mv (vi ab) (aP (vi ab) (RL.ns ?_))))))))
  refine mv (str p0) (mv (vi ab) ?_)
  obtain⟨j,al,o⟩:=bd o
  refine RL.idxs p0 (ab:Int) j zr zr zr yG al (aP (.int .u8 (j.toNat:Int)) (RL.nq ?_))
  obtain⟨ag,hj,o⟩:=bd o
  refine RC.jn (fun(ag:Bool)=>SH E V [(0,(str p0)),(6,vi p0.cK.length),(7,vi ab),(39,vb ag)] []) ag ?_ ?_
  ·refine RC.region (mv (.int .u8 (j.toNat:Int)) (ic ((j.toNat:Int)) 65 (mv (vb (decide ((j.toNat:Int)<65))) (RL.gs true (decide ((j.toNat:Int)<65)) (.int .u8 (j.toNat:Int)) rfl rfl rfl dQ (RL.gs true (decide ((j.toNat:Int)<65)) (vb (decide ((j.toNat:Int)>90))) rfl rfl rfl (dT .gtr .u8 (j.toNat:Int) 90 rfl (fun h=>by exact(cQ h:cv (true&&((decide ((j.toNat:Int)<65))==false)) (.int .u8 (j.toNat:Int))= (.int .u8 (j.toNat:Int)))) (fun _=>rfl) rfl) (RL.pick (decide ((j.toNat:Int)<65)) (vb ((decide ((j.toNat:Int)<65))||(decide ((j.toNat:Int)>90)))) (m7 true rfl) (mv (vb ((decide ((j.toNat:Int)<65))||(decide ((j.toNat:Int)>90)))) (RL.gs true ((decide ((j.toNat:Int)<65))||(decide ((j.toNat:Int)>90))) (.int .u8 (j.toNat:Int)) rfl rfl rfl dQ ?_))))))))
   refine RL.gs true ((decide ((j.toNat:Int)<65))||(decide ((j.toNat:Int)>90))) (vb (decide ((j.toNat:Int)<97))) rfl rfl rfl (dT .lss .u8 (j.toNat:Int) 97 rfl (fun h=>by exact(cQ h:cv (true&&(((decide ((j.toNat:Int)<65))||(decide ((j.toNat:Int)>90)))==true)) (.int .u8 (j.toNat:Int))= (.int .u8 (j.toNat:Int)))) (fun _=>rfl) rfl) (RL.gs true ((decide ((j.toNat:Int)<65))||(decide ((j.toNat:Int)>90))) (vb (decide ((j.toNat:Int)<97))) rfl rfl rfl (dQ (hx:=fun h=>by exact(cQ h:cv (true&&(((decide ((j.toNat:Int)<65))||(decide ((j.toNat:Int)>90)))==true)) (vb (decide ((j.toNat:Int)<97)))= (vb (decide ((j.toNat:Int)<97)))))) (RL.gs (true&&(((decide ((j.toNat:Int)<65))||(decide ((j.toNat:Int)>90)))==true)) (decide ((j.toNat:Int)<97)) (.int .u8 (j.toNat:Int)) rfl rfl rfl dQ (RL.gs (true&&(((decide ((j.toNat:Int)<65))||(decide ((j.toNat:Int)>90)))==true)) (decide ((j.toNat:Int)<97)) (vb (decide ((j.toNat:Int)>122))) rfl rfl rfl (dT .gtr .u8 (j.toNat:Int) 122 rfl (fun h=>by exact(cQ h:cv ((true&&(((decide ((j.toNat:Int)<65))||(decide ((j.toNat:Int)>90)))==true))&&((decide ((j.toNat:Int)<97))==false)) (.int .u8 (j.toNat:Int))= (.int .u8 (j.toNat:Int)))) (fun _=>rfl) rfl) (RL.gs true ((decide ((j.toNat:Int)<65))||(decide ((j.toNat:Int)>90))) (vb ((decide ((j.toNat:Int)<97))||(decide ((j.toNat:Int)>122)))) rfl rfl rfl (nU (decide ((j.toNat:Int)<97)) rfl (fun h=>by exact(cQ h:cv (true&&(((decide ((j.toNat:Int)<65))||(decide ((j.toNat:Int)>90)))==true)) (vb (decide ((j.toNat:Int)<97)))= (vb (decide ((j.toNat:Int)<97))))) (fun h=>by exact m7 (true&&(((decide ((j.toNat:Int)<65))||(decide ((j.toNat:Int)>90)))==true)) h)) (RL.pick ((decide ((j.toNat:Int)<65))||(decide ((j.toNat:Int)>90))) (vb (((decide ((j.toNat:Int)<65))||(decide ((j.toNat:Int)>90)))&&((decide ((j.toNat:Int)<97))||(decide ((j.toNat:Int)>122))))) (iU true) (mv (vb (((decide ((j.toNat:Int)<65))||(decide ((j.toNat:Int)>90)))&&((decide ((j.toNat:Int)<97))||(decide ((j.toNat:Int)>122))))) (RL.gs true (((decide ((j.toNat:Int)<65))||(decide ((j.toNat:Int)>90)))&&((decide ((j.toNat:Int)<97))||(decide ((j.toNat:Int)>122)))) (.int .u8 (j.toNat:Int)) rfl rfl rfl dQ (RL.gs true (((decide ((j.toNat:Int)<65))||(decide ((j.toNat:Int)>90)))&&((decide ((j.toNat:Int)<97))||(decide ((j.toNat:Int)>122)))) (vb (decide ((j.toNat:Int)<48))) rfl rfl rfl (dT .lss .u8 (j.toNat:Int) 48 rfl (fun h=>by exact(cQ h:cv (true&&((((decide ((j.toNat:Int)<65))||(decide ((j.toNat:Int)>90)))&&((decide ((j.toNat:Int)<97))||(decide ((j.toNat:Int)>122))))==true)) (.int .u8 (j.toNat:Int))= (.int .u8 (j.toNat:Int)))) (fun _=>rfl) rfl) ?_))))))))
   refine RL.gs true (((decide ((j.toNat:Int)<65))||(decide ((j.toNat:Int)>90)))&&((decide ((j.toNat:Int)<97))||(decide ((j.toNat:Int)>122)))) (vb (decide ((j.toNat:Int)<48))) rfl rfl rfl (dQ (hx:=fun h=>by exact(cQ h:cv (true&&((((decide ((j.toNat:Int)<65))||(decide ((j.toNat:Int)>90)))&&((decide ((j.toNat:Int)<97))||(decide ((j.toNat:Int)>122))))==true)) (vb (decide ((j.toNat:Int)<48)))= (vb (decide ((j.toNat:Int)<48)))))) (RL.gs (true&&((((decide ((j.toNat:Int)<65))||(decide ((j.toNat:Int)>90)))&&((decide ((j.toNat:Int)<97))||(decide ((j.toNat:Int)>122))))==true)) (decide ((j.toNat:Int)<48)) (.int .u8 (j.toNat:Int)) rfl rfl rfl dQ (RL.gs (true&&((((decide ((j.toNat:Int)<65))||(decide ((j.toNat:Int)>90)))&&((decide ((j.toNat:Int)<97))||(decide ((j.toNat:Int)>122))))==true)) (decide ((j.toNat:Int)<48)) (vb (decide ((j.toNat:Int)>57))) rfl rfl rfl (dT .gtr .u8 (j.toNat:Int) 57 rfl (fun h=>by exact(cQ h:cv ((true&&((((decide ((j.toNat:Int)<65))||(decide ((j.toNat:Int)>90)))&&((decide ((j.toNat:Int)<97))||(decide ((j.toNat:Int)>122))))==true))&&((decide ((j.toNat:Int)<48))==false)) (.int .u8 (j.toNat:Int))= (.int .u8 (j.toNat:Int)))) (fun _=>rfl) rfl) (RL.gs true (((decide ((j.toNat:Int)<65))||(decide ((j.toNat:Int)>90)))&&((decide ((j.toNat:Int)<97))||(decide ((j.toNat:Int)>122)))) (vb ((decide ((j.toNat:Int)<48))||(decide ((j.toNat:Int)>57)))) rfl rfl rfl (nU (decide ((j.toNat:Int)<48)) rfl (fun h=>by exact(cQ h:cv (true&&((((decide ((j.toNat:Int)<65))||(decide ((j.toNat:Int)>90)))&&((decide ((j.toNat:Int)<97))||(decide ((j.toNat:Int)>122))))==true)) (vb (decide ((j.toNat:Int)<48)))= (vb (decide ((j.toNat:Int)<48))))) (fun h=>by exact m7 (true&&((((decide ((j.toNat:Int)<65))||(decide ((j.toNat:Int)>90)))&&((decide ((j.toNat:Int)<97))||(decide ((j.toNat:Int)>122))))==true)) h)) (RL.pick (((decide ((j.toNat:Int)<65))||(decide ((j.toNat:Int)>90)))&&((decide ((j.toNat:Int)<97))||(decide ((j.toNat:Int)>122)))) (vb ((((decide ((j.toNat:Int)<65))||(decide ((j.toNat:Int)>90)))&&((decide ((j.toNat:Int)<97))||(decide ((j.toNat:Int)>122))))&&((decide ((j.toNat:Int)<48))||(decide ((j.toNat:Int)>57))))) (iU true) (mv (vb ((((decide ((j.toNat:Int)<65))||(decide ((j.toNat:Int)>90)))&&((decide ((j.toNat:Int)<97))||(decide ((j.toNat:Int)>122))))&&((decide ((j.toNat:Int)<48))||(decide ((j.toNat:Int)>57))))) (fY hj (fun ad hj=>?_) fun ad hj=>?_))))))
   rotate_left
   ·refine bR ad (bR ad (bR ad (fV ad (vb false) (RL.nil ?_))))
    obtain rfl:=oi hj
    exact⟨rfl,hw.sp 0 []⟩
   refine RL.move (.int .u8 (j.toNat:Int)) (cg ad) ?_
   obtain⟨aj,an,hj⟩:=bd hj
   refine RL.call (cg ad) zr I7 [(str ⟨[95,43,45,35]⟩),(.int .u8 (j.toNat:Int))] zr (aF (qt N (p0:=⟨[95,43,45,35]⟩) (p1:=(j.toNat:Int)) hw an) ?_)
   rintro _ w ⟨rfl,hw⟩
   refine RL.jY aj 0 (cg ad) (fV ad (vb (decide (aj<0))) (RL.nil ?_))
   obtain rfl:=oi hj
   exact⟨rfl,hw.sp 0 []⟩
  rintro _ w ⟨O,rfl,hw⟩
  refine aG (fH o (fun hc o=>?_) fun hc o=>?_)
  rotate_left
  ·refine RC.skip (bT (aG (RC.region (RL.inc hk hm (mv (vi ((ab+1:Nat):Int)) (RL.nil ?_))))))
   obtain rfl:=oi o
   exact⟨rfl,hw.sp 0 []⟩
  refine RC.sr (aP (vb false) (RL.nt (RC.rb (cC ?_))))
  obtain rfl:=oi o
  exact⟨rfl,cI ⟨rfl,hw.drop 0⟩⟩
 ·intro r U w e hK
  subst e
  refine cC ?_
  obtain rfl:=oi o
  exact hK
 rintro af _ w rfl ⟨O,rfl,hw⟩
 rw [Fo.gx] at o
 refine aG (RC.sr (mv (str p0) (RL.lens p0 yG (ic ((p0.cK.length:Int)) 1 (mv (vb (decide ((p0.cK.length:Int)>=1))) (RL.gs true (decide ((p0.cK.length:Int)>=1)) (str p0) rfl rfl rfl dQ (RL.gs true (decide ((p0.cK.length:Int)>=1)) (vi p0.cK.length) rfl rfl rfl (E3 (s:=p0) rfl (fun h=>by exact(cQ h:cv (true&&((decide ((p0.cK.length:Int)>=1))==true)) (str p0)= (str p0))) yG) (RL.gs true (decide ((p0.cK.length:Int)>=1)) (vb (decide ((p0.cK.length:Int)<=40))) rfl rfl rfl (dT .leq .i64 (p0.cK.length:Int) 40 rfl (fun h=>by exact(cQ h:cv (true&&((decide ((p0.cK.length:Int)>=1))==true)) (vi p0.cK.length)= (vi p0.cK.length))) (fun _=>rfl) rfl) ?_))))))))
 refine RL.pick (decide ((p0.cK.length:Int)>=1)) (vb ((decide ((p0.cK.length:Int)>=1))&&(decide ((p0.cK.length:Int)<=40)))) (iU true) (aP (vb ((decide ((p0.cK.length:Int)>=1))&&(decide ((p0.cK.length:Int)<=40)))) (RL.nt (RC.ret ?_)))
 obtain rfl:=oi o
 exact cI ⟨rfl,hw.drop 0⟩
theorem qu {p0:dC} {res:Bool} (o:Holds E w V) (j:fS N p0=some res):
    Calls bF 72 [(str p0)].toArray w (gT (bD E V res)):=by
 unfold fS at j
 refine enter Tryz.func72 zr zr (RC.sr (aP (vb false) (RL.ns (mv (str p0) ?_))))
 obtain⟨aa,ab,j⟩:=bd j
 refine RL.call zt zr Ht [(str p0)] zr (aF (nY N (p0:=p0) o ab) ?_)
 rintro _ w ⟨rfl,o⟩
 refine RL.not aa (aP (vb (!aa)) (RL.nt (RC.ret ?_)))
 obtain rfl:=oi j
 exact cI ⟨rfl,o.drop 0⟩
theorem tB {p0:dC} {res:Bool} (j:Holds E w V) (hb:ka N p0=some res):
    Calls bF 41 [(str p0)].toArray w (gT (bD E V res)):=by
 unfold ka at hb
 refine enter Tryz.func41 zr zr (RC.sr (aP (vb false) (RL.nq ?_)))
 obtain⟨ad,hj,hb⟩:=bd hb
 refine RC.jn (fun(ad:Bool)=>SH E V [(2,vb ad)] []) ad ?_ ?_
 ·refine RC.region (mv (str p0) (RL.lens p0 yG (ic ((p0.cK.length:Int)) 200 (mv (vb (decide ((p0.cK.length:Int)<=200))) (fY hj (fun o hj=>?_) fun o hj=>?_)))))
  rotate_left
  ·refine bR o (bR o (bR o (bR o (fV o (vb false) (aP (vb false) (RL.nil ?_))))))
   obtain rfl:=oi hj
   exact⟨rfl,j.sp 0 []⟩
  refine RL.move (str p0) (cg o) ?_
  obtain⟨ai,af,hj⟩:=bd hj
  refine RL.call (cg o) zr I5 [(str p0),(str ⟨[47]⟩)] zr (aF (uJ N (p0:=p0) (p1:=⟨[47]⟩) j af) ?_)
  rintro ag w j
  have j:=j.freeze 0
  obtain⟨ae,ah,hj⟩:=bd hj
  refine RL.call (cg o) rfl I9 [ag,(.func (.func 72) #[] #[])] rfl (aF (ml N (i0:=0) j rfl ⟨72,[],rfl,I8,fun w Γl v y0 r i j hi hr=>by obtain rfl:=j.ym (γ:=dC) hi;exact aF (qu N (p0:=y0) j hr) fun _ _ h=>h⟩ ah) ?_)
  rintro _ w ⟨rfl,j⟩
  refine RL.not (hg:=(cg o)) ae (fV o (vb (!ae)) (aP (vb (!ae)) (RL.nil ?_)))
  obtain rfl:=oi hj
  exact⟨rfl,j.sp 1 []⟩
 rintro _ w ⟨O,rfl,j⟩
 refine aG (RC.ret ?_)
 obtain rfl:=oi hb
 exact cI ⟨rfl,j.drop 0⟩
def wq (E:World) (V:List HP) (res:fD) (v:Value) (w:World):Prop:=Holds E w ([rd v res]++V)
theorem k6 {p0:cV} {res:fD} (j:Holds E w V) (h0:V[i0]? =some (rd v0 p0)) (o:ju N p0=some res):
    Calls bF 34 [v0].toArray w (gT (wq E V res)):=by
 unfold ju at o
 refine enter Tryz.func34 zr zr ?_
 have j:=j.dup (i0+0) h0
 refine RC.sr (RL.dD 0 v0 j zr fun aa w j=>?_)
 refine RL.alloc j Hu.z fun ab w j=>?_
 refine RL.ns (RL.aZ zr DS (RL.aK 1 j zr xR A5 (RL.aZ zr DT (RL.aK 1 j zr xS A5 ?_))))
 have j:=(j.sc dC p0.Part).sc dC p0.fD
 refine RL.build (⟨p0.Part,p0.fD⟩:fD) trivial rfl j [(0,(str p0.Part)),(1,(str p0.fD))] rfl Gy rfl (fun M hs g=>by have h:=DL M;exact cH.cons (f:=fun(x:fD) y=>{x with Part:=y}) h vZ (g.sat 1 _ rfl).1 fun _ h=>cH.cons (f:=fun(x:fD) y=>{x with fD:=y}) h v7 (g.sat 0 _ rfl).1 fun _ h=>cH.nil h) fun ad j=>?_
 refine RL.bA 3 j 0 zr tr fun w j=>?_
 refine RL.nt (RC.ret ?_)
 obtain rfl:=oi o
 exact Dl 3 zr j zr zr tr fun ae j=>(j.pk 7 [0])
theorem ou {p0 p1:dC} (o:Holds E w V) (j:jN N p0 p1=some res):
    Calls bF 80 [(str p0),(str p1)].toArray w (gT (aQ E V res)):=by
 unfold jN at j
 refine enter Tryz.func80 zr zr (RC.sr (aP (vi 0) (RL.ns (mv (str p0) (mv (str p1) (RL.vN (vi (Lib.compareBytes p0.cK p1.cK)) zr [(str p0),(str p1)] zr (Dz p0 p1 w) (aP (vi (Lib.compareBytes p0.cK p1.cK)) (RL.nt ?_))))))))
 refine RC.ret ?_
 obtain rfl:=oi j
 exact cI ⟨rfl,o.drop 0⟩
theorem nu {p0 p1:dC} (o:Holds E w V) (j:kY N p0 p1=some res):
    Calls bF 58 [(str p0),(str p1)].toArray w (gT (aQ E V res)):=by
 unfold kY at j
 refine enter Tryz.func58 zr zr (RC.sr (aP (vi 0) (RL.ns (mv (str p0) (mv (str p1) ?_)))))
 obtain⟨aa,ab,j⟩:=bd j
 refine RL.call zt zr Jb [(str p0),(str p1)] zr (aF (ou N (p0:=p0) (p1:=p1) o ab) ?_)
 rintro _ w ⟨rfl,o⟩
 refine aP (vi aa) (RL.nt (RC.ret ?_))
 obtain rfl:=oi j
 exact cI ⟨rfl,o.drop 0⟩
theorem lH {p0 p1:fD} (j:Holds E w V) (h0:V[i0]? =some (rd v0 p0)) (h1:V[i1]? =some (rd v1 p1)) (o:fU N p0 p1=some res):
    Calls bF 33 [v0,v1].toArray w (gT (aQ E V res)):=by
 unfold fU at o
 refine enter Tryz.func33 zr zr ?_
 have j:=(j.dup (i0+0) h0).dup (i1+1) h1
 refine RC.sr (RL.dD 1 v0 j zr fun ag w j=>?_)
 refine RL.dD 1 v1 j zr fun ah w j=>?_
 refine aP (vi 0) (RL.nq (RC.sr (RL.aZ zr DU (RL.aK 1 j zr zX A5 (RL.aZ zr DU (RL.aK 0 j zr zX A5 ?_))))))
 obtain⟨aa,ab,o⟩:=bd o
 refine RL.call zt zr Hv [(str p0.Part),(str p1.Part)] zr (aF (nu N (p0:=p0.Part) (p1:=p1.Part) j ab) ?_)
 rintro _ w ⟨rfl,j⟩
 refine aP (vi aa) (RL.ns (mv (vi aa) (ic aa 0 (RL.nt (fH o (fun hc o=>?_) fun hc o=>?_)))))
 ·refine RC.sr (mv (vi aa) (aP (vi aa) (RL.nt (RC.rt ?_))))
  obtain rfl:=oi o
  exact cI ⟨rfl,j.drop 4⟩
 refine RC.sx (RL.aZ zr DV (RL.aK 1 j zr zY A5 (RL.aZ zr DV (RL.aK 0 j zr zY A5 ?_))))
 obtain⟨ae,af,o⟩:=bd o
 refine RL.call zt zr Hv [(str p0.fD),(str p1.fD)] zr (aF (nu N (p0:=p0.fD) (p1:=p1.fD) j af) ?_)
 rintro _ w ⟨rfl,j⟩
 refine aP (vi ae) (RL.nt (RC.ret ?_))
 obtain rfl:=oi o
 exact cI ⟨rfl,j.drop 4⟩
def rD (E:World) (V:List HP) (r:Int) (U:Nat->Value) (w:World):Prop:=mx bF 60 Tryz.f15 (aQ E V r) .ret U w
theorem qw {p0:jT} (j:Holds E w V) (h0:V[i0]? =some (rd v0 p0)) (hb:iP N p0=some res):
    Calls bF 15 [v0].toArray w (gT (aQ E V res)):=by
 unfold iP at hb
 refine enter Tryz.func15 zr zr ?_
 have j:=j.dup (i0+0) h0
 refine RC.sr (RL.dD 0 v0 j zr fun ag w j=>?_)
 have j:=j.fT (i:=0) rfl
 refine aP (vi 0) (RL.nq (RC.sr (RL.ig 0 j zr uB qe fun bk j=>(RL.bP 0 p0.bH j CD fun bl j=>(RL.bE 0 p0.bH j DR (ic ((p0.bH.length:Int)) 1000 (RL.nt (fH hb (fun hc hb=>?_) fun hc hb=>?_))))))))
 ·refine RC.sr (aP (vi 2) (RL.nt (RC.rt ?_)))
  obtain rfl:=oi hb
  exact cI ⟨rfl,j.drop 4⟩
 refine RC.ss (RC.sr (RL.ig 2 j zr uB qe fun bm j=>(RL.bP 0 p0.bH j CD fun ah j=>(RL.bE 0 p0.bH j DR (mv (vi 0) (RL.nt ?_))))))
 obtain⟨bn,hN,hb⟩:=bd hb
 refine RC.range (fun(ad:Nat) (ak:Unit)=>SH E V [(1,vp ag 0),(10,ah),(11,vi p0.bH.length),(12,vi ad)] [pt (vp ag 0) p0,rd ah p0.bH]) (fun(ak:Unit)=>SH E V [] [pt (vp ag 0) p0,rd ah p0.bH]) (rD E V) hN ?_ ?_ ?_ ?_ ?_
 ·exact j.sp 6 [4,0]
 ·rintro hm ak _ w ⟨O,rfl,j⟩
  refine RC.sr (ic ((p0.bH.length:Int)) ((p0.bH.length:Int)) (RL.nq (RC.cT mc (RC.ex ?_))))
  exact⟨rfl,j.sp 2 [0,1]⟩
 ·rintro hm ad ak fl _ w hk ⟨O,rfl,j⟩ hb
  refine RC.sr (ic ((ad:Int)) ((p0.bH.length:Int)) (RL.nq (RC.cS (mb hk) (RC.ss (RC.bs (mv (vi ad) ?_))))))
  obtain⟨ai,a1,hb⟩:=bd hb
  refine RL.cB 1 j CE a1 fun bp j=>(RL.bP 0 ai j wi fun bq j=>(RL.alloc j Gx.z fun al w j=>?_))
  refine aP (vi ad) (RL.bA 0 j 1 zr wi fun w j=>?_)
  refine RL.nt (RC.block (RC.seq ?_))
  obtain⟨an,o,hb⟩:=bd hb
  refine RC.jn (fun(an:Bool)=>SH E V [(1,vp ag 0),(3,vi ad),(4,vp al 0),(10,ah),(11,vi p0.bH.length),(12,vi ad),(17,vb an)] [pt (vp ag 0) p0,bx 54 al ai,rd ah p0.bH]) an ?_ ?_
  ·refine RC.region (RL.aZ zr DS (RL.aK 0 j zr xR A5 ?_))
   obtain⟨ay,a2,o⟩:=bd o
   refine RL.call zt zr Ja [(str ai.Part)] zr (aF (tB N (p0:=ai.Part) j a2) ?_)
   rintro _ w ⟨rfl,j⟩
   refine RL.not ay (mv (vb (!ay)) (fY o (fun ae o=>?_) fun ae o=>?_))
   ·refine bR ae (bR ae (bR ae (bR ae (fV ae (vb true) (aP (vb true) (RL.nil ?_))))))
    obtain rfl:=oi o
    exact⟨rfl,j.sp 5 [3,0,4]⟩
   refine RL.aZ (hg:=(cg ae)) zr DT (RL.aK (hg:=(cg ae)) 0 j zr xS A5 ?_)
   obtain⟨ao,a3,o⟩:=bd o
   refine RL.call (cg ae) zr Ht [(str ai.fD)] zr (aF (nY N (p0:=ai.fD) j a3) ?_)
   rintro _ w ⟨rfl,j⟩
   refine RL.not (hg:=(cg ae)) ao (fV ae (vb (!ao)) (aP (vb (!ao)) (RL.nil ?_)))
   obtain rfl:=oi o
   exact⟨rfl,j.sp 5 [3,0,4]⟩
  rintro _ w ⟨O,rfl,j⟩
  refine aG (fH hb (fun hc hb=>?_) fun hc hb=>?_)
  ·refine RC.sr (aP (vi 5) (RL.nt (RC.rb (lR (cC ?_)))))
   obtain rfl:=oi hb
   exact⟨rfl,cI ⟨rfl,j.drop 3⟩⟩
  refine RC.seq ?_
  obtain⟨aq,o,hb⟩:=bd hb
  refine RC.jn (fun(aq:Bool)=>SH E V [(1,vp ag 0),(3,vi ad),(4,vp al 0),(10,ah),(11,vi p0.bH.length),(12,vi ad),(28,vb aq)] [pt (vp ag 0) p0,bx 54 al ai,rd ah p0.bH]) aq ?_ ?_
  ·refine RC.region (RL.aZ zr A6 (RL.aK 1 j zr uw cG (RL.ig 0 j zr uy oL fun br j=>(RL.bP 0 p0.aL j Cy fun bt j=>(RL.bE 0 p0.aL j z5 (RL.jo (p0.aL.length:Int) 1 ?_))))))
   obtain⟨az,a4,o⟩:=bd o
   refine RL.call zt zr Fi [(vi ai.cR),(vi 0),(vi (IntKind.wrap .i64 ((p0.aL.length:Int) - 1)))] zr (aF (kD N (p0:=ai.cR) (p1:=0) (p2:=(IntKind.wrap .i64 ((p0.aL.length:Int) - 1))) j a4) ?_)
   rintro _ w ⟨rfl,j⟩
   refine RL.not az (mv (vb (!az)) (fY o (fun af o=>?_) fun af o=>?_))
   ·refine bR af (bR af (bR af (bR af (fV af (vb true) (aP (vb true) (RL.nil ?_))))))
    obtain rfl:=oi o
    exact⟨rfl,j.sp 5 [2,3,4]⟩
   refine RL.aZ (hg:=(cg af)) zr A7 (RL.aX (hg:=(cg af)) 3 j zr ux rp fun a5 j=>?_)
   obtain⟨ar,a6,o⟩:=bd o
   refine RL.call (cg af) zr Hn [a5] zr (aF (oO N (i0:=0) j zr a6) ?_)
   rintro _ w ⟨rfl,j⟩
   refine RL.not (hg:=(cg af)) ar (fV af (vb (!ar)) (aP (vb (!ar)) (RL.nil ?_)))
   obtain rfl:=oi o
   exact⟨rfl,j.sp 6 [3,4,5]⟩
  rintro _ w ⟨O,rfl,j⟩
  refine aG (fH hb (fun hc hb=>?_) fun hc hb=>?_)
  ·refine RC.sr (aP (vi 1) (RL.nt (RC.rb (lR (cC ?_)))))
   obtain rfl:=oi hb
   exact⟨rfl,cI ⟨rfl,j.drop 3⟩⟩
  refine RC.seq ?_
  obtain⟨au,o,hb⟩:=bd hb
  refine RC.jn (fun(au:Bool)=>SH E V [(1,vp ag 0),(10,ah),(11,vi p0.bH.length),(12,vi ad),(43,vb au)] [pt (vp ag 0) p0,rd ah p0.bH]) au ?_ ?_
  ·refine RC.yC mixed [0,0,0,0,2,1,1,1,1,1,1,2,2,0,0,0] [0,1,2,3,5,6,7,8,9,10,4,11,12,13,14,15] ?_
   have j:=j.drew
   refine DP.e0 zr (mv (vi ad) (cE zr (ic ((ad:Int)) 0 (cE zr (mv (vb (decide ((ad:Int)>0))) (DP.d0 (fY o (fun ab o=>?_) fun ab o=>?_)))))))
   rotate_left
   ·refine DP.e0 zr (bR ab (DP.d0 (DP.e1 undef zr (fun w=>bR ab DP.d1) (DP.e1 undef zr (fun w=>bR ab DP.d1) (DP.e1 undef zr (fun w=>bR ab DP.d1) (DP.e1 undef zr (fun w=>bR ab DP.d1) (DP.e1 undef zr (fun w=>bR ab DP.d1) (DP.e1 undef zr (fun w=>bR ab DP.d1) ?_))))))))
    refine DP.e2 zr (bR ab (Gs zr (bR ab (Gs zr (bR ab (AI zr (bR ab (cE zr ?_))))))))
    refine fV ab (vb false) (cE zr (aP (vb false) (DP.d0 (DP.z ?_))))
    obtain rfl:=oi o
    exact⟨rfl,j.sp 3 [0,2]⟩
   refine DP.e0 zr (RL.aX (hg:=(cg ab)) (f:=(fun x=>x)) 1 j zr Fd.self wi fun a7 j=>(DP.d0 (DP.He 1 zr zr (cg ab) zr j zr zr uB qe fun bu j=>(DP.uu (hg:=(cg ab)) p0.bH 0 zr j CD fun bw a378 bz j=>(DP.e1 (vi ad) zr (fun w=>RL.move (vi ad) (cg ab) DP.d1) (DP.e1 (vi (IntKind.wrap .i64 ((ad:Int) - 1))) zr (fun w=>RL.jo (hg:=(cg ab)) (ad:Int) 1 DP.d1) ?_))))))
   obtain⟨a8,a9,o⟩:=bd o
   refine DP.Gu 1 zr zr (cg ab) zr j zr zr zr CE a9 fun b0 j=>(DP.uu (hg:=(cg ab)) a8 0 zr j wi fun ba a383 b1 j=>(DP.e2 zr ?_))
   obtain⟨b2,bb,o⟩:=bd o
   refine RL.call (cg ab) zr Fj [a7] zr (aF (k6 N (i0:=6) j zr bb) ?_)
   rintro bc w j
   refine DP.d2 (⟨⟨zt,j.j3 4⟩,j.j3 1⟩) (DP.e2 zr ?_)
   obtain⟨b3,bf,o⟩:=bd o
   refine RL.call (cg ab) zr Fj [ba] zr (aF (k6 N (i0:=2) j zr bf) ?_)
   rintro bg w j
   refine DP.d2 (⟨⟨zt,j.j3 5⟩,j.j3 2⟩) (DP.e2 zr ?_)
   obtain⟨av,bh,o⟩:=bd o
   refine RL.call (cg ab) zr Hx [bc,bg] zr (aF (lH N (i0:=1) (i1:=0) j zr zr bh) ?_)
   rintro _ w ⟨rfl,j⟩
   refine DP.d2 (⟨⟨zt,j.j3 5⟩,j.j3 2⟩) (DP.e0 zr (RL.jY av 0 (cg ab) (cE zr (fV ab (vb (decide (av<=0))) (cE zr (aP (vb (decide (av<=0))) (DP.d0 ?_)))))))
   have j:=j.pl 12 [0,1,3,4,6,7,8,9,10,11]
   refine DP.z ?_
   obtain rfl:=oi o
   exact⟨rfl,j.sp 10 [7,9]⟩
  rintro _ w ⟨O,rfl,j⟩
  refine aG (fH hb (fun hc hb=>?_) fun hc hb=>?_)
  rotate_left
  ·refine RC.skip (bT (bT (aG (RC.region (RL.inc hk hm (mv (vi ((ad+1:Nat):Int)) (RL.nil ?_)))))))
   obtain rfl:=oi hb
   exact⟨rfl,j.sp 2 [0,1]⟩
  refine RC.sr (aP (vi 8) (RL.nt (RC.rb (lR (cC ?_)))))
  obtain rfl:=oi hb
  exact⟨rfl,cI ⟨rfl,j.drop 2⟩⟩
 ·intro r U w e hK
  subst e
  refine cC ?_
  obtain rfl:=oi hb
  exact hK
 rintro ak _ w rfl ⟨O,rfl,j⟩
 rw [Fo.gx] at hb
 refine aG (RC.sr (aP (vi 0) (RL.nt (RC.ret ?_))))
 obtain rfl:=oi hb
 exact cI ⟨rfl,j.drop 2⟩
theorem oR (o:Holds E w V) (j:g9 N p0 p1 p2 p3=some res):
    Calls bF 44 [(vi p0),(vi p1),(vi p2),(vi p3)].toArray w (gT (aQ E V res)):=by
 unfold g9 at j
 refine enter Tryz.func44 zr zr (RC.sr (aP (vi 0) (RL.ns (mv (vi p2) (mv (vi p1) (RL.jo p2 p1 (RL.jo (IntKind.wrap .i64 (p2 - p1)) 1 (mv (vi p0) ?_))))))))
 refine mv (vi p3) (RL.jo p0 p3 (RL.jo (IntKind.wrap .i64 (p0 - p3)) 1 (RL.ID (a:=0) (b:=(IntKind.wrap .i64 ((IntKind.wrap .i64 (p2 - p1))+1))) (c:=(IntKind.wrap .i64 ((IntKind.wrap .i64 (p0 - p3))+1))) zt zr zr zr zr (aP (vi (if (if 0< (IntKind.wrap .i64 ((IntKind.wrap .i64 (p2 - p1))+1)) then (IntKind.wrap .i64 ((IntKind.wrap .i64 (p2 - p1))+1)) else 0)< (IntKind.wrap .i64 ((IntKind.wrap .i64 (p0 - p3))+1)) then (IntKind.wrap .i64 ((IntKind.wrap .i64 (p0 - p3))+1)) else (if 0< (IntKind.wrap .i64 ((IntKind.wrap .i64 (p2 - p1))+1)) then (IntKind.wrap .i64 ((IntKind.wrap .i64 (p2 - p1))+1)) else 0))) (RL.nt (RC.ret ?_))))))
 obtain rfl:=oi j
 exact cI ⟨rfl,o.drop 0⟩
theorem mT {p0 p1:aI} (j:Holds E w V) (h0:V[i0]? =some (rd v0 p0)) (h1:V[i1]? =some (rd v1 p1)) (o:je N p0 p1=some res):
    Calls bF 16 [v0,v1].toArray w (gT (aQ E V res)):=by
 unfold je at o
 refine enter Tryz.func16 zr zr ?_
 have j:=(j.dup (i0+0) h0).dup (i1+1) h1
 refine RC.sr (RL.dD 1 v0 j zr fun aa w j=>?_)
 refine RL.dD 1 v1 j zr fun ab w j=>?_
 refine aP (vi 0) (RL.nq ?_)
 have j:=j.drew
 refine RC.DE (fun w=>Holds E w ([bx 50 ab p1,bx 50 aa p0]++V)) mixed zr [0,0,0,0,0,0,0,0,2,1,1,1,1,1,1,1,1,2,0,0] [0,1,2,3,4,5,6,7,9,10,11,12,13,14,15,16,8,17,18,19] (j.pk 4 [0,1]) (DP.e0 zr (RL.aZ zr iX (cE zr (RL.aK 1 j zr eG cG (cE zr (RL.aZ zr ke (cE zr (RL.aK 1 j zr fW cG ?_))))))))
 refine cE zr (RL.aZ zr iX (cE zr (RL.aK 0 j zr eG cG (cE zr (RL.aZ zr ke (cE zr (RL.aK 0 j zr fW cG (DP.d0 ?_))))))))
 refine DP.e1 (vp aa 1) zr (fun w=>RL.aZ zr jy DP.d1) (DP.Gr (vi p0.Y0) zr (fun w j=>RL.aK 1 j zr eQ cG DP.d1) (DP.e1 (vp aa 3) zr (fun w=>RL.aZ zr nk DP.d1) (DP.Gr (vi p0.Y1) zr (fun w j=>RL.aK 1 j zr jh cG DP.d1) (DP.e1 (vp ab 1) zr (fun w=>RL.aZ zr jy DP.d1) (DP.Gr (vi p1.Y0) zr (fun w j=>RL.aK 0 j zr eQ cG DP.d1) (DP.e1 (vp ab 3) zr (fun w=>RL.aZ zr nk DP.d1) (DP.Gr (vi p1.Y1) zr (fun w j=>RL.aK 0 j zr jh cG DP.d1) (DP.e2 zr ?_))))))))
 obtain⟨ad,af,o⟩:=bd o
 refine RL.call zt zr Hy [(vi p0.X0),(vi p0.X1),(vi p1.X0),(vi p1.X1)] zr (aF (oR N (p0:=p0.X0) (p1:=p0.X1) (p2:=p1.X0) (p3:=p1.X1) j af) ?_)
 rintro _ w ⟨rfl,j⟩
 refine DP.d2 (j.pk 4 [0,1]) (DP.e2 zr ?_)
 obtain⟨ae,ag,o⟩:=bd o
 refine RL.call zt zr Hy [(vi p0.Y0),(vi p0.Y1),(vi p1.Y0),(vi p1.Y1)] zr (aF (oR N (p0:=p0.Y0) (p1:=p0.Y1) (p2:=p1.Y0) (p3:=p1.Y1) j ag) ?_)
 rintro _ w ⟨rfl,j⟩
 refine DP.d2 (j.pk 4 [0,1]) (DP.e0 zr (RL.max ad ae (cE zr (aP (vi (if ad<ae then ae else ad)) (DP.d0 (DP.z (aG (RC.ret ?_))))))))
 obtain rfl:=oi o
 exact cI ⟨rfl,j.drop 4⟩
end Go.Gk
