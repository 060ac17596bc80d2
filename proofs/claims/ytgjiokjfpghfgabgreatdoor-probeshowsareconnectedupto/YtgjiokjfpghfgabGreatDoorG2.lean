/-
  Printed texts: Go functions as plain functions, and that they are. No statement of the seed is proved here.
-/
import Derived.Test.YtgjiokjfpghfgabGreatDoorG1
import Derived.Test.YtgjiokjfpghfgabGreatDoorA2
set_option linter.unusedVariables false
set_option linter.unusedSimpArgs false
set_option linter.unusedSectionVars false
set_option maxRecDepth 100000
set_option maxHeartbeats 4000000
namespace Go.Gk
open Go Go.Proofs
variable (N:Nat) {E w:World} {i0 i1:Nat} {p0 p1 p2 p3 res:Int} {v0 v1:Value} {V:List HP}
theorem gw {p0:bM} {res:aI} (j:Holds E w V) (h0:V[i0]? =some (rd v0 p0)) (o:eM N p0=some res):
    Calls bD 23 [v0].toArray w (gR (nR E V res)):=by
 unfold eM at o
 refine enter Tryz.func23 zr zr ?_
 have j:=j.dup (i0+0) h0
 refine RC.sr (RL.dD 0 v0 j zr fun aa w j=>?_)
 refine RL.alloc j n9.z fun ab w j=>?_
 refine RL.nq (RC.wy mixed ?_)
 have j:=j.drew
 refine RO.go (RL.bA zr Aq (RO.nx (RL.bA zr xW (RO.nx (RL.aN (f:=(fun x=>x.At.X)) 1 j zr (Fd.comp (f:=fun(x:bM)=>x.At) (fun(x:je)=>x.X) tT o6) cH (RO.nx (RL.bA zr vA (RO.nx ?_))))))))
 refine RL.aN 1 j zr oD cH (RO.nx (RL.quo p0.eN 2 zr zr zr zr (RO.nx (RL.jC p0.At.X (IntKind.wrap .i64 (Int.tdiv p0.eN 2)) (RO.nx (RL.bA zr Aq (RO.nx (RL.bA zr xX ?_))))))))
 refine RO.nx (RL.aN (f:=(fun x=>x.At.Y)) 1 j zr (Fd.comp (f:=fun(x:bM)=>x.At) (fun(x:je)=>x.Y) tT o7) cH (RO.nx (RL.bA zr vA (RO.nx (RL.aN 1 j zr oD cH (RO.nx (RL.quo p0.eN 2 zr zr zr zr (RO.nx ?_))))))))
 refine RL.jC p0.At.Y (IntKind.wrap .i64 (Int.tdiv p0.eN 2)) (RO.nx (aO (vi (IntKind.wrap .i64 (p0.At.X - (IntKind.wrap .i64 (Int.tdiv p0.eN 2))))) (RO.nx (aO (vi (IntKind.wrap .i64 (p0.At.Y - (IntKind.wrap .i64 (Int.tdiv p0.eN 2))))) (RO.last (aG (RC.sr (mv (vi (IntKind.wrap .i64 (p0.At.X - (IntKind.wrap .i64 (Int.tdiv p0.eN 2))))) ?_))))))))
 refine mv (vi (IntKind.wrap .i64 (p0.At.Y - (IntKind.wrap .i64 (Int.tdiv p0.eN 2))))) (mv (vi (IntKind.wrap .i64 (p0.At.X - (IntKind.wrap .i64 (Int.tdiv p0.eN 2))))) (RL.bA zr vA (RL.aN 1 j zr oD cH (RL.jC (IntKind.wrap .i64 (p0.At.X - (IntKind.wrap .i64 (Int.tdiv p0.eN 2)))) p0.eN (mv (vi (IntKind.wrap .i64 (p0.At.Y - (IntKind.wrap .i64 (Int.tdiv p0.eN 2))))) (RL.bA zr vA (RL.aN 1 j zr oD cH (RL.jC (IntKind.wrap .i64 (p0.At.Y - (IntKind.wrap .i64 (Int.tdiv p0.eN 2)))) p0.eN ?_))))))))
 have j:=((j.sc Int (IntKind.wrap .i64 (p0.At.X - (IntKind.wrap .i64 (Int.tdiv p0.eN 2))))).sc Int (IntKind.wrap .i64 (p0.At.Y - (IntKind.wrap .i64 (Int.tdiv p0.eN 2))))).sc Int (IntKind.wrap .i64 ((IntKind.wrap .i64 (p0.At.X - (IntKind.wrap .i64 (Int.tdiv p0.eN 2))))+p0.eN))
 have j:=j.sc Int (IntKind.wrap .i64 ((IntKind.wrap .i64 (p0.At.Y - (IntKind.wrap .i64 (Int.tdiv p0.eN 2))))+p0.eN))
 refine RL.build (⟨(IntKind.wrap .i64 (p0.At.X - (IntKind.wrap .i64 (Int.tdiv p0.eN 2)))),(IntKind.wrap .i64 (p0.At.Y - (IntKind.wrap .i64 (Int.tdiv p0.eN 2)))),(IntKind.wrap .i64 ((IntKind.wrap .i64 (p0.At.X - (IntKind.wrap .i64 (Int.tdiv p0.eN 2))))+p0.eN)),(IntKind.wrap .i64 ((IntKind.wrap .i64 (p0.At.Y - (IntKind.wrap .i64 (Int.tdiv p0.eN 2))))+p0.eN))⟩:aI) trivial rfl j [(0,(vi (IntKind.wrap .i64 (p0.At.X - (IntKind.wrap .i64 (Int.tdiv p0.eN 2)))))),(1,(vi (IntKind.wrap .i64 (p0.At.Y - (IntKind.wrap .i64 (Int.tdiv p0.eN 2)))))),(2,(vi (IntKind.wrap .i64 ((IntKind.wrap .i64 (p0.At.X - (IntKind.wrap .i64 (Int.tdiv p0.eN 2))))+p0.eN)))),(3,(vi (IntKind.wrap .i64 ((IntKind.wrap .i64 (p0.At.Y - (IntKind.wrap .i64 (Int.tdiv p0.eN 2))))+p0.eN))))] rfl BV rfl (fun M hs g=>by have h:=rT M;exact dJ.cons (f:=fun(x:aI) y=>{x with X0:=y}) h qS (g.sat 3 _ rfl).1 fun _ h=>dJ.cons (f:=fun(x:aI) y=>{x with Y0:=y}) h tR (g.sat 2 _ rfl).1 fun _ h=>dJ.cons (f:=fun(x:aI) y=>{x with X1:=y}) h oA (g.sat 1 _ rfl).1 fun _ h=>dJ.cons (f:=fun(x:aI) y=>{x with Y1:=y}) h qT (g.sat 0 _ rfl).1 fun _ h=>dJ.nil h) fun ad j=>?_
 refine RL.bG 5 j 0 zr iz fun w j=>?_
 refine RL.nt (RC.ret ?_)
 obtain rfl:=oi o
 exact Ft 5 zr j zr zr iz fun ae j=>(j.pk 9 [0])
theorem ru {p0: (List aA)} {res:aI} (j:Holds E w V) (h0:V[i0]? =some (rd v0 p0)) (hb:kl N p0=some res):
    Calls bD 86 [v0].toArray w (gR (nR E V res)):=by
 unfold kl at hb
 refine enter Tryz.func86 zr zr ?_
 have j:=j.dup (i0+0) h0
 refine RC.sr (RL.alloc j n9.z fun bc w j=>?_)
 refine RL.nq ?_
 obtain⟨bh,bn,hb⟩:=bd hb
 obtain⟨ba,bo,hb⟩:=bd hb
 obtain⟨a7,bp,hb⟩:=bd hb
 obtain⟨bj,bq,hb⟩:=bd hb
 obtain⟨bb,br,hb⟩:=bd hb
 obtain⟨a8,bt,hb⟩:=bd hb
 refine RC.CA E V mixed [1,0,0,0,0,0,1,0,0,0,1,0,0,0,0,0,1,1,0,1,0,0,0,0,0,0] [1,2,3,4,7,8,11,12,13,14,20,21,23,24,25] (fun(x:Value×Value×Value×Value×Value×Value×Value×Value×Value×Value×Value×Value×Value×Nat)=>(fun ah ai aj ak al an ao aq ar au av aw ax ae=>[(0,6,v0),(1,7,ah),(2,8,ai),(3,9,aj),(4,10,ak),(5,11,(vi ba)),(6,12,v0),(7,13,al),(8,14,an),(9,15,(vi a7.Y0)),(10,16,v0),(11,17,ao),(12,18,aq),(13,19,ar),(14,20,au),(15,21,(vi bb)),(16,22,v0),(17,23,v0),(18,24,(vi p0.length)),(19,25,(vi (IntKind.wrap .i64 ((p0.length:Int) - 1)))),(20,26,av),(21,27,aw),(22,28,(vi a8.Y1)),(23,29,ax),(24,3,(vp ae 0))]) x.1 x.2.1 x.2.2.1 x.2.2.2.1 x.2.2.2.2.1 x.2.2.2.2.2.1 x.2.2.2.2.2.2.1 x.2.2.2.2.2.2.2.1 x.2.2.2.2.2.2.2.2.1 x.2.2.2.2.2.2.2.2.2.1 x.2.2.2.2.2.2.2.2.2.2.1 x.2.2.2.2.2.2.2.2.2.2.2.1 x.2.2.2.2.2.2.2.2.2.2.2.2.1 x.2.2.2.2.2.2.2.2.2.2.2.2.2) [(0,v0),(2,vp bc 0)] [] (fun(D:Nat->Bool) (x:Value×Value×Value×Value×Value×Value×Value×Value×Value×Value×Value×Value×Value×Nat)=>(fun ah ai aj ak al an ao aq ar au av aw ax ae=>[bif D 0 then (pt ah bh) else aV,bif D 1 then (pt ai bh.Xs) else aV,bif D 2 then (rd aj bh.Xs) else aV,bif D 3 then (pt ak ba) else aV,bif D 4 then (pt al a7) else aV,bif D 5 then (pt an a7.Y0) else aV,bif D 6 then (pt ao bj) else aV,bif D 7 then (pt aq bj.Xs) else aV,bif D 8 then (rd ar bj.Xs) else aV,bif D 9 then (pt au bb) else aV,bif D 10 then (pt av a8) else aV,bif D 11 then (pt aw a8.Y1) else aV,bif D 12 then (rd ax (⟨ba,a7.Y0,bb,a8.Y1⟩:aI)) else aV,bif D 14 then (bx 49 ae (⟨ba,a7.Y0,bb,a8.Y1⟩:aI)) else (bif D 13 then (raw 49 ae 4) else aV),raw 49 bc 4,rd v0 p0]) x.1 x.2.1 x.2.2.1 x.2.2.2.1 x.2.2.2.2.1 x.2.2.2.2.2.1 x.2.2.2.2.2.2.1 x.2.2.2.2.2.2.2.1 x.2.2.2.2.2.2.2.2.1 x.2.2.2.2.2.2.2.2.2.1 x.2.2.2.2.2.2.2.2.2.2.1 x.2.2.2.2.2.2.2.2.2.2.2.1 x.2.2.2.2.2.2.2.2.2.2.2.2.1 x.2.2.2.2.2.2.2.2.2.2.2.2.2) (fun x=>by kernel_rfl) ?_ ⟨fun _=>jd gn,?_,?_,?_,?_,?_,fun _=>jd gn,?_,?_,?_,fun _=>jd gn,?_,?_,?_,?_,?_,fun _=>jd gn,fun _=>jd gn,?_,fun _=>Ep gn rfl,?_,?_,?_,?_,?_,?_,trivial⟩ ?_
 ·have j:=((((((((((((j.drew).aV).aV).aV).aV).aV).aV).aV).aV).aV).aV).aV).aV
  have j:=(j.aV).aV
  exact⟨(undef,undef,undef,undef,undef,undef,undef,undef,undef,undef,undef,undef,undef,0),dY.none,(Ba zr),zt,j⟩
 ·rintro D U w hD o ag ⟨⟨ah,ai,aj,ak,al,an,ao,aq,ar,au,av,aw,ax,ae⟩,hv,ha,_,j⟩
  obtain⟨O,rfl⟩:=(ac (hv.at 0 rfl (o.1 rfl)) az).eU
  have j:=j.bV 0 hD
  refine RL.cC 15 j my bn fun bu j=>?_
  have j:=(j.pl 17 [0,2,3,4,5,6,7,8,9,10,11,12,13,14,15,16]).cF 0 true aV
  exact RL.nil ⟨rfl,(bu,ai,aj,ak,al,an,ao,aq,ar,au,av,aw,ax,ae),hv.pu 1,ha.u,zt,j⟩
 ·rintro D U w hD o ag ⟨⟨ah,ai,aj,ak,al,an,ao,aq,ar,au,av,aw,ax,ae⟩,hv,ha,_,j⟩
  obtain⟨O,rfl⟩:=(ac (hv.at 1 rfl (o.1 rfl)) az).eU
  have j:=(j.cE 0 (o.1 rfl)).bV 1 hD
  refine RL.gS 0 j zr jN cU fun bw j=>?_
  have j:=((j.pl 17 [1,0,3,4,5,6,7,8,9,10,11,12,13,14,15,16]).cF (hb:=o.1 rfl) 0 (D 1) aV).cF 1 true aV
  exact RL.nil ⟨rfl,(ah,bw,aj,ak,al,an,ao,aq,ar,au,av,aw,ax,ae),hv.pu 2,ha.u,zt,j⟩
 ·rintro D U w hD o ag ⟨⟨ah,ai,aj,ak,al,an,ao,aq,ar,au,av,aw,ax,ae⟩,hv,ha,_,j⟩
  obtain⟨O,rfl⟩:=(ac (hv.at 2 rfl (o.1 rfl)) az).eU
  have j:=(j.cE 1 (o.1 rfl)).bV 2 hD
  refine RL.bT 1 bh.Xs j fF fun bz j=>?_
  have j:=((j.pl 17 [1,2,0,4,5,6,7,8,9,10,11,12,13,14,15,16]).cF (hb:=o.1 rfl) 1 (D 2) aV).cF 2 true aV
  exact RL.nil ⟨rfl,(ah,ai,bz,ak,al,an,ao,aq,ar,au,av,aw,ax,ae),hv.pu 3,ha.u,zt,j⟩
 ·rintro D U w hD o ag ⟨⟨ah,ai,aj,ak,al,an,ao,aq,ar,au,av,aw,ax,ae⟩,hv,ha,_,j⟩
  obtain⟨O,rfl⟩:=(ac (hv.at 3 rfl (o.1 rfl)) az).eU
  have j:=(j.cE 2 (o.1 rfl)).bV 3 hD
  refine RL.cC 2 j eF bo fun b0 j=>?_
  have j:=((j.pl 17 [1,2,3,0,5,6,7,8,9,10,11,12,13,14,15,16]).cF (hb:=o.1 rfl) 2 (D 3) aV).cF 3 true aV
  exact RL.nil ⟨rfl,(ah,ai,aj,b0,al,an,ao,aq,ar,au,av,aw,ax,ae),hv.pu 4,ha.u,zt,j⟩
 ·rintro D U w hD o ag ⟨⟨ah,ai,aj,ak,al,an,ao,aq,ar,au,av,aw,ax,ae⟩,hv,ha,_,j⟩
  obtain⟨O,rfl⟩:=(ac (hv.at 4 rfl (o.1 rfl)) az).eU
  have j:=j.cE 3 (o.1 rfl)
  refine RL.bK ba 3 j cH ?_
  have j:=j.cF (hb:=o.1 rfl) 3 (D 4) aV
  exact RL.nil ⟨rfl,(ah,ai,aj,ak,al,an,ao,aq,ar,au,av,aw,ax,ae),hv.pu 5,ha.u,zt,j⟩
 ·rintro D U w hD o ag ⟨⟨ah,ai,aj,ak,al,an,ao,aq,ar,au,av,aw,ax,ae⟩,hv,ha,_,j⟩
  obtain⟨O,rfl⟩:=(ac (hv.at 6 rfl (o.1 rfl)) az).eU
  have j:=j.bV 4 hD
  refine RL.cC 15 j my bp fun b1 j=>?_
  have j:=(j.pl 17 [1,2,3,4,0,6,7,8,9,10,11,12,13,14,15,16]).cF 4 true aV
  exact RL.nil ⟨rfl,(ah,ai,aj,ak,b1,an,ao,aq,ar,au,av,aw,ax,ae),hv.pu 7,ha.u,zt,j⟩
 ·rintro D U w hD o ag ⟨⟨ah,ai,aj,ak,al,an,ao,aq,ar,au,av,aw,ax,ae⟩,hv,ha,_,j⟩
  obtain⟨O,rfl⟩:=(ac (hv.at 7 rfl (o.1 rfl)) az).eU
  have j:=(j.cE 4 (o.1 rfl)).bV 5 hD
  refine RL.gS 4 j zr mR fz fun b2 j=>?_
  have j:=((j.pl 17 [1,2,3,4,5,0,7,8,9,10,11,12,13,14,15,16]).cF (hb:=o.1 rfl) 4 (D 7) aV).cF 5 true aV
  exact RL.nil ⟨rfl,(ah,ai,aj,ak,al,b2,ao,aq,ar,au,av,aw,ax,ae),hv.pu 8,ha.u,zt,j⟩
 ·rintro D U w hD o ag ⟨⟨ah,ai,aj,ak,al,an,ao,aq,ar,au,av,aw,ax,ae⟩,hv,ha,_,j⟩
  obtain⟨O,rfl⟩:=(ac (hv.at 8 rfl (o.1 rfl)) az).eU
  have j:=j.cE 5 (o.1 rfl)
  refine RL.bK a7.Y0 5 j cH ?_
  have j:=j.cF (hb:=o.1 rfl) 5 (D 8) aV
  exact RL.nil ⟨rfl,(ah,ai,aj,ak,al,an,ao,aq,ar,au,av,aw,ax,ae),hv.pu 9,ha.u,zt,j⟩
 ·rintro D U w hD o ag ⟨⟨ah,ai,aj,ak,al,an,ao,aq,ar,au,av,aw,ax,ae⟩,hv,ha,_,j⟩
  obtain⟨O,rfl⟩:=(ac (hv.at 10 rfl (o.1 rfl)) az).eU
  have j:=j.bV 6 hD
  refine RL.cC 15 j my bq fun b3 j=>?_
  have j:=(j.pl 17 [1,2,3,4,5,6,0,8,9,10,11,12,13,14,15,16]).cF 6 true aV
  exact RL.nil ⟨rfl,(ah,ai,aj,ak,al,an,b3,aq,ar,au,av,aw,ax,ae),hv.pu 11,ha.u,zt,j⟩
 ·rintro D U w hD o ag ⟨⟨ah,ai,aj,ak,al,an,ao,aq,ar,au,av,aw,ax,ae⟩,hv,ha,_,j⟩
  obtain⟨O,rfl⟩:=(ac (hv.at 11 rfl (o.1 rfl)) az).eU
  have j:=(j.cE 6 (o.1 rfl)).bV 7 hD
  refine RL.gS 6 j zr jN cU fun b4 j=>?_
  have j:=((j.pl 17 [1,2,3,4,5,6,7,0,9,10,11,12,13,14,15,16]).cF (hb:=o.1 rfl) 6 (D 11) aV).cF 7 true aV
  exact RL.nil ⟨rfl,(ah,ai,aj,ak,al,an,ao,b4,ar,au,av,aw,ax,ae),hv.pu 12,ha.u,zt,j⟩
 ·rintro D U w hD o ag ⟨⟨ah,ai,aj,ak,al,an,ao,aq,ar,au,av,aw,ax,ae⟩,hv,ha,_,j⟩
  obtain⟨O,rfl⟩:=(ac (hv.at 12 rfl (o.1 rfl)) az).eU
  have j:=(j.cE 7 (o.1 rfl)).bV 8 hD
  refine RL.bT 7 bj.Xs j fF fun b5 j=>?_
  have j:=((j.pl 17 [1,2,3,4,5,6,7,8,0,10,11,12,13,14,15,16]).cF (hb:=o.1 rfl) 7 (D 12) aV).cF 8 true aV
  exact RL.nil ⟨rfl,(ah,ai,aj,ak,al,an,ao,aq,b5,au,av,aw,ax,ae),hv.pu 13,ha.u,zt,j⟩
 ·rintro D U w hD o ag ⟨⟨ah,ai,aj,ak,al,an,ao,aq,ar,au,av,aw,ax,ae⟩,hv,ha,_,j⟩
  obtain⟨O,rfl⟩:=(ac (hv.at 13 rfl (o.1 rfl)) az).eU
  have j:=(j.cE 8 (o.1 rfl)).bV 9 hD
  refine RL.cC 8 j eF br fun b6 j=>?_
  have j:=((j.pl 17 [1,2,3,4,5,6,7,8,9,0,11,12,13,14,15,16]).cF (hb:=o.1 rfl) 8 (D 13) aV).cF 9 true aV
  exact RL.nil ⟨rfl,(ah,ai,aj,ak,al,an,ao,aq,ar,b6,av,aw,ax,ae),hv.pu 14,ha.u,zt,j⟩
 ·rintro D U w hD o ag ⟨⟨ah,ai,aj,ak,al,an,ao,aq,ar,au,av,aw,ax,ae⟩,hv,ha,_,j⟩
  obtain⟨O,rfl⟩:=(ac (hv.at 14 rfl (o.1 rfl)) az).eU
  have j:=j.cE 9 (o.1 rfl)
  refine RL.bK bb 9 j cH ?_
  have j:=j.cF (hb:=o.1 rfl) 9 (D 14) aV
  exact RL.nil ⟨rfl,(ah,ai,aj,ak,al,an,ao,aq,ar,au,av,aw,ax,ae),hv.pu 15,ha.u,zt,j⟩
 ·rintro D U w hD o ag ⟨⟨ah,ai,aj,ak,al,an,ao,aq,ar,au,av,aw,ax,ae⟩,hv,ha,_,j⟩
  obtain⟨O,rfl⟩:=(ac (hv.at 17 rfl (o.1 rfl)) az).eU
  refine RL.bE 15 p0 j rk ?_
  exact RL.nil ⟨rfl,(ah,ai,aj,ak,al,an,ao,aq,ar,au,av,aw,ax,ae),hv.pu 18,ha.u,zt,j⟩
 ·rintro D U w hD o ag ⟨⟨ah,ai,aj,ak,al,an,ao,aq,ar,au,av,aw,ax,ae⟩,hv,ha,_,j⟩
  obtain⟨O,rfl⟩:=(ac (hv.at 16 rfl (o.1 rfl)) (ac (hv.at 19 rfl (o.2.1 rfl)) az)).eU
  have j:=j.bV 10 hD
  refine RL.cC 15 j my bt fun b7 j=>?_
  have j:=(j.pl 17 [1,2,3,4,5,6,7,8,9,10,0,12,13,14,15,16]).cF 10 true aV
  exact RL.nil ⟨rfl,(ah,ai,aj,ak,al,an,ao,aq,ar,au,b7,aw,ax,ae),hv.pu 20,ha.u,zt,j⟩
 ·rintro D U w hD o ag ⟨⟨ah,ai,aj,ak,al,an,ao,aq,ar,au,av,aw,ax,ae⟩,hv,ha,_,j⟩
  obtain⟨O,rfl⟩:=(ac (hv.at 20 rfl (o.1 rfl)) az).eU
  have j:=(j.cE 10 (o.1 rfl)).bV 11 hD
  refine RL.gS 10 j zr kR dV fun b8 j=>?_
  have j:=((j.pl 17 [1,2,3,4,5,6,7,8,9,10,11,0,13,14,15,16]).cF (hb:=o.1 rfl) 10 (D 20) aV).cF 11 true aV
  exact RL.nil ⟨rfl,(ah,ai,aj,ak,al,an,ao,aq,ar,au,av,b8,ax,ae),hv.pu 21,ha.u,zt,j⟩
 ·rintro D U w hD o ag ⟨⟨ah,ai,aj,ak,al,an,ao,aq,ar,au,av,aw,ax,ae⟩,hv,ha,_,j⟩
  obtain⟨O,rfl⟩:=(ac (hv.at 21 rfl (o.1 rfl)) az).eU
  have j:=j.cE 11 (o.1 rfl)
  refine RL.bK a8.Y1 11 j cH ?_
  have j:=j.cF (hb:=o.1 rfl) 11 (D 21) aV
  exact RL.nil ⟨rfl,(ah,ai,aj,ak,al,an,ao,aq,ar,au,av,aw,ax,ae),hv.pu 22,ha.u,zt,j⟩
 ·rintro D U w hD o ag ⟨⟨ah,ai,aj,ak,al,an,ao,aq,ar,au,av,aw,ax,ae⟩,hv,ha,_,j⟩
  obtain⟨O,rfl⟩:=(ac (hv.at 5 rfl (o.1 rfl)) (ac (hv.at 9 rfl (o.2.1 rfl)) (ac (hv.at 15 rfl (o.2.2.1 rfl)) (ac (hv.at 22 rfl (o.2.2.2.1 rfl)) az)))).eU
  have j:=((((j.bV 12 hD).sc Int ba).sc Int a7.Y0).sc Int bb).sc Int a8.Y1
  refine RL.build (⟨ba,a7.Y0,bb,a8.Y1⟩:aI) trivial rfl j [(0,vi ba),(1,vi a7.Y0),(2,vi bb),(3,vi a8.Y1)] rfl BV rfl (fun M hs g=>by have h:=rT M;exact dJ.cons (f:=fun(x:aI) y=>{x with X0:=y}) h qS (g.sat 3 _ rfl).1 fun _ h=>dJ.cons (f:=fun(x:aI) y=>{x with Y0:=y}) h tR (g.sat 2 _ rfl).1 fun _ h=>dJ.cons (f:=fun(x:aI) y=>{x with X1:=y}) h oA (g.sat 1 _ rfl).1 fun _ h=>dJ.cons (f:=fun(x:aI) y=>{x with Y1:=y}) h qT (g.sat 0 _ rfl).1 fun _ h=>dJ.nil h) fun b9 j=>?_
  have j:=(j.pl 21 [5,6,7,8,9,10,11,12,13,14,15,16,0,18,19,20]).cF 12 true aV
  exact RL.nil ⟨rfl,(ah,ai,aj,ak,al,an,ao,aq,ar,au,av,aw,b9,ae),hv.pu 23,ha.u,zt,j⟩
 ·rintro D U w hD o ag ⟨⟨ah,ai,aj,ak,al,an,ao,aq,ar,au,av,aw,ax,ae⟩,hv,ha,_,j⟩
  obtain⟨O,rfl⟩:=(az (U:=U)).eU
  have j:=(j.bV 13 (nh ag hD 25)).bV 13 hD
  refine RL.alloc j n9.z fun bk w j=>?_
  have j:=((j.pl 17 [1,2,3,4,5,6,7,8,9,10,11,12,13,0,15,16]).cF 13 true aV).eR 13 (D 25) (nh ag hD 25) (bx 49 bk (⟨ba,a7.Y0,bb,a8.Y1⟩:aI))
  exact RL.nil ⟨rfl,(ah,ai,aj,ak,al,an,ao,aq,ar,au,av,aw,ax,bk),hv.pu 24,ha.u,zt,j⟩
 ·rintro D U w hD o ag ⟨⟨ah,ai,aj,ak,al,an,ao,aq,ar,au,av,aw,ax,ae⟩,hv,ha,_,j⟩
  obtain⟨O,rfl⟩:=(ac (hv.at 23 rfl (o.2.1 rfl)) (ac (hv.at 24 rfl (o.1 rfl)) az)).eU
  have j:=((j.cE 12 (o.2.1 rfl)).bV 13 hD).cE 13 (o.1 rfl)
  refine RL.bG 13 j 12 zr iz fun w j=>?_
  have j:=(j.cF (hb:=o.2.1 rfl) 12 (D 23) aV).cF 13 true (bif D 24 then (raw 49 ae 4) else aV)
  exact RL.nil ⟨rfl,(ah,ai,aj,ak,al,an,ao,aq,ar,au,av,aw,ax,ae),hv.n1,ha,zt,j⟩
 rintro D U w a5 ⟨⟨ah,ai,aj,ak,al,an,ao,aq,ar,au,av,aw,ax,ae⟩,hv,ha,_,j⟩
 have j:=((((((j.cE 0 (jy a5 1)).cE 1 (jy a5 2)).cE 2 (jy a5 3)).cE 3 (jy a5 4)).cE 4 (jy a5 7)).cE 5 (jy a5 8)).cE 6 (jy a5 11)
 have j:=((((((j.cE 7 (jy a5 12)).cE 8 (jy a5 13)).cE 9 (jy a5 14)).cE 10 (jy a5 20)).cE 11 (jy a5 21)).cE 12 (jy a5 23)).cE 13 (jy a5 25)
 obtain⟨O,rfl⟩:=(ac (hv.at 24 rfl (jy a5 24)) (ac (ha.at 0 rfl) (ac (ha.at 1 rfl) az))).eU
 refine aG (RC.seq (RC.sr (mv v0 (RL.bE 15 p0 j rk (mv (vi 0) (RL.nt ?_))))))
 obtain⟨af,hN,hb⟩:=bd hb
 refine RC.fold (fun(bf:Nat) (af:aI)=>SH E V [(2,vp bc 0),(3,vp ae 0),(30,v0),(31,vi p0.length),(32,vi bf)] [raw 49 bc 4,bx 49 ae af,rd v0 p0]) (fun(af:aI)=>SH E V [(2,vp bc 0),(3,vp ae 0)] [raw 49 bc 4,bx 49 ae af,rd v0 p0]) hN ?_ ?_ ?_ ?_
 ·exact j.sp 16 [14,13,15]
 ·rintro hm af _ w ⟨O,rfl,j⟩
  refine RC.sr (ic ((p0.length:Int)) ((p0.length:Int)) (RL.nq (RC.cT m4 (RC.ex ?_))))
  exact⟨rfl,j.sp 3 [0,1,2]⟩
 ·rintro hm bf af s' _ w hk ⟨O,rfl,j⟩ hb
  refine RC.sr (ic ((bf:Int)) ((p0.length:Int)) (RL.nq (RC.cS (m0 hk) (RC.ss (RC.bs ?_)))))
  obtain⟨a9,cb,hb⟩:=bd hb
  refine RL.cC 2 j my cb fun cc j=>(RL.bT 0 a9 j sW fun cd j=>(RL.alloc j zm.z fun bg w j=>?_))
  refine RL.bG 0 j 1 zr sW fun w j=>?_
  refine RL.nt ?_
  obtain⟨a4,cf,hb⟩:=bd hb
  obtain⟨a6,cg,hb⟩:=bd hb
  refine RC.CA E V mixed [1,0,1,0,0,0,0,1,0,1,0,1,0,0,1,0,0,0,1,0,1,0] [3,4,10,12,15,19,21] (fun(x:Value×Value×Value×Value×Value)=>(fun ay a0 a1 a2 a3=>[(0,36,(vp ae 0)),(1,37,(vi af.X0)),(2,38,(vp bg 2)),(3,39,ay),(4,40,a0),(5,41,(vi a4)),(6,42,(vi (if a4<af.X0 then a4 else af.X0))),(7,43,(vp ae 2)),(8,44,(vi af.X1)),(9,45,(vp bg 2)),(10,46,a1),(11,47,(vp bg 2)),(12,48,a2),(13,49,(vi a9.Xs.length)),(14,50,(vi (IntKind.wrap .i64 ((a9.Xs.length:Int) - 1)))),(15,51,a3),(16,52,(vi a6)),(17,53,(vi (if af.X1<a6 then a6 else af.X1))),(18,54,(vp ae 0)),(20,55,(vp ae 2))]) x.1 x.2.1 x.2.2.1 x.2.2.2.1 x.2.2.2.2) [(2,vp bc 0),(3,vp ae 0),(5,vp bg 0),(30,v0),(31,vi p0.length),(32,vi bf)] [] (fun(D:Nat->Bool) (x:Value×Value×Value×Value×Value)=>(fun ay a0 a1 a2 a3=>[bif D 0 then (rd ay a9.Xs) else aV,bif D 1 then (pt a0 a4) else aV,bif D 2 then (rd a1 a9.Xs) else aV,bif D 3 then (rd a2 a9.Xs) else aV,bif D 4 then (pt a3 a6) else aV,bx 130 bg a9,rd cd a9,pt cc a9,raw 49 bc 4,bif D 6 then (bx 49 ae {{af with X0:=(if a4<af.X0 then a4 else af.X0)} with X1:=(if af.X1<a6 then a6 else af.X1)}) else (bif D 5 then (bx 49 ae {af with X0:=(if a4<af.X0 then a4 else af.X0)}) else (bx 49 ae af)),rd v0 p0]) x.1 x.2.1 x.2.2.1 x.2.2.2.1 x.2.2.2.2) (fun x=>by kernel_rfl) ?_ ⟨fun _=>lU gn jm,?_,fun _=>lU gn jN,?_,?_,?_,?_,fun _=>lU gn j4,?_,fun _=>lU gn jN,?_,fun _=>lU gn jN,?_,?_,fun _=>Ep gn rfl,?_,?_,?_,fun _=>lU gn jm,?_,fun _=>lU gn j4,?_,trivial⟩ ?_
  ·have j:=(((((j.drew).aV).aV).aV).aV).aV
   exact⟨(undef,undef,undef,undef,undef),dY.none,(Ba zr),zt,j⟩
  ·rintro D U w hD o ag ⟨⟨ay,a0,a1,a2,a3⟩,hv,ha,_,j⟩
   obtain⟨O,rfl⟩:=(ac (hv.at 0 rfl (o.1 rfl)) az).eU
   have j:=(j.bV 9 (nh ag hD 21)).bV 9 (nh ag hD 19)
   refine RL.aN 9 j zr eX cH ?_
   have j:=(j.eR 9 (D 19) (nh ag hD 19) (bx 49 ae {af with X0:=(if a4<af.X0 then a4 else af.X0)})).eR 9 (D 21) (nh ag hD 21) (bx 49 ae {{af with X0:=(if a4<af.X0 then a4 else af.X0)} with X1:=(if af.X1<a6 then a6 else af.X1)})
   exact RL.nil ⟨rfl,(ay,a0,a1,a2,a3),hv.pu 1,ha.u,zt,j⟩
  ·rintro D U w hD o ag ⟨⟨ay,a0,a1,a2,a3⟩,hv,ha,_,j⟩
   obtain⟨O,rfl⟩:=(ac (hv.at 2 rfl (o.1 rfl)) az).eU
   have j:=j.bV 0 hD
   refine RL.aX 5 j zr cU fF fun ch j=>?_
   have j:=(j.pl 12 [0,2,3,4,5,6,7,8,9,10,11]).cF 0 true aV
   exact RL.nil ⟨rfl,(ch,a0,a1,a2,a3),hv.pu 3,ha.u,zt,j⟩
  ·rintro D U w hD o ag ⟨⟨ay,a0,a1,a2,a3⟩,hv,ha,_,j⟩
   obtain⟨O,rfl⟩:=(ac (hv.at 3 rfl (o.1 rfl)) az).eU
   have j:=(j.cE 0 (o.1 rfl)).bV 1 hD
   refine RL.cC 0 j eF cf fun cj j=>?_
   have j:=((j.pl 12 [1,0,3,4,5,6,7,8,9,10,11]).cF (hb:=o.1 rfl) 0 (D 3) aV).cF 1 true aV
   exact RL.nil ⟨rfl,(ay,cj,a1,a2,a3),hv.pu 4,ha.u,zt,j⟩
  ·rintro D U w hD o ag ⟨⟨ay,a0,a1,a2,a3⟩,hv,ha,_,j⟩
   obtain⟨O,rfl⟩:=(ac (hv.at 4 rfl (o.1 rfl)) az).eU
   have j:=j.cE 1 (o.1 rfl)
   refine RL.bK a4 1 j cH ?_
   have j:=j.cF (hb:=o.1 rfl) 1 (D 4) aV
   exact RL.nil ⟨rfl,(ay,a0,a1,a2,a3),hv.pu 5,ha.u,zt,j⟩
  ·rintro D U w hD o ag ⟨⟨ay,a0,a1,a2,a3⟩,hv,ha,_,j⟩
   obtain⟨O,rfl⟩:=(ac (hv.at 1 rfl (o.1 rfl)) (ac (hv.at 5 rfl (o.2.1 rfl)) az)).eU
   refine RL.min af.X0 a4 ?_
   exact RL.nil ⟨rfl,(ay,a0,a1,a2,a3),hv.pu 6,ha.u,zt,j⟩
  ·rintro D U w hD o ag ⟨⟨ay,a0,a1,a2,a3⟩,hv,ha,_,j⟩
   obtain⟨O,rfl⟩:=(ac (hv.at 7 rfl (o.1 rfl)) az).eU
   have j:=(j.bV 9 (nh ag hD 21)).bV 9 (nh ag hD 19)
   refine RL.aN 9 j zr fY cH ?_
   have j:=(j.eR 9 (D 19) (nh ag hD 19) (bx 49 ae {af with X0:=(if a4<af.X0 then a4 else af.X0)})).eR 9 (D 21) (nh ag hD 21) (bx 49 ae {{af with X0:=(if a4<af.X0 then a4 else af.X0)} with X1:=(if af.X1<a6 then a6 else af.X1)})
   exact RL.nil ⟨rfl,(ay,a0,a1,a2,a3),hv.pu 8,ha.u,zt,j⟩
  ·rintro D U w hD o ag ⟨⟨ay,a0,a1,a2,a3⟩,hv,ha,_,j⟩
   obtain⟨O,rfl⟩:=(ac (hv.at 9 rfl (o.1 rfl)) az).eU
   have j:=j.bV 2 hD
   refine RL.aX 5 j zr cU fF fun ck j=>?_
   have j:=(j.pl 12 [1,2,0,4,5,6,7,8,9,10,11]).cF 2 true aV
   exact RL.nil ⟨rfl,(ay,a0,ck,a2,a3),hv.pu 10,ha.u,zt,j⟩
  ·rintro D U w hD o ag ⟨⟨ay,a0,a1,a2,a3⟩,hv,ha,_,j⟩
   obtain⟨O,rfl⟩:=(ac (hv.at 11 rfl (o.1 rfl)) az).eU
   have j:=j.bV 3 hD
   refine RL.aX 5 j zr cU fF fun cl j=>?_
   have j:=(j.pl 12 [1,2,3,0,5,6,7,8,9,10,11]).cF 3 true aV
   exact RL.nil ⟨rfl,(ay,a0,a1,cl,a3),hv.pu 12,ha.u,zt,j⟩
  ·rintro D U w hD o ag ⟨⟨ay,a0,a1,a2,a3⟩,hv,ha,_,j⟩
   obtain⟨O,rfl⟩:=(ac (hv.at 12 rfl (o.1 rfl)) az).eU
   have j:=j.cE 3 (o.1 rfl)
   refine RL.bE 3 a9.Xs j lM ?_
   have j:=j.cF (hb:=o.1 rfl) 3 (D 12) aV
   exact RL.nil ⟨rfl,(ay,a0,a1,a2,a3),hv.pu 13,ha.u,zt,j⟩
  ·rintro D U w hD o ag ⟨⟨ay,a0,a1,a2,a3⟩,hv,ha,_,j⟩
   obtain⟨O,rfl⟩:=(ac (hv.at 10 rfl (o.1 rfl)) (ac (hv.at 14 rfl (o.2.1 rfl)) az)).eU
   have j:=(j.cE 2 (o.1 rfl)).bV 4 hD
   refine RL.cC 2 j eF cg fun cm j=>?_
   have j:=((j.pl 12 [1,2,3,4,0,6,7,8,9,10,11]).cF (hb:=o.1 rfl) 2 (D 10) aV).cF 4 true aV
   exact RL.nil ⟨rfl,(ay,a0,a1,a2,cm),hv.pu 15,ha.u,zt,j⟩
  ·rintro D U w hD o ag ⟨⟨ay,a0,a1,a2,a3⟩,hv,ha,_,j⟩
   obtain⟨O,rfl⟩:=(ac (hv.at 15 rfl (o.1 rfl)) az).eU
   have j:=j.cE 4 (o.1 rfl)
   refine RL.bK a6 4 j cH ?_
   have j:=j.cF (hb:=o.1 rfl) 4 (D 15) aV
   exact RL.nil ⟨rfl,(ay,a0,a1,a2,a3),hv.pu 16,ha.u,zt,j⟩
  ·rintro D U w hD o ag ⟨⟨ay,a0,a1,a2,a3⟩,hv,ha,_,j⟩
   obtain⟨O,rfl⟩:=(ac (hv.at 8 rfl (o.1 rfl)) (ac (hv.at 16 rfl (o.2.1 rfl)) az)).eU
   refine RL.max af.X1 a6 ?_
   exact RL.nil ⟨rfl,(ay,a0,a1,a2,a3),hv.pu 17,ha.u,zt,j⟩
  ·rintro D U w hD o ag ⟨⟨ay,a0,a1,a2,a3⟩,hv,ha,_,j⟩
   obtain⟨O,rfl⟩:=(ac (hv.at 6 rfl (o.2.1 rfl)) (ac (hv.at 18 rfl (o.1 rfl)) az)).eU
   have j:=((j.bV 9 (nh ag hD 21)).bV 9 hD).sc Int (if a4<af.X0 then a4 else af.X0)
   refine RL.yI 10 zt j zr zr zr 0 zr qS cH fun w j=>?_
   have j:=((j.pl 12 [1,2,3,4,5,6,7,8,9,10,11]).cF 9 true (bx 49 ae af)).eR 9 (D 21) (nh ag hD 21) (bx 49 ae {{af with X0:=(if a4<af.X0 then a4 else af.X0)} with X1:=(if af.X1<a6 then a6 else af.X1)})
   exact RL.nil ⟨rfl,(ay,a0,a1,a2,a3),hv.n1,ha,zt,j⟩
  ·rintro D U w hD o ag ⟨⟨ay,a0,a1,a2,a3⟩,hv,ha,_,j⟩
   obtain⟨O,rfl⟩:=(ac (hv.at 17 rfl (o.2.1 rfl)) (ac (hv.at 19 rfl (o.1 rfl)) az)).eU
   have j:=((j.bV 9 hD).cE 9 (o.2.2.1 rfl)).sc Int (if af.X1<a6 then a6 else af.X1)
   refine RL.yI 10 zt j zr zr zr 0 zr oA cH fun w j=>?_
   have j:=(j.pl 12 [1,2,3,4,5,6,7,8,9,10,11]).cF 9 true (bif D 19 then (bx 49 ae {af with X0:=(if a4<af.X0 then a4 else af.X0)}) else (bx 49 ae af))
   exact RL.nil ⟨rfl,(ay,a0,a1,a2,a3),hv.n1,ha,zt,j⟩
  rintro D U w a5 ⟨⟨ay,a0,a1,a2,a3⟩,hv,ha,_,j⟩
  have j:=(((((j.cE 0 (jy a5 3)).cE 1 (jy a5 4)).cE 2 (jy a5 10)).cE 3 (jy a5 12)).cE 4 (jy a5 15)).cE 9 (jy a5 21)
  obtain⟨O,rfl⟩:=(ac (ha.at 0 rfl) (ac (ha.at 1 rfl) (ac (ha.at 2 rfl) (ac (ha.at 3 rfl) (ac (ha.at 4 rfl) (ac (ha.at 5 rfl) az)))))).eU
  refine bU (aG (RC.region (RL.inc hk hm (mv (vi ((bf+1:Nat):Int)) (RL.nil ?_)))))
  obtain rfl:=oi hb
  exact⟨rfl,j.sp 11 [8,9,10]⟩
 rintro _ w ⟨O,rfl,j⟩
 refine aG (RC.sr (RL.aX (f:=(fun x=>x)) 1 j zr Fd.self iz fun cn j=>(RL.bG 1 j 0 zr iz fun w j=>?_)))
 refine RL.nt (RC.ret ?_)
 obtain rfl:=oi hb
 exact Ft 1 zr j zr zr iz fun cp j=>(j.pk 5 [0])
theorem tf {p0: (List aA)} {res:Bool} (j:Holds E w V) (h0:V[i0]? =some (rd v0 p0)) (hb:jX N p0=some res):
    Calls bD 69 [v0].toArray w (gR (bF E V res)):=by
 unfold jX at hb
 refine enter Tryz.func69 zr zr ?_
 have j:=j.dup (i0+0) h0
 refine RC.sr (aO (vb false) (RL.nq ?_))
 obtain⟨ad,o,hb⟩:=bd hb
 refine RC.jn (fun(ad:Bool)=>SH E V [(2,vb ad)] []) ad ?_ ?_
 ·refine RC.region (mv v0 (RL.bE 0 p0 j rk (ic ((p0.length:Int)) 0 (mv (vb ((p0.length:Int)==0)) (gv o (fun aa o=>?_) fun aa o=>?_)))))
  ·refine bS aa (bS aa (bS aa (gx aa (vb true) (aO (vb true) (RL.nil ?_)))))
   obtain rfl:=oi o
   exact⟨rfl,j.sp 1 []⟩
  refine RL.move v0 (cg aa) ?_
  obtain⟨ai,af,o⟩:=bd o
  refine RL.call (cg aa) zr Ie [v0] zr (aF (ru N (i0:=0) j zr af) ?_)
  rintro ag w j
  obtain⟨ae,ah,o⟩:=bd o
  refine RL.call (cg aa) zr Gw [ag] zr (aF (pB N (i0:=0) j zr ah) ?_)
  rintro _ w ⟨rfl,j⟩
  refine gx aa (vb ae) (aO (vb ae) (RL.nil ?_))
  obtain rfl:=oi o
  exact⟨rfl,j.sp 2 []⟩
 rintro _ w ⟨O,rfl,j⟩
 refine aG (RC.ret ?_)
 obtain rfl:=oi hb
 exact cD ⟨rfl,j.drop 0⟩
def uT (E:World) (V:List HP) (res:aI×Int) (v:Value) (w:World):Prop:=∃u0:Value,v = .tuple #[u0,(vi res.2)]/\Holds E w ([rd u0 res.1]++V)
theorem ud {p0:bM} {res:aI×Int} (j:Holds E w V) (h0:V[i0]? =some (rd v0 p0)) (o:jE N p0=some res):
    Calls bD 42 [v0].toArray w (gR (uT E V res)):=by
 unfold jE at o
 refine enter Tryz.func42 zr zr ?_
 have j:=j.dup (i0+0) h0
 refine RC.sr (RL.dD 0 v0 j zr fun af w j=>?_)
 refine RL.alloc j n9.z fun ag w j=>?_
 refine aO (vi 0) (RL.nq (RC.seq ?_))
 obtain⟨ad,hj,o⟩:=bd o
 refine RC.jn (fun(ad:Bool)=>SH E V [(1,vp af 0),(2,vp ag 0),(14,vb ad)] [bx 74 af p0,raw 49 ag 4]) ad ?_ ?_
 ·refine RC.region (RL.bA zr vA (RL.aN 1 j zr oD cH ?_))
  obtain⟨ah,aj,hj⟩:=bd hj
  refine RL.call zt zr Eu [(vi p0.eN),(vi 1),(vi 10000)] zr (aF (kq N (p0:=p0.eN) (p1:=1) (p2:=10000) j aj) ?_)
  rintro _ w ⟨rfl,j⟩
  refine RL.not ah (mv (vb (!ah)) (gv hj (fun aa hj=>?_) fun aa hj=>?_))
  ·refine bS aa (bS aa (bS aa (bS aa (gx aa (vb true) (RL.nil ?_)))))
   obtain rfl:=oi hj
   exact⟨rfl,j.sp 3 [1,0]⟩
  refine RL.bA (hg:=(cg aa)) zr Aq (RL.aX (hg:=(cg aa)) 1 j zr tT Ev fun ak j=>?_)
  obtain⟨ai,al,hj⟩:=bd hj
  refine RL.call (cg aa) zr GD [ak] zr (aF (oJ N (i0:=0) j zr al) ?_)
  rintro _ w ⟨rfl,j⟩
  refine RL.not (hg:=(cg aa)) ai (gx aa (vb (!ai)) (RL.nil ?_))
  obtain rfl:=oi hj
  exact⟨rfl,j.sp 4 [2,1]⟩
 rintro _ w ⟨O,rfl,j⟩
 refine aG (fq o (fun hc o=>?_) fun hc o=>?_)
 ·refine RC.sr (RL.build (⟨0,0,0,0⟩:aI) trivial rfl j [] rfl BV rfl (fun M hs g=>by have h:=rT M;exact dJ.nil h) fun a2 j=>?_)
  refine RL.bG 2 j 0 zr iz fun w j=>?_
  refine aO (vi 1) (RL.nt (RC.rt ?_))
  obtain rfl:=oi o
  exact wY 2 j iz fun an j=>⟨an,zr,j.pk 4 [0]⟩
 refine RC.sx (RL.aX (f:=(fun x=>x)) 0 j zr Fd.self nG fun ao j=>?_)
 obtain⟨aq,ar,o⟩:=bd o
 refine RL.call zt zr BX [ao] zr (aF (gw N (i0:=0) j zr ar) ?_)
 rintro a3 w j
 refine RL.alloc j n9.z fun a4 w j=>?_
 refine RL.bG 0 j 1 zr iz fun w j=>?_
 refine RL.nq (RC.sr (RL.aX (f:=(fun x=>x)) 0 j zr Fd.self iz fun au j=>(RL.eY ([aq]: (List aI)) j [au] lq n9 (fun M hs g=>⟨(g.sat 0 _ zr).1,zt⟩) fun av w j=>?_)))
 have j:=j.freeze 0
 obtain⟨a5,aw,o⟩:=bd o
 refine RL.call zt zr C1 [av] zr (aF (j7 N (i0:=0) j zr aw) ?_)
 rintro ax w j
 have j:=j.freeze 0
 obtain⟨ay,az,o⟩:=bd o
 refine RL.call zt zr Ig [ax] zr (aF (tf N (i0:=0) j zr az) ?_)
 rintro _ w ⟨rfl,j⟩
 refine RL.not ay (RL.nt (fq o (fun hc o=>?_) fun hc o=>?_))
 ·refine RC.sr (RL.build (⟨0,0,0,0⟩:aI) trivial rfl j [] rfl BV rfl (fun M hs g=>by have h:=rT M;exact dJ.nil h) fun a6 j=>?_)
  refine RL.bG 8 j 0 zr iz fun w j=>?_
  refine aO (vi 1) (RL.nt (RC.rt ?_))
  obtain rfl:=oi o
  exact wY 8 j iz fun a0 j=>⟨a0,zr,j.pk 10 [0]⟩
 refine RC.sx (RL.aX (f:=(fun x=>x)) 3 j zr Fd.self iz fun a7 j=>(RL.bG 8 j 0 zr iz fun w j=>?_))
 refine aO (vi 0) (RL.nt (RC.ret ?_))
 obtain rfl:=oi o
 exact wY 8 j iz fun a1 j=>⟨a1,zr,j.pk 10 [0]⟩
def ry (E:World) (V:List HP) (r:Int) (U:Nat->Value) (w:World):Prop:=lK bD 47 Tryz.f20 (aP E V r) .ret U w
theorem qj {p0:iD} (j:Holds E w V) (h0:V[i0]? =some (rd v0 p0)) (o:iK N p0=some res):
    Calls bD 20 [v0].toArray w (gR (aP E V res)):=by
 unfold iK at o
 refine enter Tryz.func20 zr zr ?_
 have j:=j.dup (i0+0) h0
 refine RC.sr (RL.dD 0 v0 j zr fun a0 w j=>?_)
 refine aO (vi 0) (RL.nq (RC.sr (RL.bA zr lX (RL.aX 0 j zr pV tX fun a1 j=>(RL.bE 0 p0.aU j vz (ic ((p0.aU.length:Int)) 500 (RL.nt (fq o (fun hc o=>?_) fun hc o=>?_))))))))
 ·refine RC.sr (aO (vi 2) (RL.nt (RC.rt ?_)))
  obtain rfl:=oi o
  exact cD ⟨rfl,j.drop 3⟩
 refine RC.sx (RL.bA zr tW (RL.aX 1 j zr oE BS fun a2 j=>(RL.bE 0 p0.aJ j zk (aO (vi p0.aJ.length) (RL.nq (RC.sr (RL.bA zr lX (RL.aX 2 j zr pV tX fun ag j=>?_))))))))
 refine RL.bE 0 p0.aU j vz (mv (vi 0) (RL.nt ?_))
 obtain⟨a3,hN,o⟩:=bd o
 refine RC.range (fun(ah:Nat) (ai:Unit)=>SH E V [(3,vi p0.aJ.length),(16,ag),(17,vi p0.aU.length),(18,vi ah)] [rd ag p0.aU]) (fun(ai:Unit)=>SH E V [] [rd ag p0.aU]) (ry E V) hN ?_ ?_ ?_ ?_ ?_
 ·exact j.sp 5 [0]
 ·rintro hm ai _ w ⟨O,rfl,j⟩
  refine RC.sr (ic ((p0.aU.length:Int)) ((p0.aU.length:Int)) (RL.nq (RC.cT m4 (RC.ex ?_))))
  exact⟨rfl,j.sp 1 [0]⟩
 ·rintro hm ah ai fl _ w hk ⟨O,rfl,j⟩ o
  refine RC.sr (ic ((ah:Int)) ((p0.aU.length:Int)) (RL.nq (RC.cS (m0 hk) (RC.ss (RC.bs ?_)))))
  obtain⟨ad,au,o⟩:=bd o
  refine RL.cC 0 j xV au fun a5 j=>(RL.bT 0 ad j nG fun a6 j=>(RL.alloc j BW.z fun a7 w j=>?_))
  refine RL.bG 0 j 1 zr nG fun w j=>?_
  refine RL.nq (RC.sr (RL.aX (f:=(fun x=>x)) 0 j zr Fd.self nG fun av j=>?_))
  obtain⟨ae,aw,o⟩:=bd o
  refine RL.call zt zr Ih [av] zr (aF (ud N (i0:=0) j zr aw) ?_)
  rintro _ w ⟨an,rfl,j⟩
  refine mv (.tuple #[an,(vi ae.2)]) (RL.extract an (RL.extract (vi ae.2) (RL.alloc j n9.z fun a8 w j=>?_)))
  refine RL.bG 0 j 1 zr iz fun w j=>?_
  refine aO (vi ae.2) (RL.ns (mv (vi ae.2) (ic ae.2 0 (RL.nt (fq o (fun hc o=>?_) fun hc o=>?_)))))
  ·refine RC.sr (mv (vi ae.2) (aO (vi ae.2) (RL.nt (RC.rt (iY (bL ?_))))))
   obtain rfl:=oi o
   exact⟨rfl,cD ⟨rfl,j.drop 7⟩⟩
  refine RC.ss ?_
  obtain⟨aj,hj,o⟩:=bd o
  refine RC.jn (fun(aj:Bool)=>SH E V [(3,vi p0.aJ.length),(16,ag),(17,vi p0.aU.length),(18,vi ah),(45,vb aj)] [rd ag p0.aU]) aj ?_ ?_
  ·refine RC.region (RL.bA zr rU (RL.aN 3 j zr lV cH (mv (vi p0.aJ.length) (RL.jC (p0.aJ.length:Int) 1 ?_))))
   obtain⟨ao,ax,hj⟩:=bd hj
   refine RL.call zt zr Eu [(vi ad.cQ),(vi 0),(vi (IntKind.wrap .i64 ((p0.aJ.length:Int) - 1)))] zr (aF (kq N (p0:=ad.cQ) (p1:=0) (p2:=(IntKind.wrap .i64 ((p0.aJ.length:Int) - 1))) j ax) ?_)
   rintro _ w ⟨rfl,j⟩
   refine RL.not ao (mv (vb (!ao)) (gv hj (fun aa hj=>?_) fun aa hj=>?_))
   ·refine bS aa (bS aa (bS aa (bS aa (bS aa (bS aa (bS aa (bS aa (gx aa (vb true) ?_))))))))
    refine RL.nil ?_
    obtain rfl:=oi hj
    exact⟨rfl,j.sp 7 [6]⟩
   refine RL.bA (hg:=(cg aa)) zr tY (RL.aN (hg:=(cg aa)) 3 j zr m6 cH (RL.bA (hg:=(cg aa)) zr rU (RL.aN (hg:=(cg aa)) 3 j zr lV cH (RL.move (vi p0.aJ.length) (cg aa) (RL.jC (hg:=(cg aa)) (p0.aJ.length:Int) 1 ?_)))))
   obtain⟨aq,ay,hj⟩:=bd hj
   refine RL.call (cg aa) zr Eu [(vi ad.To),(vi ad.cQ),(vi (IntKind.wrap .i64 ((p0.aJ.length:Int) - 1)))] zr (aF (kq N (p0:=ad.To) (p1:=ad.cQ) (p2:=(IntKind.wrap .i64 ((p0.aJ.length:Int) - 1))) j ay) ?_)
   rintro _ w ⟨rfl,j⟩
   refine RL.not (hg:=(cg aa)) aq (gx aa (vb (!aq)) (RL.nil ?_))
   obtain rfl:=oi hj
   exact⟨rfl,j.sp 7 [6]⟩
  rintro _ w ⟨O,rfl,j⟩
  refine aG (fq o (fun hc o=>?_) fun hc o=>?_)
  rotate_left
  ·refine RC.skip (bU (aG (RC.region (RL.inc hk hm (mv (vi ((ah+1:Nat):Int)) (RL.nil ?_))))))
   obtain rfl:=oi o
   exact⟨rfl,j.sp 1 [0]⟩
  refine RC.sr (aO (vi 1) (RL.nt (RC.rb (bL ?_))))
  obtain rfl:=oi o
  exact⟨rfl,cD ⟨rfl,j.drop 1⟩⟩
 ·intro r U w e hK
  subst e
  refine bL ?_
  obtain rfl:=oi o
  exact hK
 rintro ai _ w rfl ⟨O,rfl,j⟩
 rw [Fo.fZ] at o
 refine aG (RC.sr (aO (vi 0) (RL.nt (RC.ret ?_))))
 obtain rfl:=oi o
 exact cD ⟨rfl,j.drop 1⟩
theorem kE {p0:cX} (o:Holds E w V) (j:gk N p0 p1=some res):
    Calls bD 89 [(str p0),(.int .u8 p1)].toArray w (gR (aP E V res)):=by
 unfold gk at j
 refine enter Tryz.func89 zr zr (RC.sr (aO (vi 0) (RL.ns (mv (str p0) (mv (.int .u8 p1) (RL.vg (vi (Lib.indexByte p0.cG (Int.toNat p1).toUInt8)) zr [(str p0),(.int .u8 p1)] zr (CS p0 p1 w) (aO (vi (Lib.indexByte p0.cG (Int.toNat p1).toUInt8)) (RL.nt ?_))))))))
 refine RC.ret ?_
 obtain rfl:=oi j
 exact cD ⟨rfl,o.drop 0⟩
theorem ql {p0 p1:cX} (o:Holds E w V) (j:iL N p0 p1=some res):
    Calls bD 129 [(str p0),(str p1)].toArray w (gR (aP E V res)):=by
 unfold iL at j
 refine enter Tryz.func129 zr zr (RC.sr (aO (vi 0) (RL.ns (mv (str p1) (RL.lens p1 zn (aO (vi p1.cG.length) (RL.nq (RC.bs ?_))))))))
 refine mv (vi p1.cG.length) (ic ((p1.cG.length:Int)) 0 (mv (vb ((p1.cG.length:Int)==0)) (RL.gs true ((p1.cG.length:Int)==0) (str p1) rfl rfl rfl eC (RL.gs true ((p1.cG.length:Int)==0) (str p0) rfl rfl rfl eC (RL.gs true ((p1.cG.length:Int)==0) (vb (p1.Ac p0)) rfl rfl rfl (Ee (bop:= .eql) (a:=p1) (b:=p0) rfl (fun h=>by exact(cR h:cv (true&&(((p1.cG.length:Int)==0)==false)) (str p1)= (str p1))) (fun h=>by exact(cR h:cv (true&&(((p1.cG.length:Int)==0)==false)) (str p0)= (str p0))) rfl) (RL.pick ((p1.cG.length:Int)==0) (vb (((p1.cG.length:Int)==0)||(p1.Ac p0))) (px true rfl) (aO (vb (((p1.cG.length:Int)==0)||(p1.Ac p0))) (RL.nt ?_))))))))
 refine fq j (fun hc j=>?_) fun hc j=>?_
 ·refine RC.sr (aO (vi 0) (RL.nt (RC.rb (bL ?_))))
  obtain rfl:=oi j
  exact cD ⟨rfl,o.drop 0⟩
 refine RC.sr (mv (vi p1.cG.length) (ic ((p1.cG.length:Int)) 1 (aO (vb ((p1.cG.length:Int)==1)) (RL.nt (fq j (fun hc j=>?_) fun hc j=>?_)))))
 ·refine RC.sr (mv (str p0) (mv (str p1) ?_))
  obtain⟨ab,ad,j⟩:=bd j
  refine RL.idxs p1 0 ab zr zr zr zn ad ?_
  obtain⟨ae,af,j⟩:=bd j
  refine RL.call zt zr GF [(str p0),(.int .u8 (ab.toNat:Int))] zr (aF (kE N (p0:=p0) (p1:=(ab.toNat:Int)) o af) ?_)
  rintro _ w ⟨rfl,o⟩
  refine aO (vi ae) (RL.nt (RC.rb (bL ?_)))
  obtain rfl:=oi j
  exact cD ⟨rfl,o.drop 0⟩
 refine RC.sr (mv (vi p1.cG.length) (mv (str p0) (RL.lens p0 zn (ic ((p1.cG.length:Int)) ((p0.cG.length:Int)) (aO (vb (decide ((p1.cG.length:Int)>=(p0.cG.length:Int)))) (RL.nt (fq j (fun hc j=>?_) fun hc j=>?_)))))))
 rotate_left
 ·cases j
 refine RC.sr (aO (vi (-1)) (RL.nt (RC.rb (bL ?_))))
 obtain rfl:=oi j
 exact cD ⟨rfl,o.drop 0⟩
theorem oK {p0 p1:cX} (o:Holds E w V) (j:jF N p0 p1=some res):
    Calls bD 115 [(str p0),(str p1)].toArray w (gR (aP E V res)):=by
 unfold jF at j
 refine enter Tryz.func115 zr zr (RC.sr (aO (vi 0) (RL.ns (mv (str p0) (mv (str p1) ?_)))))
 obtain⟨aa,ab,j⟩:=bd j
 refine RL.call zt zr GG [(str p0),(str p1)] zr (aF (ql N (p0:=p0) (p1:=p1) o ab) ?_)
 rintro _ w ⟨rfl,o⟩
 refine aO (vi aa) (RL.nt (RC.ret ?_))
 obtain rfl:=oi j
 exact cD ⟨rfl,o.drop 0⟩
def uU (E:World) (V:List HP) (r:Int) (U:Nat->Value) (w:World):Prop:=lK bD 34 Tryz.f114 (aP E V r) .ret U w
theorem ue {p0 p1:cX} (hw:Holds E w V) (j:kB N p0 p1=some res):
    Calls bD 114 [(str p0),(str p1)].toArray w (gR (aP E V res)):=by
 unfold kB at j
 refine enter Tryz.func114 zr zr (RC.sr (aO (vi 0) (RL.nq (RC.sr (mv (str p1) (RL.lens p1 zn (ic ((p1.cG.length:Int)) 0 (RL.nt ?_))))))))
 refine fq j (fun hc j=>?_) fun hc j=>?_
 ·cases j
 refine RC.ss (RC.sr (mv (str p1) (RL.lens p1 zn (ic ((p1.cG.length:Int)) 1 (RL.nt (fq j (fun hc j=>?_) fun hc j=>?_))))))
 ·refine RC.sr (mv (str p0) (mv (str p1) ?_))
  obtain⟨ad,af,j⟩:=bd j
  refine RL.idxs p1 0 ad zr zr zr zn af (RL.vg (vi ((Lib.countByte p0.cG (Int.toNat (ad.toNat:Int)).toUInt8:Nat):Int)) zr [(str p0),(.int .u8 (ad.toNat:Int))] zr (iR p0 (ad.toNat:Int) w) (aO (vi ((Lib.countByte p0.cG (Int.toNat (ad.toNat:Int)).toUInt8:Nat):Int)) (RL.nt (RC.rt ?_))))
  obtain rfl:=oi j
  exact cD ⟨rfl,hw.drop 0⟩
 refine RC.sx (aO (vi 0) (RL.nt ?_))
 obtain⟨al,hN,j⟩:=bd j
 refine RC.iter (fun(o:cX×Int)=>SH E V [(0,(str o.1)),(1,(str p1)),(4,vi 0),(5,vi o.2)] []) (fun(o:cX×Int)=>SH E V [(4,vi 0)] []) (uU E V) hN ?_ ?_ ?_ ?_
 ·exact hw.sp 0 []
 ·rintro o fl _ w ⟨O,rfl,hw⟩ j
  refine RC.bs (mv (str o.1) (mv (str p1) ?_))
  obtain⟨ae,ah,j⟩:=bd j
  refine RL.call zt zr E5 [(str o.1),(str p1)] zr (aF (oK N (p0:=o.1) (p1:=p1) hw ah) ?_)
  rintro _ w ⟨rfl,hw⟩
  refine aO (vi ae) (RL.nq (RC.sr (mv (vi ae) (ic ae ((-1)) (RL.nt (fq j (fun hc j=>?_) fun hc j=>?_))))))
  ·refine RC.sr (mv (vi o.2) (aO (vi o.2) (RL.nt (RC.rt (iY ?_)))))
   obtain rfl:=oi j
   exact⟨rfl,cD ⟨rfl,hw.drop 0⟩⟩
  refine RC.sx (mv (vi o.2) (RL.jC o.2 1 (aO (vi (IntKind.wrap .i64 (o.2+1))) (RL.nt (RC.region (mv (str o.1) (mv (vi ae) (mv (str p1) ?_))))))))
  refine RL.lens p1 zn (RL.jC ae (p1.cG.length:Int) ?_)
  obtain⟨ai,aj,j⟩:=bd j
  refine RL.rQ o.1 zr zr zn (.inl zr) (.inr ⟨rfl,zr⟩) aj (aO (str ai) (RL.nil (bU ?_)))
  obtain rfl:=oi j
  exact⟨rfl,hw.sp 0 []⟩
 ·intro r U w e hK
  subst e
  obtain rfl:=oi j
  exact hK
 rintro o _ w rfl ⟨O,rfl,hw⟩
 rw [Fo.fZ] at j
 obtain rfl:=oi j
 refine yE ?_
 exact cD ⟨rfl,hw.drop 0⟩
theorem rz {p0 p1:cX} {res: (List cX)} (o:Holds E w V) (j:km N p0 p1 p2 p3=some res):
    Calls bD 88 [(str p0),(str p1),(vi p2),(vi p3)].toArray w (gR (nk E V res)):=by
 unfold km at j
 refine enter Tryz.func88 zr zr (RC.sr (aO (.slice none 0 0) (RL.nq (RC.sr (mv (vi p3) (ic p3 0 (RL.nt (fq j (fun hc j=>?_) fun hc j=>?_))))))))
 ·refine RC.sr (aO (.slice none 0 0) (RL.nt (RC.rt ?_)))
  obtain rfl:=oi j
  have o:=o.dH cX 9
  exact cD (o.pk 1 [0])
 refine RC.ss (RC.sr (mv (str p1) (RL.BH (a:=p1) (b:=⟨[]⟩) zt zr zr zr zr (RL.nt (fq j (fun hc j=>?_) fun hc j=>?_)))))
 ·cases j
 refine RC.ss (RC.sr (mv (vi p3) (ic p3 0 (RL.nt ?_))))
 obtain⟨ab,hj,j⟩:=bd j
 refine RC.jn (fun(ab:Int)=>SH E V [(0,(str p0)),(1,(str p1)),(2,vi p2),(3,vi ab)] []) ab ?_ ?_
 ·refine fq hj (fun hc hj=>?_) fun hc hj=>?_
  rotate_left
  ·refine RC.skip ?_
   obtain rfl:=oi hj
   exact⟨rfl,o.sp 0 []⟩
  refine RC.region (mv (str p0) (mv (str p1) ?_))
  obtain⟨aj,ak,hj⟩:=bd hj
  refine RL.call zt zr GH [(str p0),(str p1)] zr (aF (ue N (p0:=p0) (p1:=p1) o ak) ?_)
  rintro _ w ⟨rfl,o⟩
  refine RL.jC aj 1 (aO (vi (IntKind.wrap .i64 (aj+1))) (RL.nil ?_))
  obtain rfl:=oi hj
  exact⟨rfl,o.sp 0 []⟩
 rintro _ w ⟨O,rfl,o⟩
 refine aG (RC.sr (mv (vi ab) (mv (str p0) (RL.lens p0 zn (RL.jC (p0.cG.length:Int) 1 (RL.min ab (IntKind.wrap .i64 ((p0.cG.length:Int)+1)) (aO (vi (if (IntKind.wrap .i64 ((p0.cG.length:Int)+1))<ab then (IntKind.wrap .i64 ((p0.cG.length:Int)+1)) else ab)) (RL.ns ?_))))))))
 refine mv (vi (if (IntKind.wrap .i64 ((p0.cG.length:Int)+1))<ab then (IntKind.wrap .i64 ((p0.cG.length:Int)+1)) else ab)) ?_
 obtain⟨ay,al,j⟩:=bd j
 refine RL.mk (if (IntKind.wrap .i64 ((p0.cG.length:Int)+1))<ab then (IntKind.wrap .i64 ((p0.cG.length:Int)+1)) else ab) o GI JE al fun ae w o=>?_
 refine aO ae (RL.ns (mv (vi (if (IntKind.wrap .i64 ((p0.cG.length:Int)+1))<ab then (IntKind.wrap .i64 ((p0.cG.length:Int)+1)) else ab)) (RL.jC (if (IntKind.wrap .i64 ((p0.cG.length:Int)+1))<ab then (IntKind.wrap .i64 ((p0.cG.length:Int)+1)) else ab) 1 (aO (vi (IntKind.wrap .i64 ((if (IntKind.wrap .i64 ((p0.cG.length:Int)+1))<ab then (IntKind.wrap .i64 ((p0.cG.length:Int)+1)) else ab) - 1))) (RL.ns (aO (vi 0) (RL.nq ?_)))))))
 obtain⟨az,hN,j⟩:=bd j
 refine RC.iter (fun(aa:cX×(List cX)×Int)=>SH E V [(0,(str aa.1)),(1,(str p1)),(2,vi p2),(3,(vi (IntKind.wrap .i64 ((if (IntKind.wrap .i64 ((p0.cG.length:Int)+1))<ab then (IntKind.wrap .i64 ((p0.cG.length:Int)+1)) else ab) - 1)))),(9,ae),(10,vi aa.2.2)] [own 9 ae aa.2.1]) (fun(aa:cX×(List cX)×Int)=>SH E V [(0,(str aa.1)),(9,ae),(10,vi aa.2.2)] [own 9 ae aa.2.1]) (fun(r:Empty) _ _=>r.elim) hN ?_ ?_ ?_ ?_
 ·exact o.sp 1 [0]
 ·rintro aa fl _ w ⟨O,rfl,o⟩ j
  refine RC.seq (RC.sr (mv (vi aa.2.2) (mv (vi (IntKind.wrap .i64 ((if (IntKind.wrap .i64 ((p0.cG.length:Int)+1))<ab then (IntKind.wrap .i64 ((p0.cG.length:Int)+1)) else ab) - 1))) (ic aa.2.2 ((IntKind.wrap .i64 ((if (IntKind.wrap .i64 ((p0.cG.length:Int)+1))<ab then (IntKind.wrap .i64 ((p0.cG.length:Int)+1)) else ab) - 1))) (RL.nt (fq j (fun hc j=>?_) fun hc j=>?_))))))
  rotate_left
  ·refine RC.ex ?_
   obtain rfl:=oi j
   exact⟨rfl,o.sp 1 [0]⟩
  refine RC.sn (RC.bs (mv (str aa.1) (mv (str p1) ?_)))
  obtain⟨ag,ao,j⟩:=bd j
  refine RL.call zt zr E5 [(str aa.1),(str p1)] zr (aF (oK N (p0:=aa.1) (p1:=p1) o ao) ?_)
  rintro _ w ⟨rfl,o⟩
  refine aO (vi ag) (RL.nq (RC.sr (mv (vi ag) (ic ag 0 (RL.nt (fq j (fun hc j=>?_) fun hc j=>?_))))))
  ·refine RC.ex (Fq (by decide) ?_)
   obtain rfl:=oi j
   exact⟨rfl,o.sp 1 [0]⟩
  refine RC.sx (mv ae (mv (vi aa.2.2) (mv (str aa.1) (mv (vi ag) (mv (vi p2) (RL.jC ag p2 ?_))))))
  obtain⟨aq,ar,j⟩:=bd j
  refine RL.rQ aa.1 zr zr zn (.inr ⟨rfl,zr⟩) (.inl zr) ar ?_
  obtain⟨a1,ah,j⟩:=bd j
  refine RL.bJ 0 o zr zr Bc ah ?_
  have o:=o.sc cX aq
  refine RL.gj (f:=(fun _ y=>y)) 1 0 o (jv 1 o ah 0) (aY ah).2.1 zr Fs.self C4 fun w o=>?_
  refine RL.ns (mv (str aa.1) (mv (vi ag) (mv (str p1) (RL.lens p1 zn (RL.jC ag (p1.cG.length:Int) ?_)))))
  obtain⟨au,av,j⟩:=bd j
  refine RL.rQ aa.1 zr zr zn (.inl zr) (.inr ⟨rfl,zr⟩) av (aO (str au) (RL.nt (RC.region (mv (vi aa.2.2) (RL.jC aa.2.2 1 (aO (vi (IntKind.wrap .i64 (aa.2.2+1))) (RL.nil (bU ?_))))))))
  obtain rfl:=oi j
  exact⟨rfl,o.sp 2 [1]⟩
 ·intro r _ _ _ _
  exact r.elim
 rintro aa _ w rfl ⟨O,rfl,o⟩
 rw [Fo.fZ] at j
 refine aG (RC.sr (mv ae (mv (vi aa.2.2) (mv (str aa.1) ?_))))
 obtain⟨a2,ai,j⟩:=bd j
 refine RL.bJ 0 o zr zr Bc ai ?_
 have o:=o.sc cX aa.1
 refine RL.gj (f:=(fun _ y=>y)) 1 0 o (jv 1 o ai 0) (aY ai).2.1 zr Fs.self C4 fun w o=>?_
 refine RL.ns (mv ae (mv (vi aa.2.2) (RL.jC aa.2.2 1 ?_)))
 obtain⟨a3,aw,j⟩:=bd j
 refine RL.xH 1 zr o zr zr Bc (.inr ⟨rfl,zr⟩) aw fun ax o=>(aO ax (RL.nt (RC.ret ?_)))
 obtain rfl:=oi j
 exact cD (o.pk 2 [1])
theorem ug {p0 p1:cX} {res: (List cX)} (o:Holds E w V) (j:kC N p0 p1=some res):
    Calls bD 71 [(str p0),(str p1)].toArray w (gR (nk E V res)):=by
 unfold kC at j
 refine enter Tryz.func71 zr zr (RC.sr (aO (.slice none 0 0) (RL.ns (mv (str p0) (mv (str p1) ?_)))))
 obtain⟨ad,aa,j⟩:=bd j
 refine RL.call zt zr Ij [(str p0),(str p1),(vi 0),(vi (-1))] zr (aF (rz N (p0:=p0) (p1:=p1) (p2:=0) (p3:=(-1)) o aa) ?_)
 rintro ab w o
 refine aO ab (RL.nt (RC.ret ?_))
 obtain rfl:=oi j
 exact cD (o.pk 1 [0])
def nI (E:World) (V:List HP) (r:Int) (U:Nat->Value) (w:World):Prop:=lK bD 19 Tryz.f87 (aP E V r) .ret U w
theorem np {p0: (List cX)} {p1:cX->Option Bool} (j:Holds E w V) (h0:V[i0]? =some (rd v0 p0)) (h1:D7 bD E V v1 p1 (fun(r:Bool)=>Value.bool r)) (o:i5 N p0 p1=some res):
    Calls bD 87 [v0,v1].toArray w (gR (aP E V res)):=by
 unfold i5 at o
 refine enter Tryz.func87 zr zr ?_
 have j:=j.dup (i0+0) h0
 refine RC.sr (aO (vi 0) (RL.nq (RC.sr (mv v0 (RL.bE 0 p0 j GJ (mv (vi 0) (RL.nt ?_)))))))
 obtain⟨al,hN,o⟩:=bd o
 refine RC.range (fun(aa:Nat) (ab:Unit)=>SH E V [(0,v0),(1,v1),(7,vi p0.length),(8,vi aa)] [rd v0 p0]) (fun(ab:Unit)=>SH E V [] [rd v0 p0]) (nI E V) hN ?_ ?_ ?_ ?_ ?_
 ·exact j.sp 1 [0]
 ·rintro hm ab _ w ⟨O,rfl,j⟩
  refine RC.sr (ic ((p0.length:Int)) ((p0.length:Int)) (RL.nq (RC.cT m4 (RC.ex ?_))))
  exact⟨rfl,j.sp 1 [0]⟩
 ·rintro hm aa ab fl _ w hk ⟨O,rfl,j⟩ o
  refine RC.sr (ic ((aa:Int)) ((p0.length:Int)) (RL.nq (RC.cS (m0 hk) (RC.ss (RC.bs (mv (vi aa) (aO (vi aa) (RL.ns ?_))))))))
  refine mv v1 (mv v0 (mv (vi aa) ?_))
  obtain⟨af,ah,o⟩:=bd o
  refine RL.cC 0 j Bc ah fun ao j=>(RL.bK af 0 j C4 ?_)
  have j:=j.sc cX af
  obtain⟨aq,ai,o⟩:=bd o
  refine RL.xF 0 zr j zr h1 3 zr zr zr ai fun w j=>(RL.nt (fq o (fun hc o=>?_) fun hc o=>?_))
  rotate_left
  ·refine RC.skip (bU (aG (RC.region (RL.inc hk hm (mv (vi ((aa+1:Nat):Int)) (RL.nil ?_))))))
   obtain rfl:=oi o
   exact⟨rfl,j.sp 3 [2]⟩
  refine RC.sr (mv (vi aa) (aO (vi aa) (RL.nt (RC.rb (bL ?_)))))
  obtain rfl:=oi o
  exact⟨rfl,cD ⟨rfl,j.drop 3⟩⟩
 ·intro r U w e hK
  subst e
  refine bL ?_
  obtain rfl:=oi o
  exact hK
 rintro ab _ w rfl ⟨O,rfl,j⟩
 rw [Fo.fZ] at o
 refine aG (RC.sr (aO (vi (-1)) (RL.nt (RC.ret ?_))))
 obtain rfl:=oi o
 exact cD ⟨rfl,j.drop 1⟩
theorem mj {p0: (List cX)} {p1:cX->Option Bool} {res:Bool} (j:Holds E w V) (h0:V[i0]? =some (rd v0 p0)) (h1:D7 bD E V v1 p1 (fun(r:Bool)=>Value.bool r)) (o:fW N p0 p1=some res):
    Calls bD 70 [v0,v1].toArray w (gR (bF E V res)):=by
 unfold fW at o
 refine enter Tryz.func70 zr zr ?_
 have j:=j.dup (i0+0) h0
 refine RC.sr (aO (vb false) (RL.ns (mv v0 (mv v1 ?_))))
 obtain⟨aa,ab,o⟩:=bd o
 refine RL.call zt zr Il [v0,v1] zr (aF (np N (i0:=0) j zr (h1.lift 1 zr) ab) ?_)
 rintro _ w ⟨rfl,j⟩
 refine ic aa 0 (aO (vb (decide (aa>=0))) (RL.nt (RC.ret ?_)))
 obtain rfl:=oi o
 exact cD ⟨rfl,j.drop 1⟩
theorem qm {p0:cX} (o:Holds E w V) (j:gK N p0 p1=some res):
    Calls bD 73 [(str p0),(.int .u8 p1)].toArray w (gR (aP E V res)):=by
 unfold gK at j
 refine enter Tryz.func73 zr zr (RC.sr (aO (vi 0) (RL.ns (mv (str p0) (mv (.int .u8 p1) ?_)))))
 obtain⟨aa,ab,j⟩:=bd j
 refine RL.call zt zr GF [(str p0),(.int .u8 p1)] zr (aF (kE N (p0:=p0) (p1:=p1) o ab) ?_)
 rintro _ w ⟨rfl,o⟩
 refine aO (vi aa) (RL.nt (RC.ret ?_))
 obtain rfl:=oi j
 exact cD ⟨rfl,o.drop 0⟩
def uh (E:World) (V:List HP) (r:Bool) (U:Nat->Value) (w:World):Prop:=lK bD 49 Tryz.f45 (bF E V r) .ret U w
theorem nT {p0:cX} {res:Bool} (hw:Holds E w V) (o:gG N p0=some res):
    Calls bD 45 [(str p0)].toArray w (gR (bF E V res)):=by
 unfold gG at o
 refine enter Tryz.func45 zr zr (RC.sr (aO (vb false) (RL.nq (RC.sr (mv (str p0) (RL.lens p0 zn (mv (vi 0) (RL.nt ?_))))))))
 obtain⟨ar,hN,o⟩:=bd o
 refine RC.range (fun(ab:Nat) (af:Unit)=>SH E V [(0,(str p0)),(6,vi p0.cG.length),(7,vi ab)] []) (fun(af:Unit)=>SH E V [(0,(str p0))] []) (uh E V) hN ?_ ?_ ?_ ?_ ?_
 ·exact hw.sp 0 []
 ·rintro hm af _ w ⟨O,rfl,hw⟩
  refine RC.sr (ic ((p0.cG.length:Int)) ((p0.cG.length:Int)) (RL.nq (RC.cT m4 (RC.ex ?_))))
  exact⟨rfl,hw.sp 0 []⟩
 ·rintro hm ab af fl _ w hk ⟨O,rfl,hw⟩ o
  refine RC.sr (ic ((ab:Int)) ((p0.cG.length:Int)) (RL.nq (RC.cS (m0 hk) (RC.ss (RC.bs (mv (vi ab) (aO (vi ab) (RL.ns ?_))))))))
  refine mv (str p0) (mv (vi ab) ?_)
  obtain⟨j,al,o⟩:=bd o
  refine RL.idxs p0 (ab:Int) j zr zr zr zn al (aO (.int .u8 (j.toNat:Int)) (RL.nq ?_))
  obtain⟨ag,hj,o⟩:=bd o
  refine RC.jn (fun(ag:Bool)=>SH E V [(0,(str p0)),(6,vi p0.cG.length),(7,vi ab),(39,vb ag)] []) ag ?_ ?_
  ·refine RC.region (mv (.int .u8 (j.toNat:Int)) (ic ((j.toNat:Int)) 65 (mv (vb (decide ((j.toNat:Int)<65))) (RL.gs true (decide ((j.toNat:Int)<65)) (.int .u8 (j.toNat:Int)) rfl rfl rfl eC (RL.gs true (decide ((j.toNat:Int)<65)) (vb (decide ((j.toNat:Int)>90))) rfl rfl rfl (eP .gtr .u8 (j.toNat:Int) 90 rfl (fun h=>by exact(cR h:cv (true&&((decide ((j.toNat:Int)<65))==false)) (.int .u8 (j.toNat:Int))= (.int .u8 (j.toNat:Int)))) (fun _=>rfl) rfl) (RL.pick (decide ((j.toNat:Int)<65)) (vb ((decide ((j.toNat:Int)<65))||(decide ((j.toNat:Int)>90)))) (px true rfl) (mv (vb ((decide ((j.toNat:Int)<65))||(decide ((j.toNat:Int)>90)))) (RL.gs true ((decide ((j.toNat:Int)<65))||(decide ((j.toNat:Int)>90))) (.int .u8 (j.toNat:Int)) rfl rfl rfl eC ?_))))))))
   refine RL.gs true ((decide ((j.toNat:Int)<65))||(decide ((j.toNat:Int)>90))) (vb (decide ((j.toNat:Int)<97))) rfl rfl rfl (eP .lss .u8 (j.toNat:Int) 97 rfl (fun h=>by exact(cR h:cv (true&&(((decide ((j.toNat:Int)<65))||(decide ((j.toNat:Int)>90)))==true)) (.int .u8 (j.toNat:Int))= (.int .u8 (j.toNat:Int)))) (fun _=>rfl) rfl) (RL.gs true ((decide ((j.toNat:Int)<65))||(decide ((j.toNat:Int)>90))) (vb (decide ((j.toNat:Int)<97))) rfl rfl rfl (eC (hx:=fun h=>by exact(cR h:cv (true&&(((decide ((j.toNat:Int)<65))||(decide ((j.toNat:Int)>90)))==true)) (vb (decide ((j.toNat:Int)<97)))= (vb (decide ((j.toNat:Int)<97)))))) (RL.gs (true&&(((decide ((j.toNat:Int)<65))||(decide ((j.toNat:Int)>90)))==true)) (decide ((j.toNat:Int)<97)) (.int .u8 (j.toNat:Int)) rfl rfl rfl eC (RL.gs (true&&(((decide ((j.toNat:Int)<65))||(decide ((j.toNat:Int)>90)))==true)) (decide ((j.toNat:Int)<97)) (vb (decide ((j.toNat:Int)>122))) rfl rfl rfl (eP .gtr .u8 (j.toNat:Int) 122 rfl (fun h=>by exact(cR h:cv ((true&&(((decide ((j.toNat:Int)<65))||(decide ((j.toNat:Int)>90)))==true))&&((decide ((j.toNat:Int)<97))==false)) (.int .u8 (j.toNat:Int))= (.int .u8 (j.toNat:Int)))) (fun _=>rfl) rfl) (RL.gs true ((decide ((j.toNat:Int)<65))||(decide ((j.toNat:Int)>90))) (vb ((decide ((j.toNat:Int)<97))||(decide ((j.toNat:Int)>122)))) rfl rfl rfl (oX (decide ((j.toNat:Int)<97)) rfl (fun h=>by exact(cR h:cv (true&&(((decide ((j.toNat:Int)<65))||(decide ((j.toNat:Int)>90)))==true)) (vb (decide ((j.toNat:Int)<97)))= (vb (decide ((j.toNat:Int)<97))))) (fun h=>by exact px (true&&(((decide ((j.toNat:Int)<65))||(decide ((j.toNat:Int)>90)))==true)) h)) (RL.pick ((decide ((j.toNat:Int)<65))||(decide ((j.toNat:Int)>90))) (vb (((decide ((j.toNat:Int)<65))||(decide ((j.toNat:Int)>90)))&&((decide ((j.toNat:Int)<97))||(decide ((j.toNat:Int)>122))))) (iX true) (mv (vb (((decide ((j.toNat:Int)<65))||(decide ((j.toNat:Int)>90)))&&((decide ((j.toNat:Int)<97))||(decide ((j.toNat:Int)>122))))) (RL.gs true (((decide ((j.toNat:Int)<65))||(decide ((j.toNat:Int)>90)))&&((decide ((j.toNat:Int)<97))||(decide ((j.toNat:Int)>122)))) (.int .u8 (j.toNat:Int)) rfl rfl rfl eC (RL.gs true (((decide ((j.toNat:Int)<65))||(decide ((j.toNat:Int)>90)))&&((decide ((j.toNat:Int)<97))||(decide ((j.toNat:Int)>122)))) (vb (decide ((j.toNat:Int)<48))) rfl rfl rfl (eP .lss .u8 (j.toNat:Int) 48 rfl (fun h=>by exact(cR h:cv (true&&((((decide ((j.toNat:Int)<65))||(decide ((j.toNat:Int)>90)))&&((decide ((j.toNat:Int)<97))||(decide ((j.toNat:Int)>122))))==true)) (.int .u8 (j.toNat:Int))= (.int .u8 (j.toNat:Int)))) (fun _=>rfl) rfl) ?_))))))))
   refine RL.gs true (((decide ((j.toNat:Int)<65))||(decide ((j.toNat:Int)>90)))&&((decide ((j.toNat:Int)<97))||(decide ((j.toNat:Int)>122)))) (vb (decide ((j.toNat:Int)<48))) rfl rfl rfl (eC (hx:=fun h=>by exact(cR h:cv (true&&((((decide ((j.toNat:Int)<65))||(decide ((j.toNat:Int)>90)))&&((decide ((j.toNat:Int)<97))||(decide ((j.toNat:Int)>122))))==true)) (vb (decide ((j.toNat:Int)<48)))= (vb (decide ((j.toNat:Int)<48)))))) (RL.gs (true&&((((decide ((j.toNat:Int)<65))||(decide ((j.toNat:Int)>90)))&&((decide ((j.toNat:Int)<97))||(decide ((j.toNat:Int)>122))))==true)) (decide ((j.toNat:Int)<48)) (.int .u8 (j.toNat:Int)) rfl rfl rfl eC (RL.gs (true&&((((decide ((j.toNat:Int)<65))||(decide ((j.toNat:Int)>90)))&&((decide ((j.toNat:Int)<97))||(decide ((j.toNat:Int)>122))))==true)) (decide ((j.toNat:Int)<48)) (vb (decide ((j.toNat:Int)>57))) rfl rfl rfl (eP .gtr .u8 (j.toNat:Int) 57 rfl (fun h=>by exact(cR h:cv ((true&&((((decide ((j.toNat:Int)<65))||(decide ((j.toNat:Int)>90)))&&((decide ((j.toNat:Int)<97))||(decide ((j.toNat:Int)>122))))==true))&&((decide ((j.toNat:Int)<48))==false)) (.int .u8 (j.toNat:Int))= (.int .u8 (j.toNat:Int)))) (fun _=>rfl) rfl) (RL.gs true (((decide ((j.toNat:Int)<65))||(decide ((j.toNat:Int)>90)))&&((decide ((j.toNat:Int)<97))||(decide ((j.toNat:Int)>122)))) (vb ((decide ((j.toNat:Int)<48))||(decide ((j.toNat:Int)>57)))) rfl rfl rfl (oX (decide ((j.toNat:Int)<48)) rfl (fun h=>by exact(cR h:cv (true&&((((decide ((j.toNat:Int)<65))||(decide ((j.toNat:Int)>90)))&&((decide ((j.toNat:Int)<97))||(decide ((j.toNat:Int)>122))))==true)) (vb (decide ((j.toNat:Int)<48)))= (vb (decide ((j.toNat:Int)<48))))) (fun h=>by exact px (true&&((((decide ((j.toNat:Int)<65))||(decide ((j.toNat:Int)>90)))&&((decide ((j.toNat:Int)<97))||(decide ((j.toNat:Int)>122))))==true)) h)) (RL.pick (((decide ((j.toNat:Int)<65))||(decide ((j.toNat:Int)>90)))&&((decide ((j.toNat:Int)<97))||(decide ((j.toNat:Int)>122)))) (vb ((((decide ((j.toNat:Int)<65))||(decide ((j.toNat:Int)>90)))&&((decide ((j.toNat:Int)<97))||(decide ((j.toNat:Int)>122))))&&((decide ((j.toNat:Int)<48))||(decide ((j.toNat:Int)>57))))) (iX true) (mv (vb ((((decide ((j.toNat:Int)<65))||(decide ((j.toNat:Int)>90)))&&((decide ((j.toNat:Int)<97))||(decide ((j.toNat:Int)>122))))&&((decide ((j.toNat:Int)<48))||(decide ((j.toNat:Int)>57))))) (gv hj (fun ad hj=>?_) fun ad hj=>?_))))))
   rotate_left
   ·refine bS ad (bS ad (bS ad (gx ad (vb false) (RL.nil ?_))))
    obtain rfl:=oi hj
    exact⟨rfl,hw.sp 0 []⟩
   refine RL.move (.int .u8 (j.toNat:Int)) (cg ad) ?_
   obtain⟨aj,an,hj⟩:=bd hj
   refine RL.call (cg ad) zr Im [(str ⟨[95,43,45,35]⟩),(.int .u8 (j.toNat:Int))] zr (aF (qm N (p0:=⟨[95,43,45,35]⟩) (p1:=(j.toNat:Int)) hw an) ?_)
   rintro _ w ⟨rfl,hw⟩
   refine RL.jP aj 0 (cg ad) (gx ad (vb (decide (aj<0))) (RL.nil ?_))
   obtain rfl:=oi hj
   exact⟨rfl,hw.sp 0 []⟩
  rintro _ w ⟨O,rfl,hw⟩
  refine aG (fq o (fun hc o=>?_) fun hc o=>?_)
  rotate_left
  ·refine RC.skip (bU (aG (RC.region (RL.inc hk hm (mv (vi ((ab+1:Nat):Int)) (RL.nil ?_))))))
   obtain rfl:=oi o
   exact⟨rfl,hw.sp 0 []⟩
  refine RC.sr (aO (vb false) (RL.nt (RC.rb (bL ?_))))
  obtain rfl:=oi o
  exact⟨rfl,cD ⟨rfl,hw.drop 0⟩⟩
 ·intro r U w e hK
  subst e
  refine bL ?_
  obtain rfl:=oi o
  exact hK
 rintro af _ w rfl ⟨O,rfl,hw⟩
 rw [Fo.fZ] at o
 refine aG (RC.sr (mv (str p0) (RL.lens p0 zn (ic ((p0.cG.length:Int)) 1 (mv (vb (decide ((p0.cG.length:Int)>=1))) (RL.gs true (decide ((p0.cG.length:Int)>=1)) (str p0) rfl rfl rfl eC (RL.gs true (decide ((p0.cG.length:Int)>=1)) (vi p0.cG.length) rfl rfl rfl (Ef (s:=p0) rfl (fun h=>by exact(cR h:cv (true&&((decide ((p0.cG.length:Int)>=1))==true)) (str p0)= (str p0))) zn) (RL.gs true (decide ((p0.cG.length:Int)>=1)) (vb (decide ((p0.cG.length:Int)<=40))) rfl rfl rfl (eP .leq .i64 (p0.cG.length:Int) 40 rfl (fun h=>by exact(cR h:cv (true&&((decide ((p0.cG.length:Int)>=1))==true)) (vi p0.cG.length)= (vi p0.cG.length))) (fun _=>rfl) rfl) ?_))))))))
 refine RL.pick (decide ((p0.cG.length:Int)>=1)) (vb ((decide ((p0.cG.length:Int)>=1))&&(decide ((p0.cG.length:Int)<=40)))) (iX true) (aO (vb ((decide ((p0.cG.length:Int)>=1))&&(decide ((p0.cG.length:Int)<=40)))) (RL.nt (RC.ret ?_)))
 obtain rfl:=oi o
 exact cD ⟨rfl,hw.drop 0⟩
theorem qo {p0:cX} {res:Bool} (o:Holds E w V) (j:fX N p0=some res):
    Calls bD 72 [(str p0)].toArray w (gR (bF E V res)):=by
 unfold fX at j
 refine enter Tryz.func72 zr zr (RC.sr (aO (vb false) (RL.ns (mv (str p0) ?_))))
 obtain⟨aa,ab,j⟩:=bd j
 refine RL.call zt zr GK [(str p0)] zr (aF (nT N (p0:=p0) o ab) ?_)
 rintro _ w ⟨rfl,o⟩
 refine RL.not aa (aO (vb (!aa)) (RL.nt (RC.ret ?_)))
 obtain rfl:=oi j
 exact cD ⟨rfl,o.drop 0⟩
theorem tg {p0:cX} {res:Bool} (j:Holds E w V) (hb:jY N p0=some res):
    Calls bD 44 [(str p0)].toArray w (gR (bF E V res)):=by
 unfold jY at hb
 refine enter Tryz.func44 zr zr (RC.sr (aO (vb false) (RL.nq ?_)))
 obtain⟨ad,hj,hb⟩:=bd hb
 refine RC.jn (fun(ad:Bool)=>SH E V [(2,vb ad)] []) ad ?_ ?_
 ·refine RC.region (mv (str p0) (RL.lens p0 zn (ic ((p0.cG.length:Int)) 200 (mv (vb (decide ((p0.cG.length:Int)<=200))) (gv hj (fun o hj=>?_) fun o hj=>?_)))))
  rotate_left
  ·refine bS o (bS o (bS o (bS o (gx o (vb false) (aO (vb false) (RL.nil ?_))))))
   obtain rfl:=oi hj
   exact⟨rfl,j.sp 0 []⟩
  refine RL.move (str p0) (cg o) ?_
  obtain⟨ai,af,hj⟩:=bd hj
  refine RL.call (cg o) zr Ik [(str p0),(str ⟨[47]⟩)] zr (aF (ug N (p0:=p0) (p1:=⟨[47]⟩) j af) ?_)
  rintro ag w j
  have j:=j.freeze 0
  obtain⟨ae,ah,hj⟩:=bd hj
  refine RL.call (cg o) rfl Ip [ag,(.func (.func 72) #[] #[])] rfl (aF (mj N (i0:=0) j rfl ⟨72,[],rfl,Io,fun w Γl v y0 r i j hi hr=>by obtain rfl:=j.yH (γ:=cX) hi;exact aF (qo N (p0:=y0) j hr) fun _ _ h=>h⟩ ah) ?_)
  rintro _ w ⟨rfl,j⟩
  refine RL.not (hg:=(cg o)) ae (gx o (vb (!ae)) (aO (vb (!ae)) (RL.nil ?_)))
  obtain rfl:=oi hj
  exact⟨rfl,j.sp 1 []⟩
 rintro _ w ⟨O,rfl,j⟩
 refine aG (RC.ret ?_)
 obtain rfl:=oi hb
 exact cD ⟨rfl,j.drop 0⟩
def vE (E:World) (V:List HP) (res:fB) (v:Value) (w:World):Prop:=Holds E w ([rd v res]++V)
theorem kS {p0:cK} {res:fB} (j:Holds E w V) (h0:V[i0]? =some (rd v0 p0)) (o:jk N p0=some res):
    Calls bD 29 [v0].toArray w (gR (vE E V res)):=by
 unfold jk at o
 refine enter Tryz.func29 zr zr ?_
 have j:=j.dup (i0+0) h0
 refine RC.sr (RL.dD 0 v0 j zr fun aa w j=>?_)
 refine RL.alloc j GL.z fun ab w j=>?_
 refine RL.ns (RL.bA zr C3 (RL.aN 1 j zr xe C4 (RL.bA zr C5 (RL.aN 1 j zr xf C4 ?_))))
 have j:=(j.sc cX p0.Part).sc cX p0.fB
 refine RL.build (⟨p0.Part,p0.fB⟩:fB) trivial rfl j [(0,(str p0.Part)),(1,(str p0.fB))] rfl FN rfl (fun M hs g=>by have h:=CZ M;exact dJ.cons (f:=fun(x:fB) y=>{x with Part:=y}) h vt (g.sat 1 _ rfl).1 fun _ h=>dJ.cons (f:=fun(x:fB) y=>{x with fB:=y}) h vu (g.sat 0 _ rfl).1 fun _ h=>dJ.nil h) fun ad j=>?_
 refine RL.bG 3 j 0 zr mS fun w j=>?_
 refine RL.nt (RC.ret ?_)
 obtain rfl:=oi o
 exact Ft 3 zr j zr zr mS fun ae j=>(j.pk 7 [0])
theorem oh {p0 p1:cX} (o:Holds E w V) (j:jJ N p0 p1=some res):
    Calls bD 58 [(str p0),(str p1)].toArray w (gR (aP E V res)):=by
 unfold jJ at j
 refine enter Tryz.func58 zr zr (RC.sr (aO (vi 0) (RL.ns (mv (str p0) (mv (str p1) (RL.vg (vi (Lib.compareBytes p0.cG p1.cG)) zr [(str p0),(str p1)] zr (Gq p0 p1 w) (aO (vi (Lib.compareBytes p0.cG p1.cG)) (RL.nt ?_))))))))
 refine RC.ret ?_
 obtain rfl:=oi j
 exact cD ⟨rfl,o.drop 0⟩
theorem nr {p0 p1:cX} (o:Holds E w V) (j:kQ N p0 p1=some res):
    Calls bD 35 [(str p0),(str p1)].toArray w (gR (aP E V res)):=by
 unfold kQ at j
 refine enter Tryz.func35 zr zr (RC.sr (aO (vi 0) (RL.ns (mv (str p0) (mv (str p1) ?_)))))
 obtain⟨aa,ab,j⟩:=bd j
 refine RL.call zt zr Ir [(str p0),(str p1)] zr (aF (oh N (p0:=p0) (p1:=p1) o ab) ?_)
 rintro _ w ⟨rfl,o⟩
 refine aO (vi aa) (RL.nt (RC.ret ?_))
 obtain rfl:=oi j
 exact cD ⟨rfl,o.drop 0⟩
theorem eQ {p0 p1:fB} (j:Holds E w V) (h0:V[i0]? =some (rd v0 p0)) (h1:V[i1]? =some (rd v1 p1)) (o:cY N p0 p1=some res):
    Calls bD 14 [v0,v1].toArray w (gR (aP E V res)):=by
 unfold cY at o
 refine enter Tryz.func14 zr zr ?_
 have j:=(j.dup (i0+0) h0).dup (i1+1) h1
 refine RC.sr (RL.dD 1 v0 j zr fun ag w j=>?_)
 refine RL.dD 1 v1 j zr fun ah w j=>?_
 refine aO (vi 0) (RL.nq (RC.sr (RL.bA zr C6 (RL.aN 1 j zr zh C4 (RL.bA zr C6 (RL.aN 0 j zr zh C4 ?_))))))
 obtain⟨aa,ab,o⟩:=bd o
 refine RL.call zt zr GM [(str p0.Part),(str p1.Part)] zr (aF (nr N (p0:=p0.Part) (p1:=p1.Part) j ab) ?_)
 rintro _ w ⟨rfl,j⟩
 refine aO (vi aa) (RL.ns (mv (vi aa) (ic aa 0 (RL.nt (fq o (fun hc o=>?_) fun hc o=>?_)))))
 ·refine RC.sr (mv (vi aa) (aO (vi aa) (RL.nt (RC.rt ?_))))
  obtain rfl:=oi o
  exact cD ⟨rfl,j.drop 4⟩
 refine RC.sx (RL.bA zr C7 (RL.aN 1 j zr zi C4 (RL.bA zr C7 (RL.aN 0 j zr zi C4 ?_))))
 obtain⟨ae,af,o⟩:=bd o
 refine RL.call zt zr GM [(str p0.fB),(str p1.fB)] zr (aF (nr N (p0:=p0.fB) (p1:=p1.fB) j af) ?_)
 rintro _ w ⟨rfl,j⟩
 refine aO (vi ae) (RL.nt (RC.ret ?_))
 obtain rfl:=oi o
 exact cD ⟨rfl,j.drop 4⟩
def rA (E:World) (V:List HP) (r:Int) (U:Nat->Value) (w:World):Prop:=lK bD 60 Tryz.f21 (aP E V r) .ret U w
theorem qp {p0:iD} (j:Holds E w V) (h0:V[i0]? =some (rd v0 p0)) (hb:iM N p0=some res):
    Calls bD 21 [v0].toArray w (gR (aP E V res)):=by
 unfold iM at hb
 refine enter Tryz.func21 zr zr ?_
 have j:=j.dup (i0+0) h0
 refine RC.sr (RL.dD 0 v0 j zr fun ag w j=>?_)
 have j:=j.gm (i:=0) rfl
 refine aO (vi 0) (RL.nq (RC.sr (RL.gS 0 j zr tZ pW fun bk j=>(RL.bT 0 p0.aZ j BY fun bl j=>(RL.bE 0 p0.aZ j C2 (ic ((p0.aZ.length:Int)) 1000 (RL.nt (fq hb (fun hc hb=>?_) fun hc hb=>?_))))))))
 ·refine RC.sr (aO (vi 2) (RL.nt (RC.rt ?_)))
  obtain rfl:=oi hb
  exact cD ⟨rfl,j.drop 4⟩
 refine RC.ss (RC.sr (RL.gS 2 j zr tZ pW fun bm j=>(RL.bT 0 p0.aZ j BY fun ah j=>(RL.bE 0 p0.aZ j C2 (mv (vi 0) (RL.nt ?_))))))
 obtain⟨bn,hN,hb⟩:=bd hb
 refine RC.range (fun(ad:Nat) (ak:Unit)=>SH E V [(1,vp ag 0),(10,ah),(11,vi p0.aZ.length),(12,vi ad)] [pt (vp ag 0) p0,rd ah p0.aZ]) (fun(ak:Unit)=>SH E V [] [pt (vp ag 0) p0,rd ah p0.aZ]) (rA E V) hN ?_ ?_ ?_ ?_ ?_
 ·exact j.sp 6 [4,0]
 ·rintro hm ak _ w ⟨O,rfl,j⟩
  refine RC.sr (ic ((p0.aZ.length:Int)) ((p0.aZ.length:Int)) (RL.nq (RC.cT m4 (RC.ex ?_))))
  exact⟨rfl,j.sp 2 [0,1]⟩
 ·rintro hm ad ak fl _ w hk ⟨O,rfl,j⟩ hb
  refine RC.sr (ic ((ad:Int)) ((p0.aZ.length:Int)) (RL.nq (RC.cS (m0 hk) (RC.ss (RC.bs (mv (vi ad) ?_))))))
  obtain⟨ai,a1,hb⟩:=bd hb
  refine RL.cC 1 j BZ a1 fun bp j=>(RL.bT 0 ai j vB fun bq j=>(RL.alloc j FM.z fun al w j=>?_))
  refine aO (vi ad) (RL.bG 0 j 1 zr vB fun w j=>?_)
  refine RL.nt (RC.block (RC.seq ?_))
  obtain⟨an,o,hb⟩:=bd hb
  refine RC.jn (fun(an:Bool)=>SH E V [(1,vp ag 0),(3,vi ad),(4,vp al 0),(10,ah),(11,vi p0.aZ.length),(12,vi ad),(17,vb an)] [pt (vp ag 0) p0,bx 53 al ai,rd ah p0.aZ]) an ?_ ?_
  ·refine RC.region (RL.bA zr C3 (RL.aN 0 j zr xe C4 ?_))
   obtain⟨ay,a2,o⟩:=bd o
   refine RL.call zt zr Iq [(str ai.Part)] zr (aF (tg N (p0:=ai.Part) j a2) ?_)
   rintro _ w ⟨rfl,j⟩
   refine RL.not ay (mv (vb (!ay)) (gv o (fun ae o=>?_) fun ae o=>?_))
   ·refine bS ae (bS ae (bS ae (bS ae (gx ae (vb true) (aO (vb true) (RL.nil ?_))))))
    obtain rfl:=oi o
    exact⟨rfl,j.sp 5 [3,0,4]⟩
   refine RL.bA (hg:=(cg ae)) zr C5 (RL.aN (hg:=(cg ae)) 0 j zr xf C4 ?_)
   obtain⟨ao,a3,o⟩:=bd o
   refine RL.call (cg ae) zr GK [(str ai.fB)] zr (aF (nT N (p0:=ai.fB) j a3) ?_)
   rintro _ w ⟨rfl,j⟩
   refine RL.not (hg:=(cg ae)) ao (gx ae (vb (!ao)) (aO (vb (!ao)) (RL.nil ?_)))
   obtain rfl:=oi o
   exact⟨rfl,j.sp 5 [3,0,4]⟩
  rintro _ w ⟨O,rfl,j⟩
  refine aG (fq hb (fun hc hb=>?_) fun hc hb=>?_)
  ·refine RC.sr (aO (vi 5) (RL.nt (RC.rb (iY (bL ?_)))))
   obtain rfl:=oi hb
   exact⟨rfl,cD ⟨rfl,j.drop 3⟩⟩
  refine RC.seq ?_
  obtain⟨aq,o,hb⟩:=bd hb
  refine RC.jn (fun(aq:Bool)=>SH E V [(1,vp ag 0),(3,vi ad),(4,vp al 0),(10,ah),(11,vi p0.aZ.length),(12,vi ad),(28,vb aq)] [pt (vp ag 0) p0,bx 53 al ai,rd ah p0.aZ]) aq ?_ ?_
  ·refine RC.region (RL.bA zr Ar (RL.aN 1 j zr tU cH (RL.gS 0 j zr tW oE fun br j=>(RL.bT 0 p0.aJ j BS fun bt j=>(RL.bE 0 p0.aJ j zk (RL.jC (p0.aJ.length:Int) 1 ?_))))))
   obtain⟨az,a4,o⟩:=bd o
   refine RL.call zt zr Eu [(vi ai.eK),(vi 0),(vi (IntKind.wrap .i64 ((p0.aJ.length:Int) - 1)))] zr (aF (kq N (p0:=ai.eK) (p1:=0) (p2:=(IntKind.wrap .i64 ((p0.aJ.length:Int) - 1))) j a4) ?_)
   rintro _ w ⟨rfl,j⟩
   refine RL.not az (mv (vb (!az)) (gv o (fun af o=>?_) fun af o=>?_))
   ·refine bS af (bS af (bS af (bS af (gx af (vb true) (aO (vb true) (RL.nil ?_))))))
    obtain rfl:=oi o
    exact⟨rfl,j.sp 5 [2,3,4]⟩
   refine RL.bA (hg:=(cg af)) zr As (RL.aX (hg:=(cg af)) 3 j zr tV Ev fun a5 j=>?_)
   obtain⟨ar,a6,o⟩:=bd o
   refine RL.call (cg af) zr GD [a5] zr (aF (oJ N (i0:=0) j zr a6) ?_)
   rintro _ w ⟨rfl,j⟩
   refine RL.not (hg:=(cg af)) ar (gx af (vb (!ar)) (aO (vb (!ar)) (RL.nil ?_)))
   obtain rfl:=oi o
   exact⟨rfl,j.sp 6 [3,4,5]⟩
  rintro _ w ⟨O,rfl,j⟩
  refine aG (fq hb (fun hc hb=>?_) fun hc hb=>?_)
  ·refine RC.sr (aO (vi 1) (RL.nt (RC.rb (iY (bL ?_)))))
   obtain rfl:=oi hb
   exact⟨rfl,cD ⟨rfl,j.drop 3⟩⟩
  refine RC.seq ?_
  obtain⟨au,o,hb⟩:=bd hb
  refine RC.jn (fun(au:Bool)=>SH E V [(1,vp ag 0),(10,ah),(11,vi p0.aZ.length),(12,vi ad),(43,vb au)] [pt (vp ag 0) p0,rd ah p0.aZ]) au ?_ ?_
  ·refine RC.wz mixed [0,0,0,0,2,1,1,1,1,1,1,2,2,0,0,0] [0,1,2,3,5,6,7,8,9,10,4,11,12,13,14,15] ?_
   have j:=j.drew
   refine DP.e0 zr (mv (vi ad) (bZ zr (ic ((ad:Int)) 0 (bZ zr (mv (vb (decide ((ad:Int)>0))) (DP.d0 (gv o (fun ab o=>?_) fun ab o=>?_)))))))
   rotate_left
   ·refine DP.e0 zr (bS ab (DP.d0 (DP.e1 undef zr (fun w=>bS ab DP.d1) (DP.e1 undef zr (fun w=>bS ab DP.d1) (DP.e1 undef zr (fun w=>bS ab DP.d1) (DP.e1 undef zr (fun w=>bS ab DP.d1) (DP.e1 undef zr (fun w=>bS ab DP.d1) (DP.e1 undef zr (fun w=>bS ab DP.d1) ?_))))))))
    refine DP.e2 zr (bS ab (Er zr (bS ab (Er zr (bS ab (wC zr (bS ab (bZ zr ?_))))))))
    refine gx ab (vb false) (bZ zr (aO (vb false) (DP.d0 (DP.z ?_))))
    obtain rfl:=oi o
    exact⟨rfl,j.sp 3 [0,2]⟩
   refine DP.e0 zr (RL.aX (hg:=(cg ab)) (f:=(fun x=>x)) 1 j zr Fd.self vB fun a7 j=>(DP.d0 (DP.Es 1 zr zr (cg ab) zr j zr zr tZ pW fun bu j=>(DP.uP (hg:=(cg ab)) p0.aZ 0 zr j BY fun bw a378 bz j=>(DP.e1 (vi ad) zr (fun w=>RL.move (vi ad) (cg ab) DP.d1) (DP.e1 (vi (IntKind.wrap .i64 ((ad:Int) - 1))) zr (fun w=>RL.jC (hg:=(cg ab)) (ad:Int) 1 DP.d1) ?_))))))
   obtain⟨a8,a9,o⟩:=bd o
   refine DP.FJ 1 zr zr (cg ab) zr j zr zr zr BZ a9 fun b0 j=>(DP.uP (hg:=(cg ab)) a8 0 zr j vB fun ba a383 b1 j=>(DP.e2 zr ?_))
   obtain⟨b2,bb,o⟩:=bd o
   refine RL.call (cg ab) zr Ew [a7] zr (aF (kS N (i0:=6) j zr bb) ?_)
   rintro bc w j
   refine DP.d2 (⟨⟨zt,j.jA 4⟩,j.jA 1⟩) (DP.e2 zr ?_)
   obtain⟨b3,bf,o⟩:=bd o
   refine RL.call (cg ab) zr Ew [ba] zr (aF (kS N (i0:=2) j zr bf) ?_)
   rintro bg w j
   refine DP.d2 (⟨⟨zt,j.jA 5⟩,j.jA 2⟩) (DP.e2 zr ?_)
   obtain⟨av,bh,o⟩:=bd o
   refine RL.call (cg ab) zr B0 [bc,bg] zr (aF (eQ N (i0:=1) (i1:=0) j zr zr bh) ?_)
   rintro _ w ⟨rfl,j⟩
   refine DP.d2 (⟨⟨zt,j.jA 5⟩,j.jA 2⟩) (DP.e0 zr (RL.jP av 0 (cg ab) (bZ zr (gx ab (vb (decide (av<=0))) (bZ zr (aO (vb (decide (av<=0))) (DP.d0 ?_)))))))
   have j:=j.pl 12 [0,1,3,4,6,7,8,9,10,11]
   refine DP.z ?_
   obtain rfl:=oi o
   exact⟨rfl,j.sp 10 [7,9]⟩
  rintro _ w ⟨O,rfl,j⟩
  refine aG (fq hb (fun hc hb=>?_) fun hc hb=>?_)
  rotate_left
  ·refine RC.skip (bU (bU (aG (RC.region (RL.inc hk hm (mv (vi ((ad+1:Nat):Int)) (RL.nil ?_)))))))
   obtain rfl:=oi hb
   exact⟨rfl,j.sp 2 [0,1]⟩
  refine RC.sr (aO (vi 8) (RL.nt (RC.rb (iY (bL ?_)))))
  obtain rfl:=oi hb
  exact⟨rfl,cD ⟨rfl,j.drop 2⟩⟩
 ·intro r U w e hK
  subst e
  refine bL ?_
  obtain rfl:=oi hb
  exact hK
 rintro ak _ w rfl ⟨O,rfl,j⟩
 rw [Fo.fZ] at hb
 refine aG (RC.sr (aO (vi 0) (RL.nt (RC.ret ?_))))
 obtain rfl:=oi hb
 exact cD ⟨rfl,j.drop 2⟩
theorem oL (o:Holds E w V) (j:jG N p0 p1 p2 p3=some res):
    Calls bD 47 [(vi p0),(vi p1),(vi p2),(vi p3)].toArray w (gR (aP E V res)):=by
 unfold jG at j
 refine enter Tryz.func47 zr zr (RC.sr (aO (vi 0) (RL.ns (mv (vi p2) (mv (vi p1) (RL.jC p2 p1 (RL.jC (IntKind.wrap .i64 (p2 - p1)) 1 (mv (vi p0) ?_))))))))
 refine mv (vi p3) (RL.jC p0 p3 (RL.jC (IntKind.wrap .i64 (p0 - p3)) 1 (RL.HT (a:=0) (b:=(IntKind.wrap .i64 ((IntKind.wrap .i64 (p2 - p1))+1))) (c:=(IntKind.wrap .i64 ((IntKind.wrap .i64 (p0 - p3))+1))) zt zr zr zr zr (aO (vi (if (if 0< (IntKind.wrap .i64 ((IntKind.wrap .i64 (p2 - p1))+1)) then (IntKind.wrap .i64 ((IntKind.wrap .i64 (p2 - p1))+1)) else 0)< (IntKind.wrap .i64 ((IntKind.wrap .i64 (p0 - p3))+1)) then (IntKind.wrap .i64 ((IntKind.wrap .i64 (p0 - p3))+1)) else (if 0< (IntKind.wrap .i64 ((IntKind.wrap .i64 (p2 - p1))+1)) then (IntKind.wrap .i64 ((IntKind.wrap .i64 (p2 - p1))+1)) else 0))) (RL.nt (RC.ret ?_))))))
 obtain rfl:=oi j
 exact cD ⟨rfl,o.drop 0⟩
theorem ye {p0 p1:aI} (j:Holds E w V) (h0:V[i0]? =some (rd v0 p0)) (h1:V[i1]? =some (rd v1 p1)) (o:oy N p0 p1=some res):
    Calls bD 22 [v0,v1].toArray w (gR (aP E V res)):=by
 unfold oy at o
 refine enter Tryz.func22 zr zr ?_
 have j:=(j.dup (i0+0) h0).dup (i1+1) h1
 refine RC.sr (RL.dD 1 v0 j zr fun aa w j=>?_)
 refine RL.dD 1 v1 j zr fun ab w j=>?_
 refine aO (vi 0) (RL.nq ?_)
 have j:=j.drew
 refine RC.CW (fun w=>Holds E w ([bx 49 ab p1,bx 49 aa p0]++V)) mixed zr [0,0,0,0,0,0,0,0,2,1,1,1,1,1,1,1,1,2,0,0] [0,1,2,3,4,5,6,7,9,10,11,12,13,14,15,16,8,17,18,19] (j.pk 4 [0,1]) (DP.e0 zr (RL.bA zr jm (bZ zr (RL.aN 1 j zr eX cH (bZ zr (RL.bA zr j4 (bZ zr (RL.aN 1 j zr fY cH ?_))))))))
 refine bZ zr (RL.bA zr jm (bZ zr (RL.aN 0 j zr eX cH (bZ zr (RL.bA zr j4 (bZ zr (RL.aN 0 j zr fY cH (DP.d0 ?_))))))))
 refine DP.e1 (vp aa 1) zr (fun w=>RL.bA zr j3 DP.d1) (DP.FH (vi p0.Y0) zr (fun w j=>RL.aN 1 j zr fM cH DP.d1) (DP.e1 (vp aa 3) zr (fun w=>RL.bA zr nj DP.d1) (DP.FH (vi p0.Y1) zr (fun w j=>RL.aN 1 j zr i9 cH DP.d1) (DP.e1 (vp ab 1) zr (fun w=>RL.bA zr j3 DP.d1) (DP.FH (vi p1.Y0) zr (fun w j=>RL.aN 0 j zr fM cH DP.d1) (DP.e1 (vp ab 3) zr (fun w=>RL.bA zr nj DP.d1) (DP.FH (vi p1.Y1) zr (fun w j=>RL.aN 0 j zr i9 cH DP.d1) (DP.e2 zr ?_))))))))
 obtain⟨ad,af,o⟩:=bd o
 refine RL.call zt zr GN [(vi p0.X0),(vi p0.X1),(vi p1.X0),(vi p1.X1)] zr (aF (oL N (p0:=p0.X0) (p1:=p0.X1) (p2:=p1.X0) (p3:=p1.X1) j af) ?_)
 rintro _ w ⟨rfl,j⟩
 refine DP.d2 (j.pk 4 [0,1]) (DP.e2 zr ?_)
 obtain⟨ae,ag,o⟩:=bd o
 refine RL.call zt zr GN [(vi p0.Y0),(vi p0.Y1),(vi p1.Y0),(vi p1.Y1)] zr (aF (oL N (p0:=p0.Y0) (p1:=p0.Y1) (p2:=p1.Y0) (p3:=p1.Y1) j ag) ?_)
 rintro _ w ⟨rfl,j⟩
 refine DP.d2 (j.pk 4 [0,1]) (DP.e0 zr (RL.max ad ae (bZ zr (aO (vi (if ad<ae then ae else ad)) (DP.d0 (DP.z (aG (RC.ret ?_))))))))
 obtain rfl:=oi o
 exact cD ⟨rfl,j.drop 4⟩
end Go.Gk
